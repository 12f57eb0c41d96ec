/-
  Layer 18, frames: cards' addresses, Own, All, Mine.
-/
import Derived.Test.YtnfepikgbdeomaaBox
import Derived.Test.YtnfepikgbdeomaaPlan
import Derived.Handy
import Derived.DeepKeys
namespace Go.Proofs.Ytnfepikgbdeomaa
set_option maxRecDepth 20000
open Go.RowKit
set_option linter.unusedVariables false
set_option linter.unusedSimpArgs false

/-- A card's address. -/
structure Mc where
  a0 : UInt8
  a1 : UInt8
  a2 : UInt8
  a3 : UInt8
  a4 : UInt8
  a5 : UInt8
def Mc.l (m : Mc) : List UInt8 := [m.a0, m.a1, m.a2, m.a3, m.a4, m.a5]
def mcAt (xs : List UInt8) (k : Nat) : Mc := ⟨xs.getD k 0, xs.getD (k + 1) 0, xs.getD (k + 2) 0, xs.getD (k + 3) 0, xs.getD (k + 4) 0, xs.getD (k + 5) 0⟩
def mcOwn : Mc := ⟨2, 0, 0, 0, 0, 1⟩
def mcAll : Mc := ⟨255, 255, 255, 255, 255, 255⟩
def mcZero : Mc := ⟨0, 0, 0, 0, 0, 0⟩
/-- The same address? -/
def mcEq (m k : Mc) : Bool := decide (m.l = k.l)
theorem mcEq_self (m : Mc) : mcEq m m = true := by simp [mcEq]
theorem mcEq_iff (m k : Mc) : mcEq m k = true ↔ m = k := by
  obtain ⟨a0, a1, a2, a3, a4, a5⟩ := m
  obtain ⟨b0, b1, b2, b3, b4, b5⟩ := k
  simp [mcEq, Mc.l]

theorem isAgg_u8 (w : World) : (isAgg 5).run Try.prog w = .ok false w := by
  unfold isAgg
  rw [Sem.run_bind, run_underlying Try.underlying5 w]
  rfl
theorem cellsOf_u8 : Try.prog.cellsOf 5 = 1 := by kernel_rfl
theorem eqItems_u8 (d : Nat) (w : World) (xs ys : List UInt8) : ∀ (is : List Nat), (∀ i ∈ is, i < xs.length ∧ i < ys.length) →
    (Op.eqItems (d + 1) 5 1 (xs.map vB).toArray (ys.map vB).toArray is).run Try.prog w = .ok (is.all fun i => decide (xs[i]? = ys[i]?)) w
  | [], _ => by simp [Op.eqItems]
  | i :: is, h => by
    have ih := eqItems_u8 d w xs ys is (fun j hj => h j (by simp [hj]))
    obtain ⟨h1, h2⟩ := h i (by simp)
    have e1 : ∀ zs : List UInt8, (hz : i < zs.length) → (part 5 (zs.map vB).toArray (i * 1)).run Try.prog w = .ok (.int .u8 (zs[i].toNat : Int)) w := by
      intro zs hz
      simp [part, isAgg_u8, hz, vB]
    have e2 : ((xs[i].toNat : Int) == (ys[i].toNat : Int)) = decide (xs[i]? = ys[i]?) := by
      rw [List.getElem?_eq_getElem h1, List.getElem?_eq_getElem h2]
      by_cases e : xs[i] = ys[i]
      · simp [e]
      · have : ¬ ((xs[i].toNat : Int) = (ys[i].toNat : Int)) := fun h => e (UInt8.toNat_inj.1 (by omega))
        simp [e, this]
    simp only [Op.eqItems, Sem.run_bind, e1 xs h1, e1 ys h2, Result.andThen_ok, run_equalIn_int (P := Try.prog) w d 5 .u8 .u8 _ _ Try.underlying5, e2, List.all_cons]
    cases decide (xs[i]? = ys[i]?) <;> simp [ih]

theorem run_eql_mac (w : World) (m k : Mc) : (binOp .eql 96 (.agg #[.int .u8 (m.a0.toNat : Int), .int .u8 (m.a1.toNat : Int), .int .u8 (m.a2.toNat : Int), .int .u8 (m.a3.toNat : Int), .int .u8 (m.a4.toNat : Int), .int .u8 (m.a5.toNat : Int)]) (.agg #[.int .u8 (k.a0.toNat : Int), .int .u8 (k.a1.toNat : Int), .int .u8 (k.a2.toNat : Int), .int .u8 (k.a3.toNat : Int), .int .u8 (k.a4.toNat : Int), .int .u8 (k.a5.toNat : Int)])).run Try.prog w = .ok (.bool (mcEq m k)) w := by
  obtain ⟨i, hi, _⟩ := info_parts elemB.info
  have h := eqItems_u8 9998 w m.l k.l (List.range 6) (by intro i hi; simpa [Mc.l] using hi)
  have e : ((List.range 6).all fun i => decide (m.l[i]? = k.l[i]?)) = mcEq m k := by
    obtain ⟨a0, a1, a2, a3, a4, a5⟩ := m
    obtain ⟨b0, b1, b2, b3, b4, b5⟩ := k
    simp [List.range_succ, mcEq, Mc.l]
  rw [e] at h
  rw [run_eql_struct, show (10000 : Nat) = 9999 + 1 from rfl, run_equalIn_array _ _ _ _ Try.underlying96 hi, cellsOf_u8]
  have h2 : ∀ z : Mc, (z.l.map vB).toArray = #[.int .u8 (z.a0.toNat : Int), .int .u8 (z.a1.toNat : Int), .int .u8 (z.a2.toNat : Int), .int .u8 (z.a3.toNat : Int), .int .u8 (z.a4.toNat : Int), .int .u8 (z.a5.toNat : Int)] := fun z => rfl
  rw [h2, h2] at h
  rw [h]; rfl

theorem ethOwn_any (w : World) : Calls Try.prog 104 #[] w (RetV w (.tuple #[.agg #[.int .u8 (mcOwn.a0.toNat : Int), .int .u8 (mcOwn.a1.toNat : Int), .int .u8 (mcOwn.a2.toNat : Int), .int .u8 (mcOwn.a3.toNat : Int), .int .u8 (mcOwn.a4.toNat : Int), .int .u8 (mcOwn.a5.toNat : Int)], .int .u32 167772161])) := by
  go_enter Try.func104, Try.ntmps104
  go_wp2
  exact bodyPost_ret (v := .tuple #[.agg #[.int .u8 (mcOwn.a0.toNat : Int), .int .u8 (mcOwn.a1.toNat : Int), .int .u8 (mcOwn.a2.toNat : Int), .int .u8 (mcOwn.a3.toNat : Int), .int .u8 (mcOwn.a4.toNat : Int), .int .u8 (mcOwn.a5.toNat : Int)], .int .u32 167772161]) (by simp [results, Try.results104, go_sem, alloc_box, mcOwn]) rfl ⟨rfl, (below_self w).alloc (Nat.le_refl _) _⟩
theorem refOwn18_any (w : World) : Calls Try.prog 53 #[] w (RetV w (.tuple #[.agg #[.int .u8 (mcOwn.a0.toNat : Int), .int .u8 (mcOwn.a1.toNat : Int), .int .u8 (mcOwn.a2.toNat : Int), .int .u8 (mcOwn.a3.toNat : Int), .int .u8 (mcOwn.a4.toNat : Int), .int .u8 (mcOwn.a5.toNat : Int)], .int .u32 167772161])) := by
  go_enter Try.func53, Try.ntmps53
  go_wp2
  exact bodyPost_ret (v := .tuple #[.agg #[.int .u8 (mcOwn.a0.toNat : Int), .int .u8 (mcOwn.a1.toNat : Int), .int .u8 (mcOwn.a2.toNat : Int), .int .u8 (mcOwn.a3.toNat : Int), .int .u8 (mcOwn.a4.toNat : Int), .int .u8 (mcOwn.a5.toNat : Int)], .int .u32 167772161]) (by simp [results, Try.results53, go_sem, alloc_box, mcOwn]) rfl ⟨rfl, (below_self w).alloc (Nat.le_refl _) _⟩
/-- Six cells in a row. -/
def MacAt (w : World) (g o : Nat) (m : Mc) : Prop :=
  w.cell? ⟨g, o, none⟩ = some (.int .u8 (m.a0.toNat : Int)) ∧ w.cell? ⟨g, o + 1, none⟩ = some (.int .u8 (m.a1.toNat : Int)) ∧ w.cell? ⟨g, o + 2, none⟩ = some (.int .u8 (m.a2.toNat : Int)) ∧ w.cell? ⟨g, o + 3, none⟩ = some (.int .u8 (m.a3.toNat : Int)) ∧ w.cell? ⟨g, o + 4, none⟩ = some (.int .u8 (m.a4.toNat : Int)) ∧ w.cell? ⟨g, o + 5, none⟩ = some (.int .u8 (m.a5.toNat : Int))
theorem MacAt.below {W w : World} {g o : Nat} {m : Mc} (h : MacAt W g o m) (hb : Below W.heap.size W w) (hg : g < W.heap.size) : MacAt w g o m := by
  obtain ⟨h0, h1, h2, h3, h4, h5⟩ := h
  exact ⟨(hb.cell (p := ⟨g, _, none⟩) hg).trans h0, (hb.cell (p := ⟨g, _, none⟩) hg).trans h1, (hb.cell (p := ⟨g, _, none⟩) hg).trans h2, (hb.cell (p := ⟨g, _, none⟩) hg).trans h3, (hb.cell (p := ⟨g, _, none⟩) hg).trans h4, (hb.cell (p := ⟨g, _, none⟩) hg).trans h5⟩

/-- What 'Mine' answers. -/
def ethMine (d : Mc) : Bool := mcEq d mcOwn || mcEq d mcAll
end Go.Proofs.Ytnfepikgbdeomaa
