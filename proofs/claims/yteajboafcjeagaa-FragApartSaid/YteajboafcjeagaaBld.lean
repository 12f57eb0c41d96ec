/-
  A builder: a function that puts numbers behind what a variable holds.
-/
import Derived.Test.YteajboafcjeagaaOps
import Derived.Test.YteajboafcjeagaaPlanZ
import Derived.Test.YteajboafcjeagaaNumC
namespace Go.Proofs.Yteajboafcjeagaa
set_option maxRecDepth 20000
open Go.RowKit
set_option linter.unusedVariables false
set_option linter.unusedSimpArgs false

/-- As op_appB, with a bound of its own. -/
theorem op_appX {o : Oper} {a : Act} {Bd : Nat} {w0 w : World} {K : Act → World → Prop} {Q : Exit → Act → World → Prop} (s x : Operand)
    (ho : o.op = .call { callee := .builtin .append, args := #[s, x], argTypes := #[35, 35] })
    (hb : Below Bd w0 w) (hBw : Bd ≤ w.heap.size) {base : Nat} (hbase : Bd ≤ base) (hbw : base ≤ w.heap.size) (A : Option Addr) (n c : Nat) (xs : List UInt8) (hs : a.eval s = .slice A n c) (hown : OwnB w base A n c xs)
    (B : Option Addr) (m d : Nat) (ys : List UInt8) (hx : a.eval x = .slice B m d) (hr : RdB w B m d ys) (hm : n + m ≤ 70368744177664) (k : Nat) (zs : List UInt8) (hk : n + m = k) (hz : xs ++ ys = zs)
    (h : ∀ A' c' w', OwnB w' base A' k c' zs → Below Bd w0 w' → w.grownBy w' (Value.slice A n c).ownBlock → K (a.put o.dst (.slice A' k c')) w') : o.wp Try.prog a w K Q := by
  subst hk hz
  obtain ⟨A', c', w', hr', h2, h3⟩ := run_app (P := Try.prog) (w := w) elemB o.type base _ n _ hown B m d _ hr.1 (by simpa using hr.2.1) (oneCell_vB _) (by unfold maxLen; omega) (by omega) hbw
  unfold Oper.wp execOp
  simp only [ho, resolve, invoke, builtin, Sem.run_bind, Sem.run_pure, Result.andThen_ok, List.map_toArray, List.map_cons, List.map_nil, hs, hx, hr']
  refine h A' c' w' ?_ ?_ h3
  · unfold OwnB; rw [List.map_append]; exact h2
  · exact hb.grown h3 hBw (fun q hq => Nat.le_trans hbase (hown.lt q hq).1)

/-- A row of the call's own beside a cell that is written. -/
theorem own_far {w : World} {base : Nat} {A : Option Addr} {n c : Nat} {xs : List UInt8} (h : OwnB w base A n c xs) (p : Addr) (v : Value) (hp : p.block < base) : OwnB (w.setCell p v) base A n c xs := by
  refine ⟨h.1, ?_⟩
  rcases h.2 with h2 | ⟨g, cap, cur, hv, hg, hh, r⟩
  · exact .inl h2
  · refine .inr ⟨g, cap, cur, hv, hg, ?_, r⟩
    have hne : ¬ p.block = g := by omega
    rw [← hh]
    simp [World.setCell, Array.getElem?_modify, hne]
/-- What the builder's variable (block g; its pointer in block h) holds. -/
def BldAt (w0 w : World) (g h : Nat) (xs : List UInt8) : Prop :=
  Below w0.heap.size w0 w ∧ w0.heap.size ≤ g ∧ g < h ∧ h < w.heap.size ∧ w.cell? ⟨h, 0, none⟩ = some (.pointer (some ⟨g, 0, none⟩)) ∧ w.frozen? ⟨g, 0, none⟩ = false ∧
    ∃ A n c, w.cell? ⟨g, 0, none⟩ = some (.slice A n c) ∧ OwnB w (h + 1) A n c xs
def RetBld (w0 : World) (g h : Nat) (xs : List UInt8) (e : Ending) (w' : World) : Prop := e = .returned (.tuple #[]) ∧ BldAt w0 w' g h xs
theorem BldAt.below {w0 w w' : World} {g h : Nat} {xs : List UInt8} (H : BldAt w0 w g h xs) (hb : Below w.heap.size w w') : BldAt w0 w' g h xs := by
  obtain ⟨h1, h2, h3, h4, h5, h6, A, n, c, h7, h8⟩ := H
  exact ⟨below_then h1 hb, h2, h3, Nat.lt_of_lt_of_le h4 hb.size, (hb.cell (p := ⟨h, 0, none⟩) h4).trans h5, (hb.frozen (p := ⟨g, 0, none⟩) (by show g < _; omega)).trans h6, A, n, c, (hb.cell (p := ⟨g, 0, none⟩) (by show g < _; omega)).trans h7, h8.below hb⟩

end Go.Proofs.Yteajboafcjeagaa
