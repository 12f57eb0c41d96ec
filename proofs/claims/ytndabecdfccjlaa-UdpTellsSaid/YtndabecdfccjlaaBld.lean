/-
  A builder: a function that puts numbers behind what a variable holds.
-/
import Derived.Test.YtndabecdfccjlaaOps
import Derived.Test.YtndabecdfccjlaaPlanZ
import Derived.Test.YtndabecdfccjlaaNumC
namespace Go.Proofs.Ytndabecdfccjlaa
set_option maxRecDepth 20000
open Go.RowKit
set_option linter.unusedVariables false
set_option linter.unusedSimpArgs false

/-- As op_appB, with a bound of its own. -/
theorem op_appX {o : Oper} {a : Act} {Bd : Nat} {w0 w : World} {K : Act → World → Prop} {Q : Exit → Act → World → Prop} (s x : Operand)
    (ho : o.op = .call { callee := .builtin .append, args := #[s, x], argTypes := #[23, 23] })
    (hb : Below Bd w0 w) (hBw : Bd ≤ w.heap.size) {base : Nat} (hbase : Bd ≤ base) (hbw : base ≤ w.heap.size) (A : Option Addr) (n c : Nat) (xs : List UInt8) (hs : a.eval s = .slice A n c) (hown : OwnB w base A n c xs)
    (B : Option Addr) (m d : Nat) (ys : List UInt8) (hx : a.eval x = .slice B m d) (hr : RdB w B m d ys) (hm : n + m ≤ 70368744177664) (k : Nat) (zs : List UInt8) (hk : n + m = k) (hz : xs ++ ys = zs)
    (h : ∀ A' c' w', OwnB w' base A' k c' zs → Below Bd w0 w' → w.grownBy w' (Value.slice A n c).ownBlock → K (a.put o.dst (.slice A' k c')) w') : o.wp Try.prog a w K Q := by
  subst hk hz
  obtain ⟨A', c', w', hr', h2, h3⟩ := run_app (P := Try.prog) (w := w) elemB o.type base _ n _ hown B m d _ hr.1 (by simpa using hr.2.1) (oneCell_vB _) (by unfold maxLen; omega) (by omega) hbw
  unfold Oper.wp execOp
  simp only [ho, resolve, invoke, builtin, Sem.run_bind, Sem.run_pure, Result.andThen_ok, List.map_toArray, List.map_cons, List.map_nil, hs, hx, hr']
  refine h A' c' w' ?_ ?_ h3
  · unfold OwnB; rw [List.map_append]; exact h2
  · exact hb.grown h3 hBw (fun q hq => Nat.le_trans hbase (hown.lt q hq).1)

/-- A row of the call's own beside a cell that is written. -/
theorem own_far {w : World} {base : Nat} {A : Option Addr} {n c : Nat} {xs : List UInt8} (h : OwnB w base A n c xs) (p : Addr) (v : Value) (hp : p.block < base) : OwnB (w.setCell p v) base A n c xs := by
  refine ⟨h.1, ?_⟩
  rcases h.2 with h2 | ⟨g, cap, cur, hv, hg, hh, r⟩
  · exact .inl h2
  · refine .inr ⟨g, cap, cur, hv, hg, ?_, r⟩
    have hne : ¬ p.block = g := by omega
    rw [← hh]
    simp [World.setCell, Array.getElem?_modify, hne]
/-- What the builder's variable (block g; its pointer in block h) holds. -/
def BldAt (w0 w : World) (g h : Nat) (xs : List UInt8) : Prop :=
  Below w0.heap.size w0 w ∧ w0.heap.size ≤ g ∧ g < h ∧ h < w.heap.size ∧ w.cell? ⟨h, 0, none⟩ = some (.pointer (some ⟨g, 0, none⟩)) ∧ w.frozen? ⟨g, 0, none⟩ = false ∧
    ∃ A n c, w.cell? ⟨g, 0, none⟩ = some (.slice A n c) ∧ OwnB w (h + 1) A n c xs
def RetBld (w0 : World) (g h : Nat) (xs : List UInt8) (e : Ending) (w' : World) : Prop := e = .returned (.tuple #[]) ∧ BldAt w0 w' g h xs
theorem BldAt.below {w0 w w' : World} {g h : Nat} {xs : List UInt8} (H : BldAt w0 w g h xs) (hb : Below w.heap.size w w') : BldAt w0 w' g h xs := by
  obtain ⟨h1, h2, h3, h4, h5, h6, A, n, c, h7, h8⟩ := H
  exact ⟨below_then h1 hb, h2, h3, Nat.lt_of_lt_of_le h4 hb.size, (hb.cell (p := ⟨h, 0, none⟩) h4).trans h5, (hb.frozen (p := ⟨g, 0, none⟩) (by show g < _; omega)).trans h6, A, n, c, (hb.cell (p := ⟨g, 0, none⟩) (by show g < _; omega)).trans h7, h8.below hb⟩

theorem builder1_any (x : Nat) (s : Int) (w0 w : World) (g h : Nat) (xs : List UInt8) (hx : x < 18446744073709551616) (hl : xs.length ≤ 1000000) (H : BldAt w0 w g h xs) :
    Calls Try.prog 92 #[.int .u64 x, .int .i64 s, .pointer (some ⟨h, 0, none⟩)] w (RetBld w0 g h (xs ++ beB x (clamp s))) := by
  obtain ⟨h1, h2, h3, h4, h5, h6, A, n, c, h7, h8⟩ := H
  have hn := h8.len
  have h88 := clamp_le s
  go_enter Try.func92, Try.ntmps92
  go_wp2_with fail
  refine wp_region_last (S := fun w' => Below (h + 1) w w') 9 #[true, true, true, true, true, true, true, true, true, false] [(0, true), (1, true), (2, true), (3, true), (4, true), (5, true), (6, false), (7, false), (8, true)] (by kernel_rfl) (by kernel_rfl) (fun _ _ d _ _ h => by cases d <;> exact h) ((Below.refl _ w).drew) ?_
  iterate 6 (refine seg_take (v := ?_) rfl (Or.inl ⟨by rfl, ?_⟩) ?_; rotate_left; (focus (intro w' hw'; have j1 := (hw'.cell (p := ⟨h, 0, none⟩) (by simp)).trans h5; have j2 := (hw'.cell (p := ⟨g, 0, none⟩) (by simp; omega)).trans h7; go_simp <;> with_reducible rfl)); try simp only [Act.put, List.setIfInBounds_toArray, List.set_cons_zero, List.set_cons_succ])
  refine seg_run rfl (fun K hK => ?_)
  go_simp
  refine (be_any x s _ hx).mono ?_
  rintro e w1 ⟨A1, n1, c1, rfl, ho1, hb1⟩
  refine hK.out _ _ ((Below.refl (h + 1) w).drew.trans (hb1.mono (by simp; omega))) ?_
  clear hK
  try simp only [Act.put, List.setIfInBounds_toArray, List.set_cons_zero, List.set_cons_succ]
  refine seg_run rfl (fun K hK => ?_)
  rw [if_pos (by rfl)]
  have hn1 : n1 = clamp s := by rw [← ho1.len, beB_length]
  subst hn1
  have B1 := (Below.refl (h + 1) w).drew.trans (hb1.mono (by simp; omega))
  have z1 := hb1.size
  simp at z1
  refine op_appX _ _ rfl B1 (by omega) (Nat.le_refl _) (by omega) _ _ _ _ rfl (h8.below (undrew hb1)) _ _ _ _ rfl ho1.rd (by omega) _ _ rfl rfl ?_
  intro A2 c2 w2 ho2 hb2 hg2
  refine hK.out _ _ (hb2) ?_
  clear hK
  try simp only [Act.put, List.setIfInBounds_toArray, List.set_cons_zero, List.set_cons_succ]
  iterate 1 (refine seg_take (v := ?_) rfl (Or.inl ⟨by rfl, ?_⟩) ?_; rotate_left; (focus (intro w' hw'; have j1 := (hw'.cell (p := ⟨h, 0, none⟩) (by simp)).trans h5; have j2 := (hw'.cell (p := ⟨g, 0, none⟩) (by simp; omega)).trans h7; go_simp <;> with_reducible rfl)); try simp only [Act.put, List.setIfInBounds_toArray, List.set_cons_zero, List.set_cons_succ])
  refine seg_done ?_
  refine last_run rfl (fun K hK => ?_)
  go_simp
  have e1 := (hb2.cell (p := ⟨g, 0, none⟩) (by simp; omega)).trans h7
  have e2 := (hb2.frozen (p := ⟨g, 0, none⟩) (by simp; omega)).trans h6
  go_simp
  refine hK.out _ _ ?_
  clear hK
  try simp only [Act.put, List.setIfInBounds_toArray, List.set_cons_zero, List.set_cons_succ]
  go_end0
  have e1 := (hb2.cell (p := ⟨g, 0, none⟩) (by simp; omega)).trans h7
  have e2 := (hb2.frozen (p := ⟨g, 0, none⟩) (by simp; omega)).trans h6
  have e3 := (hb2.cell (p := ⟨h, 0, none⟩) (by simp)).trans h5
  have zz := hb2.size
  refine ⟨rfl, (h1.trans (hb2.mono (by omega))).setCell h2 _, h2, h3, by simp; omega, ?_, setc_froz e2, A2, n + clamp s, c2, World.cell?_setCell_same _ _ _ e1, own_far ho2 ⟨g, 0, none⟩ _ (by show g < h + 1; omega)⟩
  rw [World.cell?_setCell_other _ _ _ _ (fun e => by injection e with e; omega)]
  exact e3
end Go.Proofs.Ytndabecdfccjlaa
