/-
  The law EthMine.
-/
import Derived.Test.YtieilgphcfiapaaEthF
import Derived.Deep.DeepCutAuto
-- facts: FrAt, MacAt
namespace Go.Proofs.Ytieilgphcfiapaa
set_option maxRecDepth 20000
open Go.RowKit
set_option linter.unusedVariables false
set_option linter.unusedSimpArgs false

theorem run_neq_mac (w : World) (m k : Mc) : (binOp .neq 23 (.agg #[.int .u8 (m.a0.toNat : Int), .int .u8 (m.a1.toNat : Int), .int .u8 (m.a2.toNat : Int), .int .u8 (m.a3.toNat : Int), .int .u8 (m.a4.toNat : Int), .int .u8 (m.a5.toNat : Int)]) (.agg #[.int .u8 (k.a0.toNat : Int), .int .u8 (k.a1.toNat : Int), .int .u8 (k.a2.toNat : Int), .int .u8 (k.a3.toNat : Int), .int .u8 (k.a4.toNat : Int), .int .u8 (k.a5.toNat : Int)])).run Try.prog w = .ok (.bool (!mcEq m k)) w := by
  have h := run_eql_mac w m k
  rw [run_eql_struct] at h
  rw [run_neq_struct]
  generalize (Op.equalIn 10000 23 (.agg #[.int .u8 (m.a0.toNat : Int), .int .u8 (m.a1.toNat : Int), .int .u8 (m.a2.toNat : Int), .int .u8 (m.a3.toNat : Int), .int .u8 (m.a4.toNat : Int), .int .u8 (m.a5.toNat : Int)]) (.agg #[.int .u8 (k.a0.toNat : Int), .int .u8 (k.a1.toNat : Int), .int .u8 (k.a2.toNat : Int), .int .u8 (k.a3.toNat : Int), .int .u8 (k.a4.toNat : Int), .int .u8 (k.a5.toNat : Int)])).run Try.prog w = r at h ⊢
  cases r with
  | ok b w' =>
    simp only [Result.andThen_ok, Result.ok.injEq, Value.bool.injEq] at h ⊢
    exact ⟨by rw [h.1], h.2⟩
  | halt x w' => simp [Result.andThen] at h
theorem chain6 {w : World} {g : Nat} {cs : Array Value} {T : TypeId} (hg : w.heap[g]? = some (.cells cs T (0, 0))) (v0 v1 v2 v3 v4 v5 : Value) :
    (((((w.setCell ⟨g, 0, none⟩ v0).setCell ⟨g, 1, none⟩ v1).setCell ⟨g, 2, none⟩ v2).setCell ⟨g, 3, none⟩ v3).setCell ⟨g, 4, none⟩ v4).setCell ⟨g, 5, none⟩ v5 =
      w.setRow g ((((((cs.setIfInBounds 0 v0).setIfInBounds 1 v1).setIfInBounds 2 v2).setIfInBounds 3 v3).setIfInBounds 4 v4).setIfInBounds 5 v5) := by
  have step : ∀ (ds : Array Value) (i : Nat) (v : Value), (w.setRow g ds).setCell ⟨g, i, none⟩ v = w.setRow g (ds.setIfInBounds i v) := fun ds i v => by
    rw [setCell_eq_setRow _ g i ds T (0, 0) v (setRow_heap w g cs ds T (0, 0) hg), setRow_setRow]
  rw [setCell_eq_setRow w g 0 cs T (0, 0) v0 hg, step, step, step, step, step]

theorem op_store_mac {o : Oper} {a : Act} {w : World} {K : Act → World → Prop} {Q : Exit → Act → World → Prop} (x y : Operand) (ho : o.op = .store 23 x y) (g : Nat) (hx : a.eval x = .pointer (some ⟨g, 0, none⟩)) (m : Mc) (hy : a.eval y = .agg #[.int .u8 (m.a0.toNat : Int), .int .u8 (m.a1.toNat : Int), .int .u8 (m.a2.toNat : Int), .int .u8 (m.a3.toNat : Int), .int .u8 (m.a4.toNat : Int), .int .u8 (m.a5.toNat : Int)])
    (d s : Mc) (k : Nat) (A : Option Addr) (n c : Nat) (T : TypeId) (hg : w.heap[g]? = some (.cells #[.int .u8 (d.a0.toNat : Int), .int .u8 (d.a1.toNat : Int), .int .u8 (d.a2.toNat : Int), .int .u8 (d.a3.toNat : Int), .int .u8 (d.a4.toNat : Int), .int .u8 (d.a5.toNat : Int), .int .u8 (s.a0.toNat : Int), .int .u8 (s.a1.toNat : Int), .int .u8 (s.a2.toNat : Int), .int .u8 (s.a3.toNat : Int), .int .u8 (s.a4.toNat : Int), .int .u8 (s.a5.toNat : Int), .int .u16 k, .slice A n c] T (0, 0)))
    (h : K (a.put o.dst undef) (w.setRow g #[.int .u8 (m.a0.toNat : Int), .int .u8 (m.a1.toNat : Int), .int .u8 (m.a2.toNat : Int), .int .u8 (m.a3.toNat : Int), .int .u8 (m.a4.toNat : Int), .int .u8 (m.a5.toNat : Int), .int .u8 (s.a0.toNat : Int), .int .u8 (s.a1.toNat : Int), .int .u8 (s.a2.toNat : Int), .int .u8 (s.a3.toNat : Int), .int .u8 (s.a4.toNat : Int), .int .u8 (s.a5.toNat : Int), .int .u16 k, .slice A n c])) : o.wp Try.prog a w K Q := by
  have c0 : ∀ i, w.cell? ⟨g, i, none⟩ = (#[.int .u8 (d.a0.toNat : Int), .int .u8 (d.a1.toNat : Int), .int .u8 (d.a2.toNat : Int), .int .u8 (d.a3.toNat : Int), .int .u8 (d.a4.toNat : Int), .int .u8 (d.a5.toNat : Int), .int .u8 (s.a0.toNat : Int), .int .u8 (s.a1.toNat : Int), .int .u8 (s.a2.toNat : Int), .int .u8 (s.a3.toNat : Int), .int .u8 (s.a4.toNat : Int), .int .u8 (s.a5.toNat : Int), .int .u16 k, .slice A n c] : Array Value)[i]? := fun i => cell_of_row _ _ i _ _ _ hg
  have f0 : ∀ i, w.frozen? ⟨g, i, none⟩ = false := fun i => frozen_of_row _ _ i _ _ hg
  have e := chain6 hg (.int .u8 (m.a0.toNat : Int)) (.int .u8 (m.a1.toNat : Int)) (.int .u8 (m.a2.toNat : Int)) (.int .u8 (m.a3.toNat : Int)) (.int .u8 (m.a4.toNat : Int)) (.int .u8 (m.a5.toNat : Int))
  have hrun : (execOp a.eval o).run Try.prog w = .ok .skip ((((((w.setCell ⟨g, 0, none⟩ (.int .u8 (m.a0.toNat : Int))).setCell ⟨g, 1, none⟩ (.int .u8 (m.a1.toNat : Int))).setCell ⟨g, 2, none⟩ (.int .u8 (m.a2.toNat : Int))).setCell ⟨g, 3, none⟩ (.int .u8 (m.a3.toNat : Int))).setCell ⟨g, 4, none⟩ (.int .u8 (m.a4.toNat : Int))).setCell ⟨g, 5, none⟩ (.int .u8 (m.a5.toNat : Int))) := by
    unfold execOp
    rw [ho]
    simp only [hx, hy]
    simp [go_sem, c0, f0]
  unfold Oper.wp
  rw [hrun, e]
  exact h
theorem frAt_row {w : World} {g : Nat} {d s : Mc} {k : Nat} {A : Option Addr} {n c : Nat} {T : TypeId} {fr : Nat × Nat} (hg : w.heap[g]? = some (.cells #[.int .u8 (d.a0.toNat : Int), .int .u8 (d.a1.toNat : Int), .int .u8 (d.a2.toNat : Int), .int .u8 (d.a3.toNat : Int), .int .u8 (d.a4.toNat : Int), .int .u8 (d.a5.toNat : Int), .int .u8 (s.a0.toNat : Int), .int .u8 (s.a1.toNat : Int), .int .u8 (s.a2.toNat : Int), .int .u8 (s.a3.toNat : Int), .int .u8 (s.a4.toNat : Int), .int .u8 (s.a5.toNat : Int), .int .u16 k, .slice A n c] T fr)) : FrAt w g d s k A n c := by
  have c0 : ∀ i, w.cell? ⟨g, i, none⟩ = (#[.int .u8 (d.a0.toNat : Int), .int .u8 (d.a1.toNat : Int), .int .u8 (d.a2.toNat : Int), .int .u8 (d.a3.toNat : Int), .int .u8 (d.a4.toNat : Int), .int .u8 (d.a5.toNat : Int), .int .u8 (s.a0.toNat : Int), .int .u8 (s.a1.toNat : Int), .int .u8 (s.a2.toNat : Int), .int .u8 (s.a3.toNat : Int), .int .u8 (s.a4.toNat : Int), .int .u8 (s.a5.toNat : Int), .int .u16 k, .slice A n c] : Array Value)[i]? := fun i => cell_of_row _ _ i _ _ _ hg
  exact ⟨⟨c0 0, c0 1, c0 2, c0 3, c0 4, c0 5⟩, ⟨c0 6, c0 7, c0 8, c0 9, c0 10, c0 11⟩, c0 12, c0 13⟩

set_option maxHeartbeats 1600000 in
theorem ethMine_law (d s : Mc) (k : Nat) (A : Option Addr) (n c : Nat) (xs : List UInt8) (w : World) (hk : k < 65536) (hr : RdB w A n c xs) :
    Calls Try.prog 3 #[.agg #[.int .u8 (d.a0.toNat : Int), .int .u8 (d.a1.toNat : Int), .int .u8 (d.a2.toNat : Int), .int .u8 (d.a3.toNat : Int), .int .u8 (d.a4.toNat : Int), .int .u8 (d.a5.toNat : Int), .int .u8 (s.a0.toNat : Int), .int .u8 (s.a1.toNat : Int), .int .u8 (s.a2.toNat : Int), .int .u8 (s.a3.toNat : Int), .int .u8 (s.a4.toNat : Int), .int .u8 (s.a5.toNat : Int), .int .u16 k, .slice A n c]] w (RetV w (.bool true)) := by
  go_enter Try.func3, Try.ntmps3
  go_wp2_with fail
  refine named ?_
  intro W1 hW1
  have bW1 : Below w.heap.size w W1 := by rw [hW1]; repeat' (first | exact Below.refl _ _ | (refine Below.alloc ?_ ?_ _; rotate_left; (simp <;> omega)) | refine Below.drew ?_)
  have zW1 := bW1.size
  have f1 : FrAt W1 w.heap.size d s k A n c := by rw [hW1]; simp [FrAt, MacAt, go_sem]
  have HW1 := Lib.hid hW1
  clear hW1
  have x1 : w.heap.size < W1.heap.size := by rw [HW1.out]; simp
  refine (ethOwn_any W1).mono ?_
  rintro e w2 ⟨rfl, hb2⟩
  go_upto_region 2 with fail
  obtain ⟨W, hW⟩ : ∃ W, W = w2.alloc (.cells #[.int .u8 (mcOwn.a0.toNat : Int), .int .u8 (mcOwn.a1.toNat : Int), .int .u8 (mcOwn.a2.toNat : Int), .int .u8 (mcOwn.a3.toNat : Int), .int .u8 (mcOwn.a4.toNat : Int), .int .u8 (mcOwn.a5.toNat : Int)] 23) := ⟨_, rfl⟩
  have bW : Below w2.heap.size w2 W := by rw [hW]; exact (below_self w2).alloc (Nat.le_refl _) _
  have m3 : MacAt W w2.heap.size 0 mcOwn := by rw [hW]; simp [MacAt, go_sem]
  have x3 : w2.heap.size < W.heap.size := by rw [hW]; simp
  have B1W := below_then hb2 bW
  have fW := f1.below B1W x1
  have xf : w.heap.size < W.heap.size := Nat.lt_of_lt_of_le x1 B1W.size
  have HW := Lib.hid hW
  clear hW
  go_cut [5, 6] (fun s5 s6 wx => ∃ g h, s5 = .pointer (some ⟨g, 0, none⟩) ∧ s6 = .pointer (some ⟨h, 0, none⟩) ∧ g ≠ h ∧ W.heap.size ≤ g ∧ W.heap.size ≤ h ∧ wx.heap[g]? = some (.cells #[.int .u8 (d.a0.toNat : Int), .int .u8 (d.a1.toNat : Int), .int .u8 (d.a2.toNat : Int), .int .u8 (d.a3.toNat : Int), .int .u8 (d.a4.toNat : Int), .int .u8 (d.a5.toNat : Int), .int .u8 (s.a0.toNat : Int), .int .u8 (s.a1.toNat : Int), .int .u8 (s.a2.toNat : Int), .int .u8 (s.a3.toNat : Int), .int .u8 (s.a4.toNat : Int), .int .u8 (s.a5.toNat : Int), .int .u16 k, .slice A n c] 27 (0, 0)) ∧ wx.heap[h]? = some (.cells #[.int .u8 (d.a0.toNat : Int), .int .u8 (d.a1.toNat : Int), .int .u8 (d.a2.toNat : Int), .int .u8 (d.a3.toNat : Int), .int .u8 (d.a4.toNat : Int), .int .u8 (d.a5.toNat : Int), .int .u8 (s.a0.toNat : Int), .int .u8 (s.a1.toNat : Int), .int .u8 (s.a2.toNat : Int), .int .u8 (s.a3.toNat : Int), .int .u8 (s.a4.toNat : Int), .int .u8 (s.a5.toNat : Int), .int .u16 k, .slice A n c] 27 (0, 0)) ∧ Below W.heap.size W wx)
  case first =>
    rw [← HW.out]
    refine wp_region_seg (S := fun w' => Below W.heap.size W w') 4 #[true, true, false, false, false, false] [(0, true), (1, true)] (by kernel_rfl) (by kernel_rfl) (fun _ _ d _ _ h => by cases d <;> exact h) ((Below.refl W.heap.size W).drew) ?_
    have HB := (Below.refl W.heap.size W).drew
    iterate 2 (refine seg_take (v := ?_) rfl (Or.inl ⟨by rfl, ?_⟩) ?_; rotate_left; (focus (intro w' hw'; obtain ⟨⟨d80, d81, d82, d83, d84, d85⟩, ⟨s80, s81, s82, s83, s84, s85⟩, k8, v8⟩ := fW.below hw' xf; go_simp <;> with_reducible rfl)); try simp only [Act.put, List.setIfInBounds_toArray, List.set_cons_zero, List.set_cons_succ])
    refine seg_done (fun _ => ?_)
    refine wpAnyH_two (i := 2) (j := 3) (f := 3) (by kernel_rfl) ?_ ?_
    · skip
      refine op_run rfl (fun K hK => ?_)
      rw [if_pos (by rfl)]
      have z0 := HB.size
      refine op_new #[.int .u8 0, .int .u8 0, .int .u8 0, .int .u8 0, .int .u8 0, .int .u8 0, .int .u8 0, .int .u8 0, .int .u8 0, .int .u8 0, .int .u8 0, .int .u8 0, .int .u16 0, .slice none 0 0] 27 (fun w => by go_simp) ?_
      intro g wg eg hg bg sg
      try have hh := (bg.block _ (by omega)).trans hh
      have HB := below_then HB bg
      refine hK.out _ _ (HB) ?_
      clear hK
      try simp only [Act.put, List.setIfInBounds_toArray, List.set_cons_zero, List.set_cons_succ]
      refine wpAnyH_seg (by kernel_rfl) (fun _ _ d _ _ h => by cases d <;> exact h) 0 #[true, true, true, true, true, true] [(3, false), (4, false), (5, false)] _ _ _ (by kernel_rfl) (HB) ?_
      refine seg_run rfl (fun K hK => ?_)
      rw [if_pos (by rfl)]
      have z0 := HB.size
      refine op_new #[.int .u8 0, .int .u8 0, .int .u8 0, .int .u8 0, .int .u8 0, .int .u8 0, .int .u8 0, .int .u8 0, .int .u8 0, .int .u8 0, .int .u8 0, .int .u8 0, .int .u16 0, .slice none 0 0] 27 (fun w => by go_simp) ?_
      intro h wh eh hh bh sh
      try have hg := (bh.block _ (by omega)).trans hg
      have HB := below_then HB bh
      refine hK.out _ _ (HB) ?_
      clear hK
      try simp only [Act.put, List.setIfInBounds_toArray, List.set_cons_zero, List.set_cons_succ]
      refine seg_run rfl (fun K hK => ?_)
      rw [if_pos (by rfl)]
      have hgW : W.heap.size ≤ g := by omega
      have hhW : W.heap.size ≤ h := by omega
      have hne : g ≠ h := by omega
      refine wp_store_row _ _ _ rfl g #[.int .u8 (d.a0.toNat : Int), .int .u8 (d.a1.toNat : Int), .int .u8 (d.a2.toNat : Int), .int .u8 (d.a3.toNat : Int), .int .u8 (d.a4.toNat : Int), .int .u8 (d.a5.toNat : Int), .int .u8 (s.a0.toNat : Int), .int .u8 (s.a1.toNat : Int), .int .u8 (s.a2.toNat : Int), .int .u8 (s.a3.toNat : Int), .int .u8 (s.a4.toNat : Int), .int .u8 (s.a5.toNat : Int), .int .u16 k, .slice A n c] rfl rfl _ _ hg (by kernel_rfl : (Try.prog.info? 27).map (·.size) = some 14) rfl (by simp [Value.oneCell']) ?_
      have HB := below_setRow HB hgW #[.int .u8 (d.a0.toNat : Int), .int .u8 (d.a1.toNat : Int), .int .u8 (d.a2.toNat : Int), .int .u8 (d.a3.toNat : Int), .int .u8 (d.a4.toNat : Int), .int .u8 (d.a5.toNat : Int), .int .u8 (s.a0.toNat : Int), .int .u8 (s.a1.toNat : Int), .int .u8 (s.a2.toNat : Int), .int .u8 (s.a3.toNat : Int), .int .u8 (s.a4.toNat : Int), .int .u8 (s.a5.toNat : Int), .int .u16 k, .slice A n c]
      have hh := (setRow_other _ g h #[.int .u8 (d.a0.toNat : Int), .int .u8 (d.a1.toNat : Int), .int .u8 (d.a2.toNat : Int), .int .u8 (d.a3.toNat : Int), .int .u8 (d.a4.toNat : Int), .int .u8 (d.a5.toNat : Int), .int .u8 (s.a0.toNat : Int), .int .u8 (s.a1.toNat : Int), .int .u8 (s.a2.toNat : Int), .int .u8 (s.a3.toNat : Int), .int .u8 (s.a4.toNat : Int), .int .u8 (s.a5.toNat : Int), .int .u16 k, .slice A n c] (Ne.symm hne)).trans hh
      have hg := setRow_heap _ g _ #[.int .u8 (d.a0.toNat : Int), .int .u8 (d.a1.toNat : Int), .int .u8 (d.a2.toNat : Int), .int .u8 (d.a3.toNat : Int), .int .u8 (d.a4.toNat : Int), .int .u8 (d.a5.toNat : Int), .int .u8 (s.a0.toNat : Int), .int .u8 (s.a1.toNat : Int), .int .u8 (s.a2.toNat : Int), .int .u8 (s.a3.toNat : Int), .int .u8 (s.a4.toNat : Int), .int .u8 (s.a5.toNat : Int), .int .u16 k, .slice A n c] _ _ hg
      refine hK.out _ _ (HB) ?_
      clear hK
      try simp only [Act.put, List.setIfInBounds_toArray, List.set_cons_zero, List.set_cons_succ]
      refine seg_run rfl (fun K hK => ?_)
      rw [if_pos (by rfl)]
      refine wp_store_row _ _ _ rfl h #[.int .u8 (d.a0.toNat : Int), .int .u8 (d.a1.toNat : Int), .int .u8 (d.a2.toNat : Int), .int .u8 (d.a3.toNat : Int), .int .u8 (d.a4.toNat : Int), .int .u8 (d.a5.toNat : Int), .int .u8 (s.a0.toNat : Int), .int .u8 (s.a1.toNat : Int), .int .u8 (s.a2.toNat : Int), .int .u8 (s.a3.toNat : Int), .int .u8 (s.a4.toNat : Int), .int .u8 (s.a5.toNat : Int), .int .u16 k, .slice A n c] rfl rfl _ _ hh (by kernel_rfl : (Try.prog.info? 27).map (·.size) = some 14) rfl (by simp [Value.oneCell']) ?_
      have HB := below_setRow HB hhW #[.int .u8 (d.a0.toNat : Int), .int .u8 (d.a1.toNat : Int), .int .u8 (d.a2.toNat : Int), .int .u8 (d.a3.toNat : Int), .int .u8 (d.a4.toNat : Int), .int .u8 (d.a5.toNat : Int), .int .u8 (s.a0.toNat : Int), .int .u8 (s.a1.toNat : Int), .int .u8 (s.a2.toNat : Int), .int .u8 (s.a3.toNat : Int), .int .u8 (s.a4.toNat : Int), .int .u8 (s.a5.toNat : Int), .int .u16 k, .slice A n c]
      have hg := (setRow_other _ h g #[.int .u8 (d.a0.toNat : Int), .int .u8 (d.a1.toNat : Int), .int .u8 (d.a2.toNat : Int), .int .u8 (d.a3.toNat : Int), .int .u8 (d.a4.toNat : Int), .int .u8 (d.a5.toNat : Int), .int .u8 (s.a0.toNat : Int), .int .u8 (s.a1.toNat : Int), .int .u8 (s.a2.toNat : Int), .int .u8 (s.a3.toNat : Int), .int .u8 (s.a4.toNat : Int), .int .u8 (s.a5.toNat : Int), .int .u16 k, .slice A n c] hne).trans hg
      have hh := setRow_heap _ h _ #[.int .u8 (d.a0.toNat : Int), .int .u8 (d.a1.toNat : Int), .int .u8 (d.a2.toNat : Int), .int .u8 (d.a3.toNat : Int), .int .u8 (d.a4.toNat : Int), .int .u8 (d.a5.toNat : Int), .int .u8 (s.a0.toNat : Int), .int .u8 (s.a1.toNat : Int), .int .u8 (s.a2.toNat : Int), .int .u8 (s.a3.toNat : Int), .int .u8 (s.a4.toNat : Int), .int .u8 (s.a5.toNat : Int), .int .u16 k, .slice A n c] _ _ hh
      refine hK.out _ _ (HB) ?_
      clear hK
      try simp only [Act.put, List.setIfInBounds_toArray, List.set_cons_zero, List.set_cons_succ]
      refine seg_done (fun _ => ?_)
      refine wpAnyH_done (by kernel_rfl) ?_ _
      go_wp2_with fail
      go_meet
      exact ⟨g, h, rfl, rfl, hne, hgW, hhW, hg, hh, HB⟩
    · skip
      refine op_run rfl (fun K hK => ?_)
      rw [if_pos (by rfl)]
      have z0 := HB.size
      refine op_new #[.int .u8 0, .int .u8 0, .int .u8 0, .int .u8 0, .int .u8 0, .int .u8 0, .int .u8 0, .int .u8 0, .int .u8 0, .int .u8 0, .int .u8 0, .int .u8 0, .int .u16 0, .slice none 0 0] 27 (fun w => by go_simp) ?_
      intro h wh eh hh bh sh
      try have hg := (bh.block _ (by omega)).trans hg
      have HB := below_then HB bh
      refine hK.out _ _ (HB) ?_
      clear hK
      try simp only [Act.put, List.setIfInBounds_toArray, List.set_cons_zero, List.set_cons_succ]
      refine wpAnyH_seg (by kernel_rfl) (fun _ _ d _ _ h => by cases d <;> exact h) 0 #[true, true, true, true, true, true] [(2, false), (4, false), (5, false)] _ _ _ (by kernel_rfl) (HB) ?_
      refine seg_run rfl (fun K hK => ?_)
      rw [if_pos (by rfl)]
      have z0 := HB.size
      refine op_new #[.int .u8 0, .int .u8 0, .int .u8 0, .int .u8 0, .int .u8 0, .int .u8 0, .int .u8 0, .int .u8 0, .int .u8 0, .int .u8 0, .int .u8 0, .int .u8 0, .int .u16 0, .slice none 0 0] 27 (fun w => by go_simp) ?_
      intro g wg eg hg bg sg
      try have hh := (bg.block _ (by omega)).trans hh
      have HB := below_then HB bg
      refine hK.out _ _ (HB) ?_
      clear hK
      try simp only [Act.put, List.setIfInBounds_toArray, List.set_cons_zero, List.set_cons_succ]
      refine seg_run rfl (fun K hK => ?_)
      rw [if_pos (by rfl)]
      have hgW : W.heap.size ≤ g := by omega
      have hhW : W.heap.size ≤ h := by omega
      have hne : g ≠ h := by omega
      refine wp_store_row _ _ _ rfl g #[.int .u8 (d.a0.toNat : Int), .int .u8 (d.a1.toNat : Int), .int .u8 (d.a2.toNat : Int), .int .u8 (d.a3.toNat : Int), .int .u8 (d.a4.toNat : Int), .int .u8 (d.a5.toNat : Int), .int .u8 (s.a0.toNat : Int), .int .u8 (s.a1.toNat : Int), .int .u8 (s.a2.toNat : Int), .int .u8 (s.a3.toNat : Int), .int .u8 (s.a4.toNat : Int), .int .u8 (s.a5.toNat : Int), .int .u16 k, .slice A n c] rfl rfl _ _ hg (by kernel_rfl : (Try.prog.info? 27).map (·.size) = some 14) rfl (by simp [Value.oneCell']) ?_
      have HB := below_setRow HB hgW #[.int .u8 (d.a0.toNat : Int), .int .u8 (d.a1.toNat : Int), .int .u8 (d.a2.toNat : Int), .int .u8 (d.a3.toNat : Int), .int .u8 (d.a4.toNat : Int), .int .u8 (d.a5.toNat : Int), .int .u8 (s.a0.toNat : Int), .int .u8 (s.a1.toNat : Int), .int .u8 (s.a2.toNat : Int), .int .u8 (s.a3.toNat : Int), .int .u8 (s.a4.toNat : Int), .int .u8 (s.a5.toNat : Int), .int .u16 k, .slice A n c]
      have hh := (setRow_other _ g h #[.int .u8 (d.a0.toNat : Int), .int .u8 (d.a1.toNat : Int), .int .u8 (d.a2.toNat : Int), .int .u8 (d.a3.toNat : Int), .int .u8 (d.a4.toNat : Int), .int .u8 (d.a5.toNat : Int), .int .u8 (s.a0.toNat : Int), .int .u8 (s.a1.toNat : Int), .int .u8 (s.a2.toNat : Int), .int .u8 (s.a3.toNat : Int), .int .u8 (s.a4.toNat : Int), .int .u8 (s.a5.toNat : Int), .int .u16 k, .slice A n c] (Ne.symm hne)).trans hh
      have hg := setRow_heap _ g _ #[.int .u8 (d.a0.toNat : Int), .int .u8 (d.a1.toNat : Int), .int .u8 (d.a2.toNat : Int), .int .u8 (d.a3.toNat : Int), .int .u8 (d.a4.toNat : Int), .int .u8 (d.a5.toNat : Int), .int .u8 (s.a0.toNat : Int), .int .u8 (s.a1.toNat : Int), .int .u8 (s.a2.toNat : Int), .int .u8 (s.a3.toNat : Int), .int .u8 (s.a4.toNat : Int), .int .u8 (s.a5.toNat : Int), .int .u16 k, .slice A n c] _ _ hg
      refine hK.out _ _ (HB) ?_
      clear hK
      try simp only [Act.put, List.setIfInBounds_toArray, List.set_cons_zero, List.set_cons_succ]
      refine seg_run rfl (fun K hK => ?_)
      rw [if_pos (by rfl)]
      refine wp_store_row _ _ _ rfl h #[.int .u8 (d.a0.toNat : Int), .int .u8 (d.a1.toNat : Int), .int .u8 (d.a2.toNat : Int), .int .u8 (d.a3.toNat : Int), .int .u8 (d.a4.toNat : Int), .int .u8 (d.a5.toNat : Int), .int .u8 (s.a0.toNat : Int), .int .u8 (s.a1.toNat : Int), .int .u8 (s.a2.toNat : Int), .int .u8 (s.a3.toNat : Int), .int .u8 (s.a4.toNat : Int), .int .u8 (s.a5.toNat : Int), .int .u16 k, .slice A n c] rfl rfl _ _ hh (by kernel_rfl : (Try.prog.info? 27).map (·.size) = some 14) rfl (by simp [Value.oneCell']) ?_
      have HB := below_setRow HB hhW #[.int .u8 (d.a0.toNat : Int), .int .u8 (d.a1.toNat : Int), .int .u8 (d.a2.toNat : Int), .int .u8 (d.a3.toNat : Int), .int .u8 (d.a4.toNat : Int), .int .u8 (d.a5.toNat : Int), .int .u8 (s.a0.toNat : Int), .int .u8 (s.a1.toNat : Int), .int .u8 (s.a2.toNat : Int), .int .u8 (s.a3.toNat : Int), .int .u8 (s.a4.toNat : Int), .int .u8 (s.a5.toNat : Int), .int .u16 k, .slice A n c]
      have hg := (setRow_other _ h g #[.int .u8 (d.a0.toNat : Int), .int .u8 (d.a1.toNat : Int), .int .u8 (d.a2.toNat : Int), .int .u8 (d.a3.toNat : Int), .int .u8 (d.a4.toNat : Int), .int .u8 (d.a5.toNat : Int), .int .u8 (s.a0.toNat : Int), .int .u8 (s.a1.toNat : Int), .int .u8 (s.a2.toNat : Int), .int .u8 (s.a3.toNat : Int), .int .u8 (s.a4.toNat : Int), .int .u8 (s.a5.toNat : Int), .int .u16 k, .slice A n c] hne).trans hg
      have hh := setRow_heap _ h _ #[.int .u8 (d.a0.toNat : Int), .int .u8 (d.a1.toNat : Int), .int .u8 (d.a2.toNat : Int), .int .u8 (d.a3.toNat : Int), .int .u8 (d.a4.toNat : Int), .int .u8 (d.a5.toNat : Int), .int .u8 (s.a0.toNat : Int), .int .u8 (s.a1.toNat : Int), .int .u8 (s.a2.toNat : Int), .int .u8 (s.a3.toNat : Int), .int .u8 (s.a4.toNat : Int), .int .u8 (s.a5.toNat : Int), .int .u16 k, .slice A n c] _ _ hh
      refine hK.out _ _ (HB) ?_
      clear hK
      try simp only [Act.put, List.setIfInBounds_toArray, List.set_cons_zero, List.set_cons_succ]
      refine seg_done (fun _ => ?_)
      refine wpAnyH_done (by kernel_rfl) ?_ _
      go_wp2_with fail
      go_meet
      exact ⟨g, h, rfl, rfl, hne, hgW, hhW, hg, hh, HB⟩
  case rest =>
    obtain ⟨g, h, rfl, rfl, hne, hgW, hhW, hg, hh, HB⟩ := hcut
    have mC := m3.below HB x3
    have xm : w2.heap.size < wc.heap.size := Nat.lt_of_lt_of_le x3 HB.size
    go_wp2_with fail
    refine wp_region_plan (S := fun w' => Below W.heap.size W w') [(0, true), (2, true), (1, false), (3, false), (4, true), (5, false)] (by kernel_rfl) (by kernel_rfl) (fun _ _ d _ _ h => by cases d <;> exact h) (HB.drew) ?_
    iterate 2 (refine plan_take (v := ?_) rfl (Or.inl ⟨by rfl, ?_⟩) ?_; rotate_left; (focus (intro w' hw'; obtain ⟨ma0, ma1, ma2, ma3, ma4, ma5⟩ := m3.below hw' x3; go_simp <;> with_reducible rfl)); try simp only [Act.put, List.setIfInBounds_toArray, List.set_cons_zero, List.set_cons_succ])
    refine plan_run rfl (fun K hK => ?_)
    go_simp
    refine (ethAll_any _).mono ?_
    rintro e w5 ⟨rfl, hb5⟩
    refine hK.out _ _ (below_then HB (undrew hb5)) ?_
    clear hK
    try simp only [Act.put, List.setIfInBounds_toArray, List.set_cons_zero, List.set_cons_succ]
    refine plan_run rfl (fun K hK => ?_)
    rw [if_pos (by rfl)]
    have hlg : g < wc.heap.size := (Array.getElem?_eq_some_iff.1 hg).1
    have hlh : h < wc.heap.size := (Array.getElem?_eq_some_iff.1 hh).1
    have hg5 : w5.heap[g]? = _ := ((undrew hb5).block g hlg).trans hg
    have hh5 : w5.heap[h]? = _ := ((undrew hb5).block h hlh).trans hh
    refine op_store_mac _ _ rfl g rfl mcOwn rfl d s k A n c _ hg5 ?_
    refine hK.out _ _ (below_setRow (below_then HB (undrew hb5)) hgW #[.int .u8 (mcOwn.a0.toNat : Int), .int .u8 (mcOwn.a1.toNat : Int), .int .u8 (mcOwn.a2.toNat : Int), .int .u8 (mcOwn.a3.toNat : Int), .int .u8 (mcOwn.a4.toNat : Int), .int .u8 (mcOwn.a5.toNat : Int), .int .u8 (s.a0.toNat : Int), .int .u8 (s.a1.toNat : Int), .int .u8 (s.a2.toNat : Int), .int .u8 (s.a3.toNat : Int), .int .u8 (s.a4.toNat : Int), .int .u8 (s.a5.toNat : Int), .int .u16 k, .slice A n c]) ?_
    clear hK
    try simp only [Act.put, List.setIfInBounds_toArray, List.set_cons_zero, List.set_cons_succ]
    iterate 1 (refine plan_take (v := ?_) rfl (Or.inl ⟨by rfl, ?_⟩) ?_; rotate_left; (focus (intro w' hw'; obtain ⟨ma0, ma1, ma2, ma3, ma4, ma5⟩ := m3.below hw' x3; go_simp <;> with_reducible rfl)); try simp only [Act.put, List.setIfInBounds_toArray, List.set_cons_zero, List.set_cons_succ])
    refine plan_run rfl (fun K hK => ?_)
    rw [if_pos (by rfl)]
    have hh6 := (setRow_other w5 g h #[.int .u8 (mcOwn.a0.toNat : Int), .int .u8 (mcOwn.a1.toNat : Int), .int .u8 (mcOwn.a2.toNat : Int), .int .u8 (mcOwn.a3.toNat : Int), .int .u8 (mcOwn.a4.toNat : Int), .int .u8 (mcOwn.a5.toNat : Int), .int .u8 (s.a0.toNat : Int), .int .u8 (s.a1.toNat : Int), .int .u8 (s.a2.toNat : Int), .int .u8 (s.a3.toNat : Int), .int .u8 (s.a4.toNat : Int), .int .u8 (s.a5.toNat : Int), .int .u16 k, .slice A n c] (Ne.symm hne)).trans hh5
    refine op_store_mac _ _ rfl h rfl mcAll rfl d s k A n c _ hh6 ?_
    refine hK.out _ _ (below_setRow (below_setRow (below_then HB (undrew hb5)) hgW #[.int .u8 (mcOwn.a0.toNat : Int), .int .u8 (mcOwn.a1.toNat : Int), .int .u8 (mcOwn.a2.toNat : Int), .int .u8 (mcOwn.a3.toNat : Int), .int .u8 (mcOwn.a4.toNat : Int), .int .u8 (mcOwn.a5.toNat : Int), .int .u8 (s.a0.toNat : Int), .int .u8 (s.a1.toNat : Int), .int .u8 (s.a2.toNat : Int), .int .u8 (s.a3.toNat : Int), .int .u8 (s.a4.toNat : Int), .int .u8 (s.a5.toNat : Int), .int .u16 k, .slice A n c]) hhW #[.int .u8 (mcAll.a0.toNat : Int), .int .u8 (mcAll.a1.toNat : Int), .int .u8 (mcAll.a2.toNat : Int), .int .u8 (mcAll.a3.toNat : Int), .int .u8 (mcAll.a4.toNat : Int), .int .u8 (mcAll.a5.toNat : Int), .int .u8 (s.a0.toNat : Int), .int .u8 (s.a1.toNat : Int), .int .u8 (s.a2.toNat : Int), .int .u8 (s.a3.toNat : Int), .int .u8 (s.a4.toNat : Int), .int .u8 (s.a5.toNat : Int), .int .u16 k, .slice A n c]) ?_
    clear hK
    try simp only [Act.put, List.setIfInBounds_toArray, List.set_cons_zero, List.set_cons_succ]
    refine plan_done ?_
    have hg7 := (setRow_other _ h g #[.int .u8 (mcAll.a0.toNat : Int), .int .u8 (mcAll.a1.toNat : Int), .int .u8 (mcAll.a2.toNat : Int), .int .u8 (mcAll.a3.toNat : Int), .int .u8 (mcAll.a4.toNat : Int), .int .u8 (mcAll.a5.toNat : Int), .int .u8 (s.a0.toNat : Int), .int .u8 (s.a1.toNat : Int), .int .u8 (s.a2.toNat : Int), .int .u8 (s.a3.toNat : Int), .int .u8 (s.a4.toNat : Int), .int .u8 (s.a5.toNat : Int), .int .u16 k, .slice A n c] hne).trans (setRow_heap w5 g _ #[.int .u8 (mcOwn.a0.toNat : Int), .int .u8 (mcOwn.a1.toNat : Int), .int .u8 (mcOwn.a2.toNat : Int), .int .u8 (mcOwn.a3.toNat : Int), .int .u8 (mcOwn.a4.toNat : Int), .int .u8 (mcOwn.a5.toNat : Int), .int .u8 (s.a0.toNat : Int), .int .u8 (s.a1.toNat : Int), .int .u8 (s.a2.toNat : Int), .int .u8 (s.a3.toNat : Int), .int .u8 (s.a4.toNat : Int), .int .u8 (s.a5.toNat : Int), .int .u16 k, .slice A n c] _ _ hg5)
    have hh7 := setRow_heap _ h _ #[.int .u8 (mcAll.a0.toNat : Int), .int .u8 (mcAll.a1.toNat : Int), .int .u8 (mcAll.a2.toNat : Int), .int .u8 (mcAll.a3.toNat : Int), .int .u8 (mcAll.a4.toNat : Int), .int .u8 (mcAll.a5.toNat : Int), .int .u8 (s.a0.toNat : Int), .int .u8 (s.a1.toNat : Int), .int .u8 (s.a2.toNat : Int), .int .u8 (s.a3.toNat : Int), .int .u8 (s.a4.toNat : Int), .int .u8 (s.a5.toNat : Int), .int .u16 k, .slice A n c] _ _ hh6
    have B7 := below_setRow (below_setRow (below_then HB (undrew hb5)) hgW #[.int .u8 (mcOwn.a0.toNat : Int), .int .u8 (mcOwn.a1.toNat : Int), .int .u8 (mcOwn.a2.toNat : Int), .int .u8 (mcOwn.a3.toNat : Int), .int .u8 (mcOwn.a4.toNat : Int), .int .u8 (mcOwn.a5.toNat : Int), .int .u8 (s.a0.toNat : Int), .int .u8 (s.a1.toNat : Int), .int .u8 (s.a2.toNat : Int), .int .u8 (s.a3.toNat : Int), .int .u8 (s.a4.toNat : Int), .int .u8 (s.a5.toNat : Int), .int .u16 k, .slice A n c]) hhW #[.int .u8 (mcAll.a0.toNat : Int), .int .u8 (mcAll.a1.toNat : Int), .int .u8 (mcAll.a2.toNat : Int), .int .u8 (mcAll.a3.toNat : Int), .int .u8 (mcAll.a4.toNat : Int), .int .u8 (mcAll.a5.toNat : Int), .int .u8 (s.a0.toNat : Int), .int .u8 (s.a1.toNat : Int), .int .u8 (s.a2.toNat : Int), .int .u8 (s.a3.toNat : Int), .int .u8 (s.a4.toNat : Int), .int .u8 (s.a5.toNat : Int), .int .u16 k, .slice A n c]
    have hsz : wc.heap.size ≤ ((w5.setRow g #[.int .u8 (mcOwn.a0.toNat : Int), .int .u8 (mcOwn.a1.toNat : Int), .int .u8 (mcOwn.a2.toNat : Int), .int .u8 (mcOwn.a3.toNat : Int), .int .u8 (mcOwn.a4.toNat : Int), .int .u8 (mcOwn.a5.toNat : Int), .int .u8 (s.a0.toNat : Int), .int .u8 (s.a1.toNat : Int), .int .u8 (s.a2.toNat : Int), .int .u8 (s.a3.toNat : Int), .int .u8 (s.a4.toNat : Int), .int .u8 (s.a5.toNat : Int), .int .u16 k, .slice A n c]).setRow h #[.int .u8 (mcAll.a0.toNat : Int), .int .u8 (mcAll.a1.toNat : Int), .int .u8 (mcAll.a2.toNat : Int), .int .u8 (mcAll.a3.toNat : Int), .int .u8 (mcAll.a4.toNat : Int), .int .u8 (mcAll.a5.toNat : Int), .int .u8 (s.a0.toNat : Int), .int .u8 (s.a1.toNat : Int), .int .u8 (s.a2.toNat : Int), .int .u8 (s.a3.toNat : Int), .int .u8 (s.a4.toNat : Int), .int .u8 (s.a5.toNat : Int), .int .u16 k, .slice A n c]).heap.size := by have := (undrew hb5).size; simpa using this
    generalize (w5.setRow g #[.int .u8 (mcOwn.a0.toNat : Int), .int .u8 (mcOwn.a1.toNat : Int), .int .u8 (mcOwn.a2.toNat : Int), .int .u8 (mcOwn.a3.toNat : Int), .int .u8 (mcOwn.a4.toNat : Int), .int .u8 (mcOwn.a5.toNat : Int), .int .u8 (s.a0.toNat : Int), .int .u8 (s.a1.toNat : Int), .int .u8 (s.a2.toNat : Int), .int .u8 (s.a3.toNat : Int), .int .u8 (s.a4.toNat : Int), .int .u8 (s.a5.toNat : Int), .int .u16 k, .slice A n c]).setRow h #[.int .u8 (mcAll.a0.toNat : Int), .int .u8 (mcAll.a1.toNat : Int), .int .u8 (mcAll.a2.toNat : Int), .int .u8 (mcAll.a3.toNat : Int), .int .u8 (mcAll.a4.toNat : Int), .int .u8 (mcAll.a5.toNat : Int), .int .u8 (s.a0.toNat : Int), .int .u8 (s.a1.toNat : Int), .int .u8 (s.a2.toNat : Int), .int .u8 (s.a3.toNat : Int), .int .u8 (s.a4.toNat : Int), .int .u8 (s.a5.toNat : Int), .int .u16 k, .slice A n c] = V at *
    go_wp2_with fail
    have fg := frAt_row hg7
    have fh := frAt_row hh7
    have fV := fW.below B7 xf
    have mV := m3.below B7 x3
    have xV := B7.size
    have yg : g < V.heap.size := by omega
    have yh : h < V.heap.size := by omega
    have yf : w.heap.size < V.heap.size := by omega
    have ym : w2.heap.size < V.heap.size := by omega
    have q1 := fun (Z : World) => run_eql_mac Z d mcOwn
    have q2 := fun (Z : World) => run_eql_mac Z d mcAll
    have q3 : ∀ Z : World, (binOp .neq 23 (.agg #[.int .u8 (mcOwn.a0.toNat : Int), .int .u8 (mcOwn.a1.toNat : Int), .int .u8 (mcOwn.a2.toNat : Int), .int .u8 (mcOwn.a3.toNat : Int), .int .u8 (mcOwn.a4.toNat : Int), .int .u8 (mcOwn.a5.toNat : Int)]) (.agg #[.int .u8 (mcAll.a0.toNat : Int), .int .u8 (mcAll.a1.toNat : Int), .int .u8 (mcAll.a2.toNat : Int), .int .u8 (mcAll.a3.toNat : Int), .int .u8 (mcAll.a4.toNat : Int), .int .u8 (mcAll.a5.toNat : Int)])).run Try.prog Z = .ok (.bool true) Z := fun Z => by
      rw [run_neq_mac, show mcEq mcOwn mcAll = false from by decide +kernel]; rfl
    clear hg hh hg5 hh5 hh6 hg7 hh7 f1 m3 fW mC
    cases hq : mcEq d mcOwn with
    | true =>
      have hM : ethMine d = true := by unfold ethMine; rw [hq]; rfl
      refine wp_region_plan (S := fun w' => Below V.heap.size V w') [(0, true), (2, true), (3, true), (4, true), (5, true), (1, false), (6, true), (7, true), (8, true), (9, false), (10, true), (11, true), (12, true), (13, true), (14, true), (15, false), (16, true), (17, true), (18, true), (19, false), (20, true), (21, true), (22, true), (23, false), (24, true), (25, true), (26, true), (27, false), (28, true), (29, true)] (by kernel_rfl) (by kernel_rfl) (fun _ _ d _ _ h => by cases d <;> exact h) ((Below.refl _ V).drew) ?_
      iterate 5 (refine plan_take (v := ?_) rfl (Or.inl ⟨by rfl, ?_⟩) ?_; rotate_left; (focus (intro w' hw'; obtain ⟨⟨d80, d81, d82, d83, d84, d85⟩, ⟨s80, s81, s82, s83, s84, s85⟩, k8, v8⟩ := fV.below hw' yf; obtain ⟨⟨gd0, gd1, gd2, gd3, gd4, gd5⟩, ⟨gs0, gs1, gs2, gs3, gs4, gs5⟩, gk, gv⟩ := fg.below hw' yg; obtain ⟨⟨hd0, hd1, hd2, hd3, hd4, hd5⟩, ⟨hs0, hs1, hs2, hs3, hs4, hs5⟩, hk, hv⟩ := fh.below hw' yh; obtain ⟨ma0, ma1, ma2, ma3, ma4, ma5⟩ := mV.below hw' ym; go_simp <;> with_reducible rfl)); try simp only [Act.put, List.setIfInBounds_toArray, List.set_cons_zero, List.set_cons_succ])
      refine plan_run rfl (fun K hK => ?_)
      go_simp
      refine (ethMine_any d s k A n c _).mono ?_
      rintro e v1 ⟨rfl, h1⟩
      refine hK.out _ _ (undrew h1) ?_
      clear hK
      try simp only [Act.put, List.setIfInBounds_toArray, List.set_cons_zero, List.set_cons_succ]
      iterate 1 (refine plan_take (v := ?_) rfl (Or.inl ⟨by rfl, ?_⟩) ?_; rotate_left; (focus (intro w' hw'; obtain ⟨⟨d80, d81, d82, d83, d84, d85⟩, ⟨s80, s81, s82, s83, s84, s85⟩, k8, v8⟩ := fV.below hw' yf; obtain ⟨⟨gd0, gd1, gd2, gd3, gd4, gd5⟩, ⟨gs0, gs1, gs2, gs3, gs4, gs5⟩, gk, gv⟩ := fg.below hw' yg; obtain ⟨⟨hd0, hd1, hd2, hd3, hd4, hd5⟩, ⟨hs0, hs1, hs2, hs3, hs4, hs5⟩, hk, hv⟩ := fh.below hw' yh; obtain ⟨ma0, ma1, ma2, ma3, ma4, ma5⟩ := mV.below hw' ym; go_simp <;> with_reducible rfl)); try simp only [Act.put, List.setIfInBounds_toArray, List.set_cons_zero, List.set_cons_succ])
      iterate 2 ((first | refine plan_take (v := undef) rfl (Or.inr ⟨by rfl, rfl⟩) ?_ | (refine plan_take (v := ?_) rfl (Or.inl ⟨by rfl, ?_⟩) ?_; rotate_left; (focus (intro w' hw'; obtain ⟨⟨d80, d81, d82, d83, d84, d85⟩, ⟨s80, s81, s82, s83, s84, s85⟩, k8, v8⟩ := fV.below hw' yf; obtain ⟨⟨gd0, gd1, gd2, gd3, gd4, gd5⟩, ⟨gs0, gs1, gs2, gs3, gs4, gs5⟩, gk, gv⟩ := fg.below hw' yg; obtain ⟨⟨hd0, hd1, hd2, hd3, hd4, hd5⟩, ⟨hs0, hs1, hs2, hs3, hs4, hs5⟩, hk, hv⟩ := fh.below hw' yh; obtain ⟨ma0, ma1, ma2, ma3, ma4, ma5⟩ := mV.below hw' ym; go_simp <;> with_reducible rfl)))); try simp only [Act.put, List.setIfInBounds_toArray, List.set_cons_zero, List.set_cons_succ])
      refine plan_run rfl (fun K hK => ?_)
      go_simp
      refine hK.out _ _ (undrew h1) ?_
      clear hK
      try simp only [Act.put, List.setIfInBounds_toArray, List.set_cons_zero, List.set_cons_succ]
      iterate 1 ((first | refine plan_take (v := undef) rfl (Or.inr ⟨by rfl, rfl⟩) ?_ | (refine plan_take (v := ?_) rfl (Or.inl ⟨by rfl, ?_⟩) ?_; rotate_left; (focus (intro w' hw'; obtain ⟨⟨d80, d81, d82, d83, d84, d85⟩, ⟨s80, s81, s82, s83, s84, s85⟩, k8, v8⟩ := fV.below hw' yf; obtain ⟨⟨gd0, gd1, gd2, gd3, gd4, gd5⟩, ⟨gs0, gs1, gs2, gs3, gs4, gs5⟩, gk, gv⟩ := fg.below hw' yg; obtain ⟨⟨hd0, hd1, hd2, hd3, hd4, hd5⟩, ⟨hs0, hs1, hs2, hs3, hs4, hs5⟩, hk, hv⟩ := fh.below hw' yh; obtain ⟨ma0, ma1, ma2, ma3, ma4, ma5⟩ := mV.below hw' ym; go_simp <;> with_reducible rfl)))); try simp only [Act.put, List.setIfInBounds_toArray, List.set_cons_zero, List.set_cons_succ])
      iterate 3 (refine plan_take (v := ?_) rfl (Or.inl ⟨by rfl, ?_⟩) ?_; rotate_left; (focus (intro w' hw'; obtain ⟨⟨d80, d81, d82, d83, d84, d85⟩, ⟨s80, s81, s82, s83, s84, s85⟩, k8, v8⟩ := fV.below hw' yf; obtain ⟨⟨gd0, gd1, gd2, gd3, gd4, gd5⟩, ⟨gs0, gs1, gs2, gs3, gs4, gs5⟩, gk, gv⟩ := fg.below hw' yg; obtain ⟨⟨hd0, hd1, hd2, hd3, hd4, hd5⟩, ⟨hs0, hs1, hs2, hs3, hs4, hs5⟩, hk, hv⟩ := fh.below hw' yh; obtain ⟨ma0, ma1, ma2, ma3, ma4, ma5⟩ := mV.below hw' ym; go_simp <;> with_reducible rfl)); try simp only [Act.put, List.setIfInBounds_toArray, List.set_cons_zero, List.set_cons_succ])
      iterate 1 ((first | refine plan_take (v := undef) rfl (Or.inr ⟨by rfl, rfl⟩) ?_ | (refine plan_take (v := ?_) rfl (Or.inl ⟨by rfl, ?_⟩) ?_; rotate_left; (focus (intro w' hw'; obtain ⟨⟨d80, d81, d82, d83, d84, d85⟩, ⟨s80, s81, s82, s83, s84, s85⟩, k8, v8⟩ := fV.below hw' yf; obtain ⟨⟨gd0, gd1, gd2, gd3, gd4, gd5⟩, ⟨gs0, gs1, gs2, gs3, gs4, gs5⟩, gk, gv⟩ := fg.below hw' yg; obtain ⟨⟨hd0, hd1, hd2, hd3, hd4, hd5⟩, ⟨hs0, hs1, hs2, hs3, hs4, hs5⟩, hk, hv⟩ := fh.below hw' yh; obtain ⟨ma0, ma1, ma2, ma3, ma4, ma5⟩ := mV.below hw' ym; go_simp <;> with_reducible rfl)))); try simp only [Act.put, List.setIfInBounds_toArray, List.set_cons_zero, List.set_cons_succ])
      refine plan_run rfl (fun K hK => ?_)
      go_simp
      refine (ethMine_any mcOwn s k A n c v1).mono ?_
      rintro e v3 ⟨rfl, h3⟩
      rw [show ethMine mcOwn = true from by decide +kernel]
      refine hK.out _ _ (below_then (undrew h1) h3) ?_
      clear hK
      try simp only [Act.put, List.setIfInBounds_toArray, List.set_cons_zero, List.set_cons_succ]
      iterate 2 (refine plan_take (v := ?_) rfl (Or.inl ⟨by rfl, ?_⟩) ?_; rotate_left; (focus (intro w' hw'; obtain ⟨⟨d80, d81, d82, d83, d84, d85⟩, ⟨s80, s81, s82, s83, s84, s85⟩, k8, v8⟩ := fV.below hw' yf; obtain ⟨⟨gd0, gd1, gd2, gd3, gd4, gd5⟩, ⟨gs0, gs1, gs2, gs3, gs4, gs5⟩, gk, gv⟩ := fg.below hw' yg; obtain ⟨⟨hd0, hd1, hd2, hd3, hd4, hd5⟩, ⟨hs0, hs1, hs2, hs3, hs4, hs5⟩, hk, hv⟩ := fh.below hw' yh; obtain ⟨ma0, ma1, ma2, ma3, ma4, ma5⟩ := mV.below hw' ym; go_simp <;> with_reducible rfl)); try simp only [Act.put, List.setIfInBounds_toArray, List.set_cons_zero, List.set_cons_succ])
      iterate 1 ((first | refine plan_take (v := undef) rfl (Or.inr ⟨by rfl, rfl⟩) ?_ | (refine plan_take (v := ?_) rfl (Or.inl ⟨by rfl, ?_⟩) ?_; rotate_left; (focus (intro w' hw'; obtain ⟨⟨d80, d81, d82, d83, d84, d85⟩, ⟨s80, s81, s82, s83, s84, s85⟩, k8, v8⟩ := fV.below hw' yf; obtain ⟨⟨gd0, gd1, gd2, gd3, gd4, gd5⟩, ⟨gs0, gs1, gs2, gs3, gs4, gs5⟩, gk, gv⟩ := fg.below hw' yg; obtain ⟨⟨hd0, hd1, hd2, hd3, hd4, hd5⟩, ⟨hs0, hs1, hs2, hs3, hs4, hs5⟩, hk, hv⟩ := fh.below hw' yh; obtain ⟨ma0, ma1, ma2, ma3, ma4, ma5⟩ := mV.below hw' ym; go_simp <;> with_reducible rfl)))); try simp only [Act.put, List.setIfInBounds_toArray, List.set_cons_zero, List.set_cons_succ])
      refine plan_run rfl (fun K hK => ?_)
      go_simp
      refine (ethMine_any mcAll s k A n c v3).mono ?_
      rintro e v4 ⟨rfl, h4⟩
      rw [show ethMine mcAll = true from by decide +kernel]
      refine hK.out _ _ (below_then (below_then (undrew h1) h3) h4) ?_
      clear hK
      try simp only [Act.put, List.setIfInBounds_toArray, List.set_cons_zero, List.set_cons_succ]
      iterate 2 (refine plan_take (v := ?_) rfl (Or.inl ⟨by rfl, ?_⟩) ?_; rotate_left; (focus (intro w' hw'; obtain ⟨⟨d80, d81, d82, d83, d84, d85⟩, ⟨s80, s81, s82, s83, s84, s85⟩, k8, v8⟩ := fV.below hw' yf; obtain ⟨⟨gd0, gd1, gd2, gd3, gd4, gd5⟩, ⟨gs0, gs1, gs2, gs3, gs4, gs5⟩, gk, gv⟩ := fg.below hw' yg; obtain ⟨⟨hd0, hd1, hd2, hd3, hd4, hd5⟩, ⟨hs0, hs1, hs2, hs3, hs4, hs5⟩, hk, hv⟩ := fh.below hw' yh; obtain ⟨ma0, ma1, ma2, ma3, ma4, ma5⟩ := mV.below hw' ym; go_simp <;> with_reducible rfl)); try simp only [Act.put, List.setIfInBounds_toArray, List.set_cons_zero, List.set_cons_succ])
      iterate 1 ((first | refine plan_take (v := undef) rfl (Or.inr ⟨by rfl, rfl⟩) ?_ | (refine plan_take (v := ?_) rfl (Or.inl ⟨by rfl, ?_⟩) ?_; rotate_left; (focus (intro w' hw'; obtain ⟨⟨d80, d81, d82, d83, d84, d85⟩, ⟨s80, s81, s82, s83, s84, s85⟩, k8, v8⟩ := fV.below hw' yf; obtain ⟨⟨gd0, gd1, gd2, gd3, gd4, gd5⟩, ⟨gs0, gs1, gs2, gs3, gs4, gs5⟩, gk, gv⟩ := fg.below hw' yg; obtain ⟨⟨hd0, hd1, hd2, hd3, hd4, hd5⟩, ⟨hs0, hs1, hs2, hs3, hs4, hs5⟩, hk, hv⟩ := fh.below hw' yh; obtain ⟨ma0, ma1, ma2, ma3, ma4, ma5⟩ := mV.below hw' ym; go_simp <;> with_reducible rfl)))); try simp only [Act.put, List.setIfInBounds_toArray, List.set_cons_zero, List.set_cons_succ])
      refine plan_run rfl (fun K hK => ?_)
      go_simp
      refine (ethAll_any v4).mono ?_
      rintro e v5 ⟨rfl, h5⟩
      refine hK.out _ _ (below_then (below_then (below_then (undrew h1) h3) h4) h5) ?_
      clear hK
      try simp only [Act.put, List.setIfInBounds_toArray, List.set_cons_zero, List.set_cons_succ]
      iterate 1 ((first | refine plan_take (v := undef) rfl (Or.inr ⟨by rfl, rfl⟩) ?_ | (refine plan_take (v := ?_) rfl (Or.inl ⟨by rfl, ?_⟩) ?_; rotate_left; (focus (intro w' hw'; obtain ⟨⟨d80, d81, d82, d83, d84, d85⟩, ⟨s80, s81, s82, s83, s84, s85⟩, k8, v8⟩ := fV.below hw' yf; obtain ⟨⟨gd0, gd1, gd2, gd3, gd4, gd5⟩, ⟨gs0, gs1, gs2, gs3, gs4, gs5⟩, gk, gv⟩ := fg.below hw' yg; obtain ⟨⟨hd0, hd1, hd2, hd3, hd4, hd5⟩, ⟨hs0, hs1, hs2, hs3, hs4, hs5⟩, hk, hv⟩ := fh.below hw' yh; obtain ⟨ma0, ma1, ma2, ma3, ma4, ma5⟩ := mV.below hw' ym; go_simp <;> with_reducible rfl)))); try simp only [Act.put, List.setIfInBounds_toArray, List.set_cons_zero, List.set_cons_succ])
      iterate 2 (refine plan_take (v := ?_) rfl (Or.inl ⟨by rfl, ?_⟩) ?_; rotate_left; (focus (intro w' hw'; obtain ⟨⟨d80, d81, d82, d83, d84, d85⟩, ⟨s80, s81, s82, s83, s84, s85⟩, k8, v8⟩ := fV.below hw' yf; obtain ⟨⟨gd0, gd1, gd2, gd3, gd4, gd5⟩, ⟨gs0, gs1, gs2, gs3, gs4, gs5⟩, gk, gv⟩ := fg.below hw' yg; obtain ⟨⟨hd0, hd1, hd2, hd3, hd4, hd5⟩, ⟨hs0, hs1, hs2, hs3, hs4, hs5⟩, hk, hv⟩ := fh.below hw' yh; obtain ⟨ma0, ma1, ma2, ma3, ma4, ma5⟩ := mV.below hw' ym; go_simp <;> with_reducible rfl)); try simp only [Act.put, List.setIfInBounds_toArray, List.set_cons_zero, List.set_cons_succ])
      refine plan_run rfl (fun K hK => ?_)
      go_simp
      refine (heads18 v5).mono ?_
      rintro e v6 ⟨rfl, h6⟩
      refine hK.out _ _ (below_then (below_then (below_then (below_then (undrew h1) h3) h4) h5) h6) ?_
      clear hK
      try simp only [Act.put, List.setIfInBounds_toArray, List.set_cons_zero, List.set_cons_succ]
      iterate 2 (refine plan_take (v := ?_) rfl (Or.inl ⟨by rfl, ?_⟩) ?_; rotate_left; (focus (intro w' hw'; obtain ⟨⟨d80, d81, d82, d83, d84, d85⟩, ⟨s80, s81, s82, s83, s84, s85⟩, k8, v8⟩ := fV.below hw' yf; obtain ⟨⟨gd0, gd1, gd2, gd3, gd4, gd5⟩, ⟨gs0, gs1, gs2, gs3, gs4, gs5⟩, gk, gv⟩ := fg.below hw' yg; obtain ⟨⟨hd0, hd1, hd2, hd3, hd4, hd5⟩, ⟨hs0, hs1, hs2, hs3, hs4, hs5⟩, hk, hv⟩ := fh.below hw' yh; obtain ⟨ma0, ma1, ma2, ma3, ma4, ma5⟩ := mV.below hw' ym; go_simp <;> with_reducible rfl)); try simp only [Act.put, List.setIfInBounds_toArray, List.set_cons_zero, List.set_cons_succ])
      refine plan_done ?_
      go_wp2
      go_ret
      exact ⟨rfl, below_then (below_then bW1 B1W) (B7.trans ((below_then (below_then (below_then (below_then (undrew h1) h3) h4) h5) h6).mono xV))⟩
    | false =>
      have hM : ethMine d = mcEq d mcAll := by unfold ethMine; rw [hq]; rfl
      have k5 : (mcEq d mcAll == mcEq d mcAll) = true := by simp
      refine wp_region_plan (S := fun w' => Below V.heap.size V w') [(0, true), (2, true), (3, true), (4, true), (5, true), (1, false), (6, true), (7, true), (8, true), (9, false), (10, true), (11, true), (12, true), (13, true), (14, true), (15, false), (16, true), (17, true), (18, true), (19, false), (20, true), (21, true), (22, true), (23, false), (24, true), (25, true), (26, true), (27, false), (28, true), (29, true)] (by kernel_rfl) (by kernel_rfl) (fun _ _ d _ _ h => by cases d <;> exact h) ((Below.refl _ V).drew) ?_
      iterate 5 (refine plan_take (v := ?_) rfl (Or.inl ⟨by rfl, ?_⟩) ?_; rotate_left; (focus (intro w' hw'; obtain ⟨⟨d80, d81, d82, d83, d84, d85⟩, ⟨s80, s81, s82, s83, s84, s85⟩, k8, v8⟩ := fV.below hw' yf; obtain ⟨⟨gd0, gd1, gd2, gd3, gd4, gd5⟩, ⟨gs0, gs1, gs2, gs3, gs4, gs5⟩, gk, gv⟩ := fg.below hw' yg; obtain ⟨⟨hd0, hd1, hd2, hd3, hd4, hd5⟩, ⟨hs0, hs1, hs2, hs3, hs4, hs5⟩, hk, hv⟩ := fh.below hw' yh; obtain ⟨ma0, ma1, ma2, ma3, ma4, ma5⟩ := mV.below hw' ym; go_simp <;> with_reducible rfl)); try simp only [Act.put, List.setIfInBounds_toArray, List.set_cons_zero, List.set_cons_succ])
      refine plan_run rfl (fun K hK => ?_)
      go_simp
      refine (ethMine_any d s k A n c _).mono ?_
      rintro e v1 ⟨rfl, h1⟩
      refine hK.out _ _ (undrew h1) ?_
      clear hK
      try simp only [Act.put, List.setIfInBounds_toArray, List.set_cons_zero, List.set_cons_succ]
      iterate 1 (refine plan_take (v := ?_) rfl (Or.inl ⟨by rfl, ?_⟩) ?_; rotate_left; (focus (intro w' hw'; obtain ⟨⟨d80, d81, d82, d83, d84, d85⟩, ⟨s80, s81, s82, s83, s84, s85⟩, k8, v8⟩ := fV.below hw' yf; obtain ⟨⟨gd0, gd1, gd2, gd3, gd4, gd5⟩, ⟨gs0, gs1, gs2, gs3, gs4, gs5⟩, gk, gv⟩ := fg.below hw' yg; obtain ⟨⟨hd0, hd1, hd2, hd3, hd4, hd5⟩, ⟨hs0, hs1, hs2, hs3, hs4, hs5⟩, hk, hv⟩ := fh.below hw' yh; obtain ⟨ma0, ma1, ma2, ma3, ma4, ma5⟩ := mV.below hw' ym; go_simp <;> with_reducible rfl)); try simp only [Act.put, List.setIfInBounds_toArray, List.set_cons_zero, List.set_cons_succ])
      iterate 2 ((first | refine plan_take (v := undef) rfl (Or.inr ⟨by rfl, rfl⟩) ?_ | (refine plan_take (v := ?_) rfl (Or.inl ⟨by rfl, ?_⟩) ?_; rotate_left; (focus (intro w' hw'; obtain ⟨⟨d80, d81, d82, d83, d84, d85⟩, ⟨s80, s81, s82, s83, s84, s85⟩, k8, v8⟩ := fV.below hw' yf; obtain ⟨⟨gd0, gd1, gd2, gd3, gd4, gd5⟩, ⟨gs0, gs1, gs2, gs3, gs4, gs5⟩, gk, gv⟩ := fg.below hw' yg; obtain ⟨⟨hd0, hd1, hd2, hd3, hd4, hd5⟩, ⟨hs0, hs1, hs2, hs3, hs4, hs5⟩, hk, hv⟩ := fh.below hw' yh; obtain ⟨ma0, ma1, ma2, ma3, ma4, ma5⟩ := mV.below hw' ym; go_simp <;> with_reducible rfl)))); try simp only [Act.put, List.setIfInBounds_toArray, List.set_cons_zero, List.set_cons_succ])
      refine plan_run rfl (fun K hK => ?_)
      go_simp
      refine (ethAll_any v1).mono ?_
      rintro e v2 ⟨rfl, h2⟩
      refine hK.out _ _ (below_then (undrew h1) h2) ?_
      clear hK
      try simp only [Act.put, List.setIfInBounds_toArray, List.set_cons_zero, List.set_cons_succ]
      iterate 1 ((first | refine plan_take (v := undef) rfl (Or.inr ⟨by rfl, rfl⟩) ?_ | (refine plan_take (v := ?_) rfl (Or.inl ⟨by rfl, ?_⟩) ?_; rotate_left; (focus (intro w' hw'; obtain ⟨⟨d80, d81, d82, d83, d84, d85⟩, ⟨s80, s81, s82, s83, s84, s85⟩, k8, v8⟩ := fV.below hw' yf; obtain ⟨⟨gd0, gd1, gd2, gd3, gd4, gd5⟩, ⟨gs0, gs1, gs2, gs3, gs4, gs5⟩, gk, gv⟩ := fg.below hw' yg; obtain ⟨⟨hd0, hd1, hd2, hd3, hd4, hd5⟩, ⟨hs0, hs1, hs2, hs3, hs4, hs5⟩, hk, hv⟩ := fh.below hw' yh; obtain ⟨ma0, ma1, ma2, ma3, ma4, ma5⟩ := mV.below hw' ym; go_simp <;> with_reducible rfl)))); try simp only [Act.put, List.setIfInBounds_toArray, List.set_cons_zero, List.set_cons_succ])
      iterate 3 (refine plan_take (v := ?_) rfl (Or.inl ⟨by rfl, ?_⟩) ?_; rotate_left; (focus (intro w' hw'; obtain ⟨⟨d80, d81, d82, d83, d84, d85⟩, ⟨s80, s81, s82, s83, s84, s85⟩, k8, v8⟩ := fV.below hw' yf; obtain ⟨⟨gd0, gd1, gd2, gd3, gd4, gd5⟩, ⟨gs0, gs1, gs2, gs3, gs4, gs5⟩, gk, gv⟩ := fg.below hw' yg; obtain ⟨⟨hd0, hd1, hd2, hd3, hd4, hd5⟩, ⟨hs0, hs1, hs2, hs3, hs4, hs5⟩, hk, hv⟩ := fh.below hw' yh; obtain ⟨ma0, ma1, ma2, ma3, ma4, ma5⟩ := mV.below hw' ym; go_simp <;> with_reducible rfl)); try simp only [Act.put, List.setIfInBounds_toArray, List.set_cons_zero, List.set_cons_succ])
      iterate 1 ((first | refine plan_take (v := undef) rfl (Or.inr ⟨by rfl, rfl⟩) ?_ | (refine plan_take (v := ?_) rfl (Or.inl ⟨by rfl, ?_⟩) ?_; rotate_left; (focus (intro w' hw'; obtain ⟨⟨d80, d81, d82, d83, d84, d85⟩, ⟨s80, s81, s82, s83, s84, s85⟩, k8, v8⟩ := fV.below hw' yf; obtain ⟨⟨gd0, gd1, gd2, gd3, gd4, gd5⟩, ⟨gs0, gs1, gs2, gs3, gs4, gs5⟩, gk, gv⟩ := fg.below hw' yg; obtain ⟨⟨hd0, hd1, hd2, hd3, hd4, hd5⟩, ⟨hs0, hs1, hs2, hs3, hs4, hs5⟩, hk, hv⟩ := fh.below hw' yh; obtain ⟨ma0, ma1, ma2, ma3, ma4, ma5⟩ := mV.below hw' ym; go_simp <;> with_reducible rfl)))); try simp only [Act.put, List.setIfInBounds_toArray, List.set_cons_zero, List.set_cons_succ])
      refine plan_run rfl (fun K hK => ?_)
      go_simp
      refine (ethMine_any mcOwn s k A n c v2).mono ?_
      rintro e v3 ⟨rfl, h3⟩
      rw [show ethMine mcOwn = true from by decide +kernel]
      refine hK.out _ _ (below_then (below_then (undrew h1) h2) h3) ?_
      clear hK
      try simp only [Act.put, List.setIfInBounds_toArray, List.set_cons_zero, List.set_cons_succ]
      iterate 2 (refine plan_take (v := ?_) rfl (Or.inl ⟨by rfl, ?_⟩) ?_; rotate_left; (focus (intro w' hw'; obtain ⟨⟨d80, d81, d82, d83, d84, d85⟩, ⟨s80, s81, s82, s83, s84, s85⟩, k8, v8⟩ := fV.below hw' yf; obtain ⟨⟨gd0, gd1, gd2, gd3, gd4, gd5⟩, ⟨gs0, gs1, gs2, gs3, gs4, gs5⟩, gk, gv⟩ := fg.below hw' yg; obtain ⟨⟨hd0, hd1, hd2, hd3, hd4, hd5⟩, ⟨hs0, hs1, hs2, hs3, hs4, hs5⟩, hk, hv⟩ := fh.below hw' yh; obtain ⟨ma0, ma1, ma2, ma3, ma4, ma5⟩ := mV.below hw' ym; go_simp <;> with_reducible rfl)); try simp only [Act.put, List.setIfInBounds_toArray, List.set_cons_zero, List.set_cons_succ])
      iterate 1 ((first | refine plan_take (v := undef) rfl (Or.inr ⟨by rfl, rfl⟩) ?_ | (refine plan_take (v := ?_) rfl (Or.inl ⟨by rfl, ?_⟩) ?_; rotate_left; (focus (intro w' hw'; obtain ⟨⟨d80, d81, d82, d83, d84, d85⟩, ⟨s80, s81, s82, s83, s84, s85⟩, k8, v8⟩ := fV.below hw' yf; obtain ⟨⟨gd0, gd1, gd2, gd3, gd4, gd5⟩, ⟨gs0, gs1, gs2, gs3, gs4, gs5⟩, gk, gv⟩ := fg.below hw' yg; obtain ⟨⟨hd0, hd1, hd2, hd3, hd4, hd5⟩, ⟨hs0, hs1, hs2, hs3, hs4, hs5⟩, hk, hv⟩ := fh.below hw' yh; obtain ⟨ma0, ma1, ma2, ma3, ma4, ma5⟩ := mV.below hw' ym; go_simp <;> with_reducible rfl)))); try simp only [Act.put, List.setIfInBounds_toArray, List.set_cons_zero, List.set_cons_succ])
      refine plan_run rfl (fun K hK => ?_)
      go_simp
      refine (ethMine_any mcAll s k A n c v3).mono ?_
      rintro e v4 ⟨rfl, h4⟩
      rw [show ethMine mcAll = true from by decide +kernel]
      refine hK.out _ _ (below_then (below_then (below_then (undrew h1) h2) h3) h4) ?_
      clear hK
      try simp only [Act.put, List.setIfInBounds_toArray, List.set_cons_zero, List.set_cons_succ]
      iterate 2 (refine plan_take (v := ?_) rfl (Or.inl ⟨by rfl, ?_⟩) ?_; rotate_left; (focus (intro w' hw'; obtain ⟨⟨d80, d81, d82, d83, d84, d85⟩, ⟨s80, s81, s82, s83, s84, s85⟩, k8, v8⟩ := fV.below hw' yf; obtain ⟨⟨gd0, gd1, gd2, gd3, gd4, gd5⟩, ⟨gs0, gs1, gs2, gs3, gs4, gs5⟩, gk, gv⟩ := fg.below hw' yg; obtain ⟨⟨hd0, hd1, hd2, hd3, hd4, hd5⟩, ⟨hs0, hs1, hs2, hs3, hs4, hs5⟩, hk, hv⟩ := fh.below hw' yh; obtain ⟨ma0, ma1, ma2, ma3, ma4, ma5⟩ := mV.below hw' ym; go_simp <;> with_reducible rfl)); try simp only [Act.put, List.setIfInBounds_toArray, List.set_cons_zero, List.set_cons_succ])
      iterate 1 ((first | refine plan_take (v := undef) rfl (Or.inr ⟨by rfl, rfl⟩) ?_ | (refine plan_take (v := ?_) rfl (Or.inl ⟨by rfl, ?_⟩) ?_; rotate_left; (focus (intro w' hw'; obtain ⟨⟨d80, d81, d82, d83, d84, d85⟩, ⟨s80, s81, s82, s83, s84, s85⟩, k8, v8⟩ := fV.below hw' yf; obtain ⟨⟨gd0, gd1, gd2, gd3, gd4, gd5⟩, ⟨gs0, gs1, gs2, gs3, gs4, gs5⟩, gk, gv⟩ := fg.below hw' yg; obtain ⟨⟨hd0, hd1, hd2, hd3, hd4, hd5⟩, ⟨hs0, hs1, hs2, hs3, hs4, hs5⟩, hk, hv⟩ := fh.below hw' yh; obtain ⟨ma0, ma1, ma2, ma3, ma4, ma5⟩ := mV.below hw' ym; go_simp <;> with_reducible rfl)))); try simp only [Act.put, List.setIfInBounds_toArray, List.set_cons_zero, List.set_cons_succ])
      refine plan_run rfl (fun K hK => ?_)
      go_simp
      refine (ethAll_any v4).mono ?_
      rintro e v5 ⟨rfl, h5⟩
      refine hK.out _ _ (below_then (below_then (below_then (below_then (undrew h1) h2) h3) h4) h5) ?_
      clear hK
      try simp only [Act.put, List.setIfInBounds_toArray, List.set_cons_zero, List.set_cons_succ]
      iterate 1 ((first | refine plan_take (v := undef) rfl (Or.inr ⟨by rfl, rfl⟩) ?_ | (refine plan_take (v := ?_) rfl (Or.inl ⟨by rfl, ?_⟩) ?_; rotate_left; (focus (intro w' hw'; obtain ⟨⟨d80, d81, d82, d83, d84, d85⟩, ⟨s80, s81, s82, s83, s84, s85⟩, k8, v8⟩ := fV.below hw' yf; obtain ⟨⟨gd0, gd1, gd2, gd3, gd4, gd5⟩, ⟨gs0, gs1, gs2, gs3, gs4, gs5⟩, gk, gv⟩ := fg.below hw' yg; obtain ⟨⟨hd0, hd1, hd2, hd3, hd4, hd5⟩, ⟨hs0, hs1, hs2, hs3, hs4, hs5⟩, hk, hv⟩ := fh.below hw' yh; obtain ⟨ma0, ma1, ma2, ma3, ma4, ma5⟩ := mV.below hw' ym; go_simp <;> with_reducible rfl)))); try simp only [Act.put, List.setIfInBounds_toArray, List.set_cons_zero, List.set_cons_succ])
      iterate 2 (refine plan_take (v := ?_) rfl (Or.inl ⟨by rfl, ?_⟩) ?_; rotate_left; (focus (intro w' hw'; obtain ⟨⟨d80, d81, d82, d83, d84, d85⟩, ⟨s80, s81, s82, s83, s84, s85⟩, k8, v8⟩ := fV.below hw' yf; obtain ⟨⟨gd0, gd1, gd2, gd3, gd4, gd5⟩, ⟨gs0, gs1, gs2, gs3, gs4, gs5⟩, gk, gv⟩ := fg.below hw' yg; obtain ⟨⟨hd0, hd1, hd2, hd3, hd4, hd5⟩, ⟨hs0, hs1, hs2, hs3, hs4, hs5⟩, hk, hv⟩ := fh.below hw' yh; obtain ⟨ma0, ma1, ma2, ma3, ma4, ma5⟩ := mV.below hw' ym; go_simp <;> with_reducible rfl)); try simp only [Act.put, List.setIfInBounds_toArray, List.set_cons_zero, List.set_cons_succ])
      refine plan_run rfl (fun K hK => ?_)
      go_simp
      refine (heads18 v5).mono ?_
      rintro e v6 ⟨rfl, h6⟩
      refine hK.out _ _ (below_then (below_then (below_then (below_then (below_then (undrew h1) h2) h3) h4) h5) h6) ?_
      clear hK
      try simp only [Act.put, List.setIfInBounds_toArray, List.set_cons_zero, List.set_cons_succ]
      iterate 2 (refine plan_take (v := ?_) rfl (Or.inl ⟨by rfl, ?_⟩) ?_; rotate_left; (focus (intro w' hw'; obtain ⟨⟨d80, d81, d82, d83, d84, d85⟩, ⟨s80, s81, s82, s83, s84, s85⟩, k8, v8⟩ := fV.below hw' yf; obtain ⟨⟨gd0, gd1, gd2, gd3, gd4, gd5⟩, ⟨gs0, gs1, gs2, gs3, gs4, gs5⟩, gk, gv⟩ := fg.below hw' yg; obtain ⟨⟨hd0, hd1, hd2, hd3, hd4, hd5⟩, ⟨hs0, hs1, hs2, hs3, hs4, hs5⟩, hk, hv⟩ := fh.below hw' yh; obtain ⟨ma0, ma1, ma2, ma3, ma4, ma5⟩ := mV.below hw' ym; go_simp <;> with_reducible rfl)); try simp only [Act.put, List.setIfInBounds_toArray, List.set_cons_zero, List.set_cons_succ])
      refine plan_done ?_
      go_wp2
      go_ret
      exact ⟨rfl, below_then (below_then bW1 B1W) (B7.trans ((below_then (below_then (below_then (below_then (below_then (undrew h1) h2) h3) h4) h5) h6).mono xV))⟩
end Go.Proofs.Ytieilgphcfiapaa
