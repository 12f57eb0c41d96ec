/-
  Layer 18, frames: the document's Get.
-/
import Derived.Test.YtieilgphcfiapaaEthC
import Derived.Test.YtieilgphcfiapaaOps
import Derived.Deep.DeepCutAuto
namespace Go.Proofs.Ytieilgphcfiapaa
set_option maxRecDepth 20000
open Go.RowKit
set_option linter.unusedVariables false
set_option linter.unusedSimpArgs false

theorem refGet18_short (A : Option Addr) (n c : Nat) (xs : List UInt8) (w : World) (hr : RdB w A n c xs) (h : n < 14 ∨ 180 < n) :
    Calls Try.prog 21 #[.slice A n c] w (RetFr w frZero (ethGetE xs)) := by
  have hn63 := hr.n63
  by_cases h1 : n < 14
  · have e1 : ethGetE xs = 5 := by unfold ethGetE; rw [hr.2.1, if_pos h1]
    rw [e1]
    have d1 : decide ((n : Int) < 14) = true := decide_eq_true (by omega)
    clear e1 h
    go_enter Try.func21, Try.ntmps21
    go_wp2
    exact bodyPost_ret (v := .tuple #[.agg #[.int .u8 (frZero.d.a0.toNat : Int), .int .u8 (frZero.d.a1.toNat : Int), .int .u8 (frZero.d.a2.toNat : Int), .int .u8 (frZero.d.a3.toNat : Int), .int .u8 (frZero.d.a4.toNat : Int), .int .u8 (frZero.d.a5.toNat : Int), .int .u8 (frZero.s.a0.toNat : Int), .int .u8 (frZero.s.a1.toNat : Int), .int .u8 (frZero.s.a2.toNat : Int), .int .u8 (frZero.s.a3.toNat : Int), .int .u8 (frZero.s.a4.toNat : Int), .int .u8 (frZero.s.a5.toNat : Int), .int .u16 frZero.k, .slice none 0 0], .int .i64 5]) (by simp [results, Try.results21, go_sem, alloc_box, frZero, mcZero]) rfl ⟨_, _, _, rfl, RdB.nilB _, (below_self w).alloc (Nat.le_refl _) _⟩
  · have e1 : ethGetE xs = 2 := by unfold ethGetE; rw [hr.2.1, if_neg h1, if_pos (by omega)]
    rw [e1]
    have d1 : decide ((n : Int) < 14) = false := decide_eq_false (by omega)
    have d2 : decide ((180 : Int) < (n : Int)) = true := decide_eq_true (by omega)
    clear e1 h
    go_enter Try.func21, Try.ntmps21
    go_wp2
    exact bodyPost_ret (v := .tuple #[.agg #[.int .u8 (frZero.d.a0.toNat : Int), .int .u8 (frZero.d.a1.toNat : Int), .int .u8 (frZero.d.a2.toNat : Int), .int .u8 (frZero.d.a3.toNat : Int), .int .u8 (frZero.d.a4.toNat : Int), .int .u8 (frZero.d.a5.toNat : Int), .int .u8 (frZero.s.a0.toNat : Int), .int .u8 (frZero.s.a1.toNat : Int), .int .u8 (frZero.s.a2.toNat : Int), .int .u8 (frZero.s.a3.toNat : Int), .int .u8 (frZero.s.a4.toNat : Int), .int .u8 (frZero.s.a5.toNat : Int), .int .u16 frZero.k, .slice none 0 0], .int .i64 2]) (by simp [results, Try.results21, go_sem, alloc_box, frZero, mcZero]) rfl ⟨_, _, _, rfl, RdB.nilB _, (below_self w).alloc (Nat.le_refl _) _⟩


/-- The variable as it is filled. -/
def frRow (xs : List UInt8) (k Kd : Nat) (A : Option Addr) (n c : Nat) : Array Value :=
  ((List.range 12).map (fun j => if j % 6 < k then vB (xs.getD j 0) else Value.int .u8 0) ++ [Value.int .u16 Kd, Value.slice A n c]).toArray
theorem frRow_old (xs : List UInt8) (k Kd : Nat) (A : Option Addr) (n c : Nat) (h : k < 6) : (frRow xs k Kd A n c)[k]? = some (.int .u8 0) := by
  match k, h with
  | 0, _ | 1, _ | 2, _ | 3, _ | 4, _ | 5, _ => rfl
theorem frRow_old6 (xs : List UInt8) (k Kd : Nat) (A : Option Addr) (n c : Nat) (h : k < 6) : (frRow xs k Kd A n c)[6 + k]? = some (.int .u8 0) := by
  match k, h with
  | 0, _ | 1, _ | 2, _ | 3, _ | 4, _ | 5, _ => rfl
theorem frRow_succ (xs : List UInt8) (k Kd : Nat) (A : Option Addr) (n c : Nat) (h : k < 6) :
    ((frRow xs k Kd A n c).setIfInBounds k (vB (xs.getD k 0))).setIfInBounds (6 + k) (vB (xs.getD (6 + k) 0)) = frRow xs (k + 1) Kd A n c := by
  match k, h with
  | 0, _ | 1, _ | 2, _ | 3, _ | 4, _ | 5, _ => rfl
theorem frRow_zero (xs : List UInt8) (Kd : Nat) (A : Option Addr) (n c : Nat) : frRow xs 0 Kd A n c = #[.int .u8 0, .int .u8 0, .int .u8 0, .int .u8 0, .int .u8 0, .int .u8 0, .int .u8 0, .int .u8 0, .int .u8 0, .int .u8 0, .int .u8 0, .int .u8 0, .int .u16 Kd, .slice A n c] := rfl
theorem frRow_six (xs : List UInt8) (Kd : Nat) (A : Option Addr) (n c : Nat) (D S : Mc) (hD : mcAt xs 0 = D) (hS : mcAt xs 6 = S) : frRow xs 6 Kd A n c = #[.int .u8 (D.a0.toNat : Int), .int .u8 (D.a1.toNat : Int), .int .u8 (D.a2.toNat : Int), .int .u8 (D.a3.toNat : Int), .int .u8 (D.a4.toNat : Int), .int .u8 (D.a5.toNat : Int), .int .u8 (S.a0.toNat : Int), .int .u8 (S.a1.toNat : Int), .int .u8 (S.a2.toNat : Int), .int .u8 (S.a3.toNat : Int), .int .u8 (S.a4.toNat : Int), .int .u8 (S.a5.toNat : Int), .int .u16 Kd, .slice A n c] := by subst hD hS; rfl
theorem row_set2 {w : World} {g i j : Nat} {cur : Array Value} {T : TypeId} {v v' : Value} (hg : w.heap[g]? = some (.cells cur T (0, 0))) :
    ((w.setCell ⟨g, i, none⟩ v).setCell ⟨g, j, none⟩ v').heap[g]? = some (.cells ((cur.setIfInBounds i v).setIfInBounds j v') T (0, 0)) := by
  rw [setCell_eq_setRow w g i cur T (0, 0) v hg]
  have h2 := setRow_heap w g cur (cur.setIfInBounds i v) T (0, 0) hg
  rw [setCell_eq_setRow _ g j _ T (0, 0) v' h2]
  exact setRow_heap _ g _ _ T (0, 0) h2
def GetI (W : World) (xs : List UInt8) (Kd g : Nat) (A : Option Addr) (n c : Nat) (v : Value) (wr : World) : Prop :=
  ∃ k : Nat, k ≤ 6 ∧ v = .int .i64 (k : Nat) ∧ wr.heap[g]? = some (.cells (frRow xs k Kd A n c) 27 (0, 0)) ∧ Below W.heap.size W wr ∧ RdB wr A n c (xs.drop 14)
theorem refGet18_main (A : Option Addr) (n c : Nat) (xs : List UInt8) (w : World) (hr : RdB w A n c xs) (h1 : 14 ≤ n) (h2 : n ≤ 180) :
    Calls Try.prog 21 #[.slice A n c] w (RetFr w ⟨mcAt xs 0, mcAt xs 6, bev ((xs.drop 12).take 2), xs.drop 14⟩ 0) := by
  have hn63 := hr.n63
  have hc := hr.2.2.1
  have hc63 := hr.c63
  have d1 : decide ((n : Int) < 14) = false := decide_eq_false (by omega)
  have d2 : decide ((180 : Int) < (n : Int)) = false := decide_eq_false (by omega)
  obtain ⟨b, o, u, rfl, hbl, _⟩ := hr.at_ 0 (by omega)
  have hnc : (14 : Int) ≤ (c : Int) := by omega
  have hcn : ¬ (c = 12) := by omega
  have kn14 : (14 : Int) ≤ (n : Int) := by omega
  have knc : (n : Int) ≤ (c : Int) := by omega
  obtain ⟨A2, k14⟩ : ∃ A2, (if c = 14 then some (⟨b, o, none⟩ : Addr) else some ⟨b, o + 14, none⟩) = A2 := ⟨_, rfl⟩
  have hr3 : RdB w A2 (n - 14) (c - 14) (xs.drop 14) := by
    have := hr.drop 14 h1
    rw [← k14]
    simpa [Addr.add_lit] using this
  have hr2 := (hr.cutS 12 (n - 12) (by omega) (by omega)).take 2 (by omega)
  have hK : fromBe ((xs.drop 12).take 2) = bev ((xs.drop 12).take 2) := by unfold fromBe; rw [List.take_of_length_le (by rw [hr2.2.1]; omega)]
  have hK2 : bev ((xs.drop 12).take 2) < 65536 := by have := bev_lt ((xs.drop 12).take 2); rwa [hr2.2.1] at this
  generalize bev ((xs.drop 12).take 2) = Kd at hK hK2 ⊢
  have HK := Lib.hid hK
  clear hK
  have wk : IntKind.u16.wrap (Kd : Int) = Kd := by rw [IntKind.wrap_u16]; omega
  obtain ⟨W, hW⟩ : ∃ W, W = w.alloc (.cells #[.int .u8 0, .int .u8 0, .int .u8 0, .int .u8 0, .int .u8 0, .int .u8 0, .int .u8 0, .int .u8 0, .int .u8 0, .int .u8 0, .int .u8 0, .int .u8 0, .int .u16 0, .slice none 0 0] 27) := ⟨_, rfl⟩
  have bW : Below w.heap.size w W := by rw [hW]; exact (below_self w).alloc (Nat.le_refl _) _
  have hzW : W.heap.size = w.heap.size + 1 := by rw [hW]; simp
  have hg0 : W.heap[w.heap.size]? = some (.cells #[.int .u8 0, .int .u8 0, .int .u8 0, .int .u8 0, .int .u8 0, .int .u8 0, .int .u8 0, .int .u8 0, .int .u8 0, .int .u8 0, .int .u8 0, .int .u8 0, .int .u16 0, .slice none 0 0] 27 (0, 0)) := by rw [hW]; exact heap_alloc_new w _
  have HZ := Lib.hid hzW
  have HG := Lib.hid hg0
  have HW := Lib.hid hW
  clear hW hzW hg0
  go_enter Try.func21, Try.ntmps21
  go_upto_region 5 with fail
  go_cut [4] (fun s4 wx => ∃ g A3 n3 c3, s4 = .pointer (some ⟨g, 0, none⟩) ∧ W.heap.size ≤ g ∧ g < wx.heap.size ∧ wx.heap[g]? = some (.cells #[.int .u8 0, .int .u8 0, .int .u8 0, .int .u8 0, .int .u8 0, .int .u8 0, .int .u8 0, .int .u8 0, .int .u8 0, .int .u8 0, .int .u8 0, .int .u8 0, .int .u16 Kd, .slice A3 n3 c3] 27 (0, 0)) ∧ RdB wx A3 n3 c3 (xs.drop 14) ∧ (∀ a, A3 = some a → a.block ≠ g ∧ W.heap.size ≤ a.block) ∧ Below W.heap.size W wx)
  case first =>
    rw [← HW.out]
    refine wp_region_seg (S := fun w' => Below W.heap.size W w') 5 #[true, true, true, true, false, true, true, false, false, false, false] [(0, true), (1, true), (2, true), (3, true), (5, true), (6, true)] (by kernel_rfl) (by kernel_rfl) (fun _ _ d _ _ h => by cases d <;> exact h) ((Below.refl W.heap.size W).drew) ?_
    have HB := (Below.refl W.heap.size W).drew
    iterate 2 (refine seg_take (v := ?_) rfl (Or.inl ⟨by rfl, ?_⟩) ?_; rotate_left; (focus (intro w' hw'; go_simp <;> with_reducible rfl)); try simp only [Act.put, List.setIfInBounds_toArray, List.set_cons_zero, List.set_cons_succ])
    refine seg_pure (v := .int .u64 (Kd : Int)) (f := ?_) (args := ?_) rfl (by rfl) (fun w' hw' => ?_) (fun w' hw' => ?_) ?_
    rotate_left 2
    focus (go_simp <;> first | (refine ⟨?_, ?_⟩ <;> with_reducible rfl) | with_reducible rfl)
    focus (exact (HK.out ▸ refFromBe_any _ _ _ _ w' ((hr2.below bW).below hw')))
    try simp only [Act.put, List.setIfInBounds_toArray, List.set_cons_zero, List.set_cons_succ]
    iterate 3 (refine seg_take (v := ?_) rfl (Or.inl ⟨by rfl, ?_⟩) ?_; rotate_left; (focus (intro w' hw'; go_simp <;> with_reducible rfl)); try simp only [Act.put, List.setIfInBounds_toArray, List.set_cons_zero, List.set_cons_succ])
    refine seg_done (fun _ => ?_)
    refine wpAnyH_two (i := 4) (j := 9) (f := 4) (by kernel_rfl) ?_ ?_
    · skip
      refine op_run rfl (fun K hK => ?_)
      rw [if_pos (by rfl)]
      refine op_lit #[] 5 0 rfl (fun w => by go_simp) ?_
      intro gB wB eB hBrow HBb hBsz
      try have hLz := Nat.lt_of_lt_of_le hLz HBb.size
      have HB0 := HB.size
      try have hL := (HBb.block _ (by omega)).trans hL
      have HB := below_then HB HBb
      have hoB := own_at0 hBrow (base := W.heap.size) (by omega)
      refine hK.out _ _ (HB) ?_
      clear hK
      try simp only [Act.put, List.setIfInBounds_toArray, List.set_cons_zero, List.set_cons_succ]
      refine wpAnyH_seg (by kernel_rfl) (fun _ _ d _ _ h => by cases d <;> exact h) 4 #[true, true, true, true, true, true, true, false, false, false, false] [] _ _ _ (by kernel_rfl) (HB) ?_
      refine seg_done (fun _ => ?_)
      refine wpAnyH_two (i := 7) (j := 9) (f := 3) (by kernel_rfl) ?_ ?_
      · skip
        refine op_run rfl (fun K hK => ?_)
        rw [if_pos (by rfl)]
        have hA0 : ∀ a, some (⟨gB, 0, none⟩ : Addr) = some a → a.block = gB := fun a h => by cases h; rfl
        refine op_appB _ _ rfl HB (Nat.le_refl _) HB.size _ _ _ _ rfl hoB _ _ _ _ rfl ((hr3.below bW).below HB) (by omega) (n - 14) (xs.drop 14) (by omega) (by simp) ?_
        intro A3 c3 wA hoA HBa hgA
        try have hL := grown_keep hgA hL (fun a h => by rw [hA0 a h]; omega)
        try have hLz := Nat.lt_of_lt_of_le hLz hgA.size
        have HB := HBa
        refine hK.out _ _ (HB) ?_
        clear hK
        try simp only [Act.put, List.setIfInBounds_toArray, List.set_cons_zero, List.set_cons_succ]
        refine wpAnyH_seg (by kernel_rfl) (fun _ _ d _ _ h => by cases d <;> exact h) 0 #[true, true, true, true, true, true, true, true, true, true, true] [(8, true), (9, false), (10, false)] _ _ _ (by kernel_rfl) (HB) ?_
        iterate 1 (refine seg_take (v := ?_) rfl (Or.inl ⟨by rfl, ?_⟩) ?_; rotate_left; (focus (intro w' hw'; go_simp <;> with_reducible rfl)); try simp only [Act.put, List.setIfInBounds_toArray, List.set_cons_zero, List.set_cons_succ])
        refine seg_run rfl (fun K hK => ?_)
        rw [if_pos (by rfl)]
        refine op_new #[.int .u8 0, .int .u8 0, .int .u8 0, .int .u8 0, .int .u8 0, .int .u8 0, .int .u8 0, .int .u8 0, .int .u8 0, .int .u8 0, .int .u8 0, .int .u8 0, .int .u16 0, .slice none 0 0] 27 (fun w => by go_simp) ?_
        intro gL wL eL hL HBl hLsz
        have hLz : gL < wL.heap.size := by omega
        try have hoB := hoB.below HBl
        try have hoA := hoA.below HBl
        have HB0 := HB.size
        have HB := below_then HB HBl
        refine hK.out _ _ (HB) ?_
        clear hK
        try simp only [Act.put, List.setIfInBounds_toArray, List.set_cons_zero, List.set_cons_succ]
        refine seg_run rfl (fun K hK => ?_)
        rw [if_pos (by rfl)]
        have hLW : W.heap.size ≤ gL := by omega
        refine wp_store_row _ _ _ rfl gL #[.int .u8 0, .int .u8 0, .int .u8 0, .int .u8 0, .int .u8 0, .int .u8 0, .int .u8 0, .int .u8 0, .int .u8 0, .int .u8 0, .int .u8 0, .int .u8 0, .int .u16 Kd, .slice A3 (n - 14) c3] rfl rfl _ _ hL (by kernel_rfl : (Try.prog.info? 27).map (·.size) = some 14) rfl (by simp [Value.oneCell']) ?_
        have HB := below_setRow HB hLW #[.int .u8 0, .int .u8 0, .int .u8 0, .int .u8 0, .int .u8 0, .int .u8 0, .int .u8 0, .int .u8 0, .int .u8 0, .int .u8 0, .int .u8 0, .int .u8 0, .int .u16 Kd, .slice A3 (n - 14) c3]
        refine hK.out _ _ (HB) ?_
        clear hK
        try simp only [Act.put, List.setIfInBounds_toArray, List.set_cons_zero, List.set_cons_succ]
        refine seg_done (fun _ => ?_)
        refine wpAnyH_done (by kernel_rfl) ?_ _
        have hA3 := own_ne hoA hL (by decide)
        have hrow := setRow_heap _ gL _ #[.int .u8 0, .int .u8 0, .int .u8 0, .int .u8 0, .int .u8 0, .int .u8 0, .int .u8 0, .int .u8 0, .int .u8 0, .int .u8 0, .int .u8 0, .int .u8 0, .int .u16 Kd, .slice A3 (n - 14) c3] _ _ hL
        go_wp2_with fail
        go_meet
        exact ⟨gL, A3, n - 14, c3, rfl, hLW, by simp; omega, hrow, rd_row hoA.rd _ _ (fun _ a ha => (hA3 a ha).1), hA3, HB⟩
      · skip
        refine op_run rfl (fun K hK => ?_)
        rw [if_pos (by rfl)]
        refine op_new #[.int .u8 0, .int .u8 0, .int .u8 0, .int .u8 0, .int .u8 0, .int .u8 0, .int .u8 0, .int .u8 0, .int .u8 0, .int .u8 0, .int .u8 0, .int .u8 0, .int .u16 0, .slice none 0 0] 27 (fun w => by go_simp) ?_
        intro gL wL eL hL HBl hLsz
        have hLz : gL < wL.heap.size := by omega
        try have hoB := hoB.below HBl
        try have hoA := hoA.below HBl
        have HB0 := HB.size
        have HB := below_then HB HBl
        refine hK.out _ _ (HB) ?_
        clear hK
        try simp only [Act.put, List.setIfInBounds_toArray, List.set_cons_zero, List.set_cons_succ]
        refine wpAnyH_seg (by kernel_rfl) (fun _ _ d _ _ h => by cases d <;> exact h) 0 #[true, true, true, true, true, true, true, true, true, true, true] [(7, false), (8, true), (10, false)] _ _ _ (by kernel_rfl) (HB) ?_
        refine seg_run rfl (fun K hK => ?_)
        rw [if_pos (by rfl)]
        have hA0 : ∀ a, some (⟨gB, 0, none⟩ : Addr) = some a → a.block = gB := fun a h => by cases h; rfl
        refine op_appB _ _ rfl HB (Nat.le_refl _) HB.size _ _ _ _ rfl hoB _ _ _ _ rfl ((hr3.below bW).below HB) (by omega) (n - 14) (xs.drop 14) (by omega) (by simp) ?_
        intro A3 c3 wA hoA HBa hgA
        try have hL := grown_keep hgA hL (fun a h => by rw [hA0 a h]; omega)
        try have hLz := Nat.lt_of_lt_of_le hLz hgA.size
        have HB := HBa
        refine hK.out _ _ (HB) ?_
        clear hK
        try simp only [Act.put, List.setIfInBounds_toArray, List.set_cons_zero, List.set_cons_succ]
        iterate 1 (refine seg_take (v := ?_) rfl (Or.inl ⟨by rfl, ?_⟩) ?_; rotate_left; (focus (intro w' hw'; go_simp <;> with_reducible rfl)); try simp only [Act.put, List.setIfInBounds_toArray, List.set_cons_zero, List.set_cons_succ])
        refine seg_run rfl (fun K hK => ?_)
        rw [if_pos (by rfl)]
        have hLW : W.heap.size ≤ gL := by omega
        refine wp_store_row _ _ _ rfl gL #[.int .u8 0, .int .u8 0, .int .u8 0, .int .u8 0, .int .u8 0, .int .u8 0, .int .u8 0, .int .u8 0, .int .u8 0, .int .u8 0, .int .u8 0, .int .u8 0, .int .u16 Kd, .slice A3 (n - 14) c3] rfl rfl _ _ hL (by kernel_rfl : (Try.prog.info? 27).map (·.size) = some 14) rfl (by simp [Value.oneCell']) ?_
        have HB := below_setRow HB hLW #[.int .u8 0, .int .u8 0, .int .u8 0, .int .u8 0, .int .u8 0, .int .u8 0, .int .u8 0, .int .u8 0, .int .u8 0, .int .u8 0, .int .u8 0, .int .u8 0, .int .u16 Kd, .slice A3 (n - 14) c3]
        refine hK.out _ _ (HB) ?_
        clear hK
        try simp only [Act.put, List.setIfInBounds_toArray, List.set_cons_zero, List.set_cons_succ]
        refine seg_done (fun _ => ?_)
        refine wpAnyH_done (by kernel_rfl) ?_ _
        have hA3 := own_ne hoA hL (by decide)
        have hrow := setRow_heap _ gL _ #[.int .u8 0, .int .u8 0, .int .u8 0, .int .u8 0, .int .u8 0, .int .u8 0, .int .u8 0, .int .u8 0, .int .u8 0, .int .u8 0, .int .u8 0, .int .u8 0, .int .u16 Kd, .slice A3 (n - 14) c3] _ _ hL
        go_wp2_with fail
        go_meet
        exact ⟨gL, A3, n - 14, c3, rfl, hLW, by simp; omega, hrow, rd_row hoA.rd _ _ (fun _ a ha => (hA3 a ha).1), hA3, HB⟩
    · skip
      refine op_run rfl (fun K hK => ?_)
      rw [if_pos (by rfl)]
      refine op_new #[.int .u8 0, .int .u8 0, .int .u8 0, .int .u8 0, .int .u8 0, .int .u8 0, .int .u8 0, .int .u8 0, .int .u8 0, .int .u8 0, .int .u8 0, .int .u8 0, .int .u16 0, .slice none 0 0] 27 (fun w => by go_simp) ?_
      intro gL wL eL hL HBl hLsz
      have hLz : gL < wL.heap.size := by omega
      try have hoB := hoB.below HBl
      try have hoA := hoA.below HBl
      have HB0 := HB.size
      have HB := below_then HB HBl
      refine hK.out _ _ (HB) ?_
      clear hK
      try simp only [Act.put, List.setIfInBounds_toArray, List.set_cons_zero, List.set_cons_succ]
      refine wpAnyH_seg (by kernel_rfl) (fun _ _ d _ _ h => by cases d <;> exact h) 0 #[true, true, true, true, true, true, true, true, true, true, true] [(4, false), (7, false), (8, true), (10, false)] _ _ _ (by kernel_rfl) (HB) ?_
      refine seg_run rfl (fun K hK => ?_)
      rw [if_pos (by rfl)]
      refine op_lit #[] 5 0 rfl (fun w => by go_simp) ?_
      intro gB wB eB hBrow HBb hBsz
      try have hLz := Nat.lt_of_lt_of_le hLz HBb.size
      have HB0 := HB.size
      try have hL := (HBb.block _ (by omega)).trans hL
      have HB := below_then HB HBb
      have hoB := own_at0 hBrow (base := W.heap.size) (by omega)
      refine hK.out _ _ (HB) ?_
      clear hK
      try simp only [Act.put, List.setIfInBounds_toArray, List.set_cons_zero, List.set_cons_succ]
      refine seg_run rfl (fun K hK => ?_)
      rw [if_pos (by rfl)]
      have hA0 : ∀ a, some (⟨gB, 0, none⟩ : Addr) = some a → a.block = gB := fun a h => by cases h; rfl
      refine op_appB _ _ rfl HB (Nat.le_refl _) HB.size _ _ _ _ rfl hoB _ _ _ _ rfl ((hr3.below bW).below HB) (by omega) (n - 14) (xs.drop 14) (by omega) (by simp) ?_
      intro A3 c3 wA hoA HBa hgA
      try have hL := grown_keep hgA hL (fun a h => by rw [hA0 a h]; omega)
      try have hLz := Nat.lt_of_lt_of_le hLz hgA.size
      have HB := HBa
      refine hK.out _ _ (HB) ?_
      clear hK
      try simp only [Act.put, List.setIfInBounds_toArray, List.set_cons_zero, List.set_cons_succ]
      iterate 1 (refine seg_take (v := ?_) rfl (Or.inl ⟨by rfl, ?_⟩) ?_; rotate_left; (focus (intro w' hw'; go_simp <;> with_reducible rfl)); try simp only [Act.put, List.setIfInBounds_toArray, List.set_cons_zero, List.set_cons_succ])
      refine seg_run rfl (fun K hK => ?_)
      rw [if_pos (by rfl)]
      have hLW : W.heap.size ≤ gL := by omega
      refine wp_store_row _ _ _ rfl gL #[.int .u8 0, .int .u8 0, .int .u8 0, .int .u8 0, .int .u8 0, .int .u8 0, .int .u8 0, .int .u8 0, .int .u8 0, .int .u8 0, .int .u8 0, .int .u8 0, .int .u16 Kd, .slice A3 (n - 14) c3] rfl rfl _ _ hL (by kernel_rfl : (Try.prog.info? 27).map (·.size) = some 14) rfl (by simp [Value.oneCell']) ?_
      have HB := below_setRow HB hLW #[.int .u8 0, .int .u8 0, .int .u8 0, .int .u8 0, .int .u8 0, .int .u8 0, .int .u8 0, .int .u8 0, .int .u8 0, .int .u8 0, .int .u8 0, .int .u8 0, .int .u16 Kd, .slice A3 (n - 14) c3]
      refine hK.out _ _ (HB) ?_
      clear hK
      try simp only [Act.put, List.setIfInBounds_toArray, List.set_cons_zero, List.set_cons_succ]
      refine seg_done (fun _ => ?_)
      refine wpAnyH_done (by kernel_rfl) ?_ _
      have hA3 := own_ne hoA hL (by decide)
      have hrow := setRow_heap _ gL _ #[.int .u8 0, .int .u8 0, .int .u8 0, .int .u8 0, .int .u8 0, .int .u8 0, .int .u8 0, .int .u8 0, .int .u8 0, .int .u8 0, .int .u8 0, .int .u8 0, .int .u16 Kd, .slice A3 (n - 14) c3] _ _ hL
      go_wp2_with fail
      go_meet
      exact ⟨gL, A3, n - 14, c3, rfl, hLW, by simp; omega, hrow, rd_row hoA.rd _ _ (fun _ a ha => (hA3 a ha).1), hA3, HB⟩
  case rest =>
    obtain ⟨g, A3, n3, c3, rfl, hgW, hgz, hrow, hr4, hA3, HB⟩ := hcut
    have hgb : ¬ (g = b) := by have := HZ.out; omega
    have hrb := hr.below bW
    have hbW : b < W.heap.size := by have := HZ.out; omega
    clear hr hr2 hr3 k14 hgz
    go_wp2_with fail
    go_loopw [5] (GetI W xs Kd g A3 n3 c3) (fun v _ => 6 - (intOf v).toNat)
    case atStart => exact ⟨0, by omega, rfl, by rw [frRow_zero]; exact hrow, HB, hr4⟩
    case round =>
      obtain ⟨k, hk, rfl, hrow, HB, hr4⟩ := hrel
      have hrc := hrb.below HB
      by_cases hlt : k < 6
      · have e1 := hrc.cellS k (by omega)
        have e2 := hrc.cellS (6 + k) (by omega)
        have hbs := frRow_succ xs k Kd A3 n3 c3 hlt
        have l1 : (k : Int) < (n : Int) := by omega
        have l2 : (6 : Int) + (k : Int) < (n : Int) := by omega
        have l3 : (k : Int) < 6 := by omega
        have g1 : wr.cell? ⟨g, k, none⟩ = some (.int .u8 0) := by rw [cell_of_row _ _ k _ _ _ hrow]; exact frRow_old xs k Kd A3 n3 c3 hlt
        have g2 : wr.cell? ⟨g, 6 + k, none⟩ = some (.int .u8 0) := by rw [cell_of_row _ _ _ _ _ _ hrow]; exact frRow_old6 xs k Kd A3 n3 c3 hlt
        have g3 : wr.frozen? ⟨g, k, none⟩ = false := frozen_of_row _ _ _ _ _ hrow
        have g4 : wr.frozen? ⟨g, 6 + k, none⟩ = false := frozen_of_row _ _ _ _ _ hrow
        have HS := Lib.hid hbs
        have HROW := Lib.hid hrow
        clear hbs hrow
        go_wp2_with fail
        go_roundw
        case rel => exact ⟨k + 1, by omega, by go_num, by rw [row_set2 HROW.out, ← HS.out]; rfl, (HB.setCell hgW _).setCell hgW _, rd_far (rd_far hr4 _ _ (fun _ a ha => (hA3 a ha).1)) _ _ (fun _ a ha => (hA3 a ha).1)⟩
        case measure => simp [intOf] <;> omega
      · obtain rfl : k = 6 := by omega
        obtain ⟨D, hD⟩ : ∃ D, mcAt xs 0 = D := ⟨_, rfl⟩
        obtain ⟨S, hS⟩ : ∃ S, mcAt xs 6 = S := ⟨_, rfl⟩
        rw [frRow_six xs Kd A3 n3 c3 D S hD hS] at hrow
        have HD := Lib.hid hD
        have HSS := Lib.hid hS
        have hg3 : wr.heap[w.heap.size]? = some (.cells #[.int .u8 0, .int .u8 0, .int .u8 0, .int .u8 0, .int .u8 0, .int .u8 0, .int .u8 0, .int .u8 0, .int .u8 0, .int .u8 0, .int .u8 0, .int .u8 0, .int .u16 0, .slice none 0 0] 27 (0, 0)) := by
          rw [HB.block _ (by rw [HZ.out]; omega)]; exact HG.out
        have HROW := Lib.hid hrow
        have HG3 := Lib.hid hg3
        clear hD hS hrow hg3
        go_wp2_with (first
          | (refine wpList_load_row rfl _ _ rfl g rfl _ _ _ _ HROW.out Try.underlying27 rfl (by kernel_rfl : (Try.prog.info? 27).map (·.size) = some 14) ?_)
          | (refine wpList_store_row rfl _ _ _ rfl w.heap.size #[.int .u8 (D.a0.toNat : Int), .int .u8 (D.a1.toNat : Int), .int .u8 (D.a2.toNat : Int), .int .u8 (D.a3.toNat : Int), .int .u8 (D.a4.toNat : Int), .int .u8 (D.a5.toNat : Int), .int .u8 (S.a0.toNat : Int), .int .u8 (S.a1.toNat : Int), .int .u8 (S.a2.toNat : Int), .int .u8 (S.a3.toNat : Int), .int .u8 (S.a4.toNat : Int), .int .u8 (S.a5.toNat : Int), .int .u16 Kd, .slice A3 n3 c3] rfl rfl _ _ HG3.out (by kernel_rfl : (Try.prog.info? 27).map (·.size) = some 14) rfl (by simp [Value.oneCell']) ?_))
        have cs := fun j => cell_setRow_same wr w.heap.size j _ #[.int .u8 (D.a0.toNat : Int), .int .u8 (D.a1.toNat : Int), .int .u8 (D.a2.toNat : Int), .int .u8 (D.a3.toNat : Int), .int .u8 (D.a4.toNat : Int), .int .u8 (D.a5.toNat : Int), .int .u8 (S.a0.toNat : Int), .int .u8 (S.a1.toNat : Int), .int .u8 (S.a2.toNat : Int), .int .u8 (S.a3.toNat : Int), .int .u8 (S.a4.toNat : Int), .int .u8 (S.a5.toNat : Int), .int .u16 Kd, .slice A3 n3 c3] _ _ HG3.out
        exact bodyPost_ret (v := .tuple #[.agg #[.int .u8 (D.a0.toNat : Int), .int .u8 (D.a1.toNat : Int), .int .u8 (D.a2.toNat : Int), .int .u8 (D.a3.toNat : Int), .int .u8 (D.a4.toNat : Int), .int .u8 (D.a5.toNat : Int), .int .u8 (S.a0.toNat : Int), .int .u8 (S.a1.toNat : Int), .int .u8 (S.a2.toNat : Int), .int .u8 (S.a3.toNat : Int), .int .u8 (S.a4.toNat : Int), .int .u8 (S.a5.toNat : Int), .int .u16 Kd, .slice A3 n3 c3], .int .i64 0]) (by simp [results, Try.results21, go_sem, cs]) rfl ⟨_, _, _, by rw [← HD.out, ← HSS.out], rd_row hr4 _ _ (fun _ a ha => by have := (hA3 a ha).2; have := HZ.out; omega), below_setRow (bW.trans (HB.mono bW.size)) (Nat.le_refl _) _⟩

theorem ethGet_any (A : Option Addr) (n c : Nat) (xs : List UInt8) (w : World) (hr : RdB w A n c xs) :
    Calls Try.prog 20 #[.slice A n c] w (RetFr w (ethGet xs) (ethGetE xs)) := by
  have hl := hr.2.1
  by_cases h : 14 ≤ n ∧ n ≤ 180
  · have e1 : ethGet xs = ⟨mcAt xs 0, mcAt xs 6, bev ((xs.drop 12).take 2), xs.drop 14⟩ := by unfold ethGet; rw [hl, if_pos h]
    have e2 : ethGetE xs = 0 := by unfold ethGetE; rw [hl, if_neg (by omega), if_neg (by omega)]
    rw [e1, e2]
    exact ethGet_main A n c xs w hr h.1 h.2
  · have e1 : ethGet xs = frZero := by unfold ethGet; rw [hl, if_neg h]
    rw [e1]
    exact ethGet_short A n c xs w hr (by omega)
theorem refGet18_any (A : Option Addr) (n c : Nat) (xs : List UInt8) (w : World) (hr : RdB w A n c xs) :
    Calls Try.prog 21 #[.slice A n c] w (RetFr w (ethGet xs) (ethGetE xs)) := by
  have hl := hr.2.1
  by_cases h : 14 ≤ n ∧ n ≤ 180
  · have e1 : ethGet xs = ⟨mcAt xs 0, mcAt xs 6, bev ((xs.drop 12).take 2), xs.drop 14⟩ := by unfold ethGet; rw [hl, if_pos h]
    have e2 : ethGetE xs = 0 := by unfold ethGetE; rw [hl, if_neg (by omega), if_neg (by omega)]
    rw [e1, e2]
    exact refGet18_main A n c xs w hr h.1 h.2
  · have e1 : ethGet xs = frZero := by unfold ethGet; rw [hl, if_neg h]
    rw [e1]
    exact refGet18_short A n c xs w hr (by omega)
end Go.Proofs.Ytieilgphcfiapaa
