/-
  Layer 7: rings (the document): Check.
-/
import Derived.Test.YtnfepikgbdeomaaRingL
import Derived.Test.YtnfepikgbdeomaaPlanT
namespace Go.Proofs.Ytnfepikgbdeomaa
set_option maxRecDepth 20000
open Go.RowKit
set_option linter.unusedVariables false
set_option linter.unusedSimpArgs false
set_option maxHeartbeats 4000000

theorem refCheck7_any (A : Option Addr) (n c : Nat) (b k : Int) (w : World) (hn : n ≤ 9223372036854775807) (hb : -9223372036854775808 ≤ b ∧ b ≤ 9223372036854775807) (hk : -9223372036854775808 ≤ k ∧ k ≤ 9223372036854775807) :
    Calls Try.prog 34 #[.agg #[.slice A n c], .int .i64 b, .int .i64 k] w (RetV w (.bool (rgCheck n b k))) := by
  obtain ⟨V, hV⟩ : ∃ V, V = w.alloc (.cells #[.slice A n c] 28) := ⟨_, rfl⟩
  have bV : Below w.heap.size w V := by rw [hV]; exact (below_self w).alloc (Nat.le_refl _) _
  have zV : w.heap.size < V.heap.size := by rw [hV]; simp
  have cV : V.cell? ⟨w.heap.size, 0, none⟩ = some (.slice A n c) := by rw [hV]; exact (alloc_box w _ _ 0).trans rfl
  have HV := Lib.hid hV
  clear hV
  obtain ⟨z0, z1, z2⟩ := rgSize_le k
  by_cases h1 : n ≤ 8192
  · have H1 := Lib.hid (decide_eq_true h1)
    by_cases h2 : rgN k
    · have H2 := Lib.hid (decide_eq_true h2)
      have hz := z2 h2
      have he : memIn n b (rgSize k) = rgCheck n b k := by
        unfold memIn rgCheck
        simp only [← Bool.decide_and]
        exact decide_eq_decide.2 ⟨fun h => ⟨h1, h2, h.1, by omega⟩, fun h => ⟨h.2.2.1, by omega, by omega, by omega⟩⟩
      have HE := Lib.hid he
      have HSz := Lib.hid (show -9223372036854775808 ≤ rgSize k ∧ rgSize k ≤ 9223372036854775807 by omega)
      clear he z2 hz z0 z1
      go_enter Try.func34, Try.ntmps34
      go_wp2_with fail
      rw [← HV.out]
      refine wp_region_seg (S := fun w' => Below V.heap.size V w') 0 #[true, true, true, true, true, true, true, true, true, true, true, true, true, true] [(0, true), (1, false), (2, true), (3, true), (4, false), (5, true), (6, true), (7, true), (8, true), (9, true), (10, false), (11, false), (12, true), (13, true)] (by kernel_rfl) (by kernel_rfl) (fun _ _ d _ _ h => by first | (cases d <;> exact h) | cases h.1) ((Below.refl V.heap.size V).drew) ?_
      have HB := (Below.refl V.heap.size V).drew
      iterate 1 (refine seg_take (v := ?_) rfl (Or.inl ⟨by rfl, ?_⟩) ?_; rotate_left; (focus (intro w' hw'; have ja := (hw'.cell (p := ⟨w.heap.size, 0, none⟩) zV).trans cV; go_simp <;> with_reducible rfl)); try simp only [Act.put, List.setIfInBounds_toArray, List.set_cons_zero, List.set_cons_succ])
      refine seg_run rfl (fun K hK => ?_)
      go_simp
      refine (refMemCheck_any A n c _ hn).mono ?_
      rintro e_ w2 ⟨rfl, hb2⟩
      rw [H1.out]
      have HB := below_then HB hb2
      refine hK.out _ _ (HB) ?_
      clear hK
      try simp only [Act.put, List.setIfInBounds_toArray, List.set_cons_zero, List.set_cons_succ]
      iterate 1 (refine seg_take (v := ?_) rfl (Or.inl ⟨by rfl, ?_⟩) ?_; rotate_left; (focus (intro w' hw'; have ja := (hw'.cell (p := ⟨w.heap.size, 0, none⟩) zV).trans cV; go_simp <;> with_reducible rfl)); try simp only [Act.put, List.setIfInBounds_toArray, List.set_cons_zero, List.set_cons_succ])
      iterate 1 ((first | refine seg_take (v := undef) rfl (Or.inr ⟨by rfl, rfl⟩) ?_ | (refine seg_take (v := ?_) rfl (Or.inl ⟨by rfl, ?_⟩) ?_; rotate_left; (focus (intro w' hw'; have ja := (hw'.cell (p := ⟨w.heap.size, 0, none⟩) zV).trans cV; go_simp <;> with_reducible rfl)))); try simp only [Act.put, List.setIfInBounds_toArray, List.set_cons_zero, List.set_cons_succ])
      refine seg_run rfl (fun K hK => ?_)
      go_simp
      refine (refRight7_any k _).mono ?_
      rintro e_ w3 ⟨rfl, rfl⟩
      rw [H2.out]
      refine hK.out _ _ (HB) ?_
      clear hK
      try simp only [Act.put, List.setIfInBounds_toArray, List.set_cons_zero, List.set_cons_succ]
      iterate 2 (refine seg_take (v := ?_) rfl (Or.inl ⟨by rfl, ?_⟩) ?_; rotate_left; (focus (intro w' hw'; have ja := (hw'.cell (p := ⟨w.heap.size, 0, none⟩) zV).trans cV; go_simp <;> with_reducible rfl)); try simp only [Act.put, List.setIfInBounds_toArray, List.set_cons_zero, List.set_cons_succ])
      iterate 3 ((first | refine seg_take (v := undef) rfl (Or.inr ⟨by rfl, rfl⟩) ?_ | (refine seg_take (v := ?_) rfl (Or.inl ⟨by rfl, ?_⟩) ?_; rotate_left; (focus (intro w' hw'; have ja := (hw'.cell (p := ⟨w.heap.size, 0, none⟩) zV).trans cV; go_simp <;> with_reducible rfl)))); try simp only [Act.put, List.setIfInBounds_toArray, List.set_cons_zero, List.set_cons_succ])
      refine seg_run rfl (fun K hK => ?_)
      go_simp
      refine (refSize7_any k _).mono ?_
      rintro e_ w3 ⟨rfl, rfl⟩
      refine hK.out _ _ (HB) ?_
      clear hK
      try simp only [Act.put, List.setIfInBounds_toArray, List.set_cons_zero, List.set_cons_succ]
      refine seg_run rfl (fun K hK => ?_)
      go_simp
      refine (refInside_any A n c b (rgSize k) _ hn hb HSz.out).mono ?_
      rintro e_ w4 ⟨rfl, hb4⟩
      rw [HE.out]
      have HB := below_then HB hb4
      refine hK.out _ _ (HB) ?_
      clear hK
      try simp only [Act.put, List.setIfInBounds_toArray, List.set_cons_zero, List.set_cons_succ]
      iterate 2 (refine seg_take (v := ?_) rfl (Or.inl ⟨by rfl, ?_⟩) ?_; rotate_left; (focus (intro w' hw'; have ja := (hw'.cell (p := ⟨w.heap.size, 0, none⟩) zV).trans cV; go_simp <;> with_reducible rfl)); try simp only [Act.put, List.setIfInBounds_toArray, List.set_cons_zero, List.set_cons_succ])
      refine seg_done (fun _ => ?_)
      refine wpAnyH_done (by kernel_rfl) ?_ _
      go_wp2_with fail
      go_ret
      exact ⟨rfl, bV.trans (HB.mono bV.size)⟩
    · have H2 := Lib.hid (decide_eq_false h2)
      have er : rgCheck n b k = false := decide_eq_false (fun h => h2 h.2.1)
      rw [er]
      clear z2 z0 z1 er
      go_enter Try.func34, Try.ntmps34
      go_wp2_with fail
      rw [← HV.out]
      refine wp_region_seg (S := fun w' => Below V.heap.size V w') 0 #[true, true, true, true, true, true, true, true, true, true, true, true, true, true] [(0, true), (1, false), (2, true), (3, true), (4, false), (5, true), (6, true), (7, true), (8, true), (9, true), (10, false), (11, false), (12, true), (13, true)] (by kernel_rfl) (by kernel_rfl) (fun _ _ d _ _ h => by first | (cases d <;> exact h) | cases h.1) ((Below.refl V.heap.size V).drew) ?_
      have HB := (Below.refl V.heap.size V).drew
      iterate 1 (refine seg_take (v := ?_) rfl (Or.inl ⟨by rfl, ?_⟩) ?_; rotate_left; (focus (intro w' hw'; have ja := (hw'.cell (p := ⟨w.heap.size, 0, none⟩) zV).trans cV; go_simp <;> with_reducible rfl)); try simp only [Act.put, List.setIfInBounds_toArray, List.set_cons_zero, List.set_cons_succ])
      refine seg_run rfl (fun K hK => ?_)
      go_simp
      refine (refMemCheck_any A n c _ hn).mono ?_
      rintro e_ w2 ⟨rfl, hb2⟩
      rw [H1.out]
      have HB := below_then HB hb2
      refine hK.out _ _ (HB) ?_
      clear hK
      try simp only [Act.put, List.setIfInBounds_toArray, List.set_cons_zero, List.set_cons_succ]
      iterate 1 (refine seg_take (v := ?_) rfl (Or.inl ⟨by rfl, ?_⟩) ?_; rotate_left; (focus (intro w' hw'; have ja := (hw'.cell (p := ⟨w.heap.size, 0, none⟩) zV).trans cV; go_simp <;> with_reducible rfl)); try simp only [Act.put, List.setIfInBounds_toArray, List.set_cons_zero, List.set_cons_succ])
      iterate 1 ((first | refine seg_take (v := undef) rfl (Or.inr ⟨by rfl, rfl⟩) ?_ | (refine seg_take (v := ?_) rfl (Or.inl ⟨by rfl, ?_⟩) ?_; rotate_left; (focus (intro w' hw'; have ja := (hw'.cell (p := ⟨w.heap.size, 0, none⟩) zV).trans cV; go_simp <;> with_reducible rfl)))); try simp only [Act.put, List.setIfInBounds_toArray, List.set_cons_zero, List.set_cons_succ])
      refine seg_run rfl (fun K hK => ?_)
      go_simp
      refine (refRight7_any k _).mono ?_
      rintro e_ w3 ⟨rfl, rfl⟩
      rw [H2.out]
      refine hK.out _ _ (HB) ?_
      clear hK
      try simp only [Act.put, List.setIfInBounds_toArray, List.set_cons_zero, List.set_cons_succ]
      iterate 2 (refine seg_take (v := ?_) rfl (Or.inl ⟨by rfl, ?_⟩) ?_; rotate_left; (focus (intro w' hw'; have ja := (hw'.cell (p := ⟨w.heap.size, 0, none⟩) zV).trans cV; go_simp <;> with_reducible rfl)); try simp only [Act.put, List.setIfInBounds_toArray, List.set_cons_zero, List.set_cons_succ])
      iterate 3 ((first | refine seg_take (v := undef) rfl (Or.inr ⟨by rfl, rfl⟩) ?_ | (refine seg_take (v := ?_) rfl (Or.inl ⟨by rfl, ?_⟩) ?_; rotate_left; (focus (intro w' hw'; have ja := (hw'.cell (p := ⟨w.heap.size, 0, none⟩) zV).trans cV; go_simp <;> with_reducible rfl)))); try simp only [Act.put, List.setIfInBounds_toArray, List.set_cons_zero, List.set_cons_succ])
      refine seg_run rfl (fun K hK => ?_)
      go_simp
      refine hK.out _ _ (HB) ?_
      clear hK
      try simp only [Act.put, List.setIfInBounds_toArray, List.set_cons_zero, List.set_cons_succ]
      refine seg_run rfl (fun K hK => ?_)
      go_simp
      refine hK.out _ _ (HB) ?_
      clear hK
      try simp only [Act.put, List.setIfInBounds_toArray, List.set_cons_zero, List.set_cons_succ]
      iterate 2 (refine seg_take (v := ?_) rfl (Or.inl ⟨by rfl, ?_⟩) ?_; rotate_left; (focus (intro w' hw'; have ja := (hw'.cell (p := ⟨w.heap.size, 0, none⟩) zV).trans cV; go_simp <;> with_reducible rfl)); try simp only [Act.put, List.setIfInBounds_toArray, List.set_cons_zero, List.set_cons_succ])
      refine seg_done (fun _ => ?_)
      refine wpAnyH_done (by kernel_rfl) ?_ _
      go_wp2_with fail
      go_ret
      exact ⟨rfl, bV.trans (HB.mono bV.size)⟩
  · have H1 := Lib.hid (decide_eq_false h1)
    have er : rgCheck n b k = false := decide_eq_false (fun h => h1 h.1)
    rw [er]
    clear z2 z0 z1 er
    go_enter Try.func34, Try.ntmps34
    go_wp2_with fail
    rw [← HV.out]
    refine wp_region_seg (S := fun w' => Below V.heap.size V w') 0 #[true, true, true, true, true, true, true, true, true, true, true, true, true, true] [(0, true), (1, false), (2, true), (3, true), (4, false), (5, true), (6, true), (7, true), (8, true), (9, true), (10, false), (11, false), (12, true), (13, true)] (by kernel_rfl) (by kernel_rfl) (fun _ _ d _ _ h => by first | (cases d <;> exact h) | cases h.1) ((Below.refl V.heap.size V).drew) ?_
    have HB := (Below.refl V.heap.size V).drew
    iterate 1 (refine seg_take (v := ?_) rfl (Or.inl ⟨by rfl, ?_⟩) ?_; rotate_left; (focus (intro w' hw'; have ja := (hw'.cell (p := ⟨w.heap.size, 0, none⟩) zV).trans cV; go_simp <;> with_reducible rfl)); try simp only [Act.put, List.setIfInBounds_toArray, List.set_cons_zero, List.set_cons_succ])
    refine seg_run rfl (fun K hK => ?_)
    go_simp
    refine (refMemCheck_any A n c _ hn).mono ?_
    rintro e_ w2 ⟨rfl, hb2⟩
    rw [H1.out]
    have HB := below_then HB hb2
    refine hK.out _ _ (HB) ?_
    clear hK
    try simp only [Act.put, List.setIfInBounds_toArray, List.set_cons_zero, List.set_cons_succ]
    iterate 1 (refine seg_take (v := ?_) rfl (Or.inl ⟨by rfl, ?_⟩) ?_; rotate_left; (focus (intro w' hw'; have ja := (hw'.cell (p := ⟨w.heap.size, 0, none⟩) zV).trans cV; go_simp <;> with_reducible rfl)); try simp only [Act.put, List.setIfInBounds_toArray, List.set_cons_zero, List.set_cons_succ])
    iterate 1 ((first | refine seg_take (v := undef) rfl (Or.inr ⟨by rfl, rfl⟩) ?_ | (refine seg_take (v := ?_) rfl (Or.inl ⟨by rfl, ?_⟩) ?_; rotate_left; (focus (intro w' hw'; have ja := (hw'.cell (p := ⟨w.heap.size, 0, none⟩) zV).trans cV; go_simp <;> with_reducible rfl)))); try simp only [Act.put, List.setIfInBounds_toArray, List.set_cons_zero, List.set_cons_succ])
    refine seg_run rfl (fun K hK => ?_)
    go_simp
    refine hK.out _ _ (HB) ?_
    clear hK
    try simp only [Act.put, List.setIfInBounds_toArray, List.set_cons_zero, List.set_cons_succ]
    iterate 2 (refine seg_take (v := ?_) rfl (Or.inl ⟨by rfl, ?_⟩) ?_; rotate_left; (focus (intro w' hw'; have ja := (hw'.cell (p := ⟨w.heap.size, 0, none⟩) zV).trans cV; go_simp <;> with_reducible rfl)); try simp only [Act.put, List.setIfInBounds_toArray, List.set_cons_zero, List.set_cons_succ])
    iterate 3 ((first | refine seg_take (v := undef) rfl (Or.inr ⟨by rfl, rfl⟩) ?_ | (refine seg_take (v := ?_) rfl (Or.inl ⟨by rfl, ?_⟩) ?_; rotate_left; (focus (intro w' hw'; have ja := (hw'.cell (p := ⟨w.heap.size, 0, none⟩) zV).trans cV; go_simp <;> with_reducible rfl)))); try simp only [Act.put, List.setIfInBounds_toArray, List.set_cons_zero, List.set_cons_succ])
    refine seg_run rfl (fun K hK => ?_)
    go_simp
    refine hK.out _ _ (HB) ?_
    clear hK
    try simp only [Act.put, List.setIfInBounds_toArray, List.set_cons_zero, List.set_cons_succ]
    refine seg_run rfl (fun K hK => ?_)
    go_simp
    refine hK.out _ _ (HB) ?_
    clear hK
    try simp only [Act.put, List.setIfInBounds_toArray, List.set_cons_zero, List.set_cons_succ]
    iterate 2 (refine seg_take (v := ?_) rfl (Or.inl ⟨by rfl, ?_⟩) ?_; rotate_left; (focus (intro w' hw'; have ja := (hw'.cell (p := ⟨w.heap.size, 0, none⟩) zV).trans cV; go_simp <;> with_reducible rfl)); try simp only [Act.put, List.setIfInBounds_toArray, List.set_cons_zero, List.set_cons_succ])
    refine seg_done (fun _ => ?_)
    refine wpAnyH_done (by kernel_rfl) ?_ _
    go_wp2_with fail
    go_ret
    exact ⟨rfl, bV.trans (HB.mono bV.size)⟩
end Go.Proofs.Ytnfepikgbdeomaa
