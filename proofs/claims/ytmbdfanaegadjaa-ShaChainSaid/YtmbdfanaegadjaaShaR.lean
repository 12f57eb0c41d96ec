/-
  Layer 3: the law ShaSums.
-/
import Derived.Test.YtmbdfanaegadjaaShaL
import Derived.Test.YtmbdfanaegadjaaShaO
namespace Go.Proofs.Ytmbdfanaegadjaa
set_option maxRecDepth 20000
open Go.RowKit
set_option linter.unusedVariables false
set_option linter.unusedSimpArgs false
set_option maxHeartbeats 8000000

theorem loadDg {w : World} {g : Nat} {D : List UInt8} (h : w.heap[g]? = some (.cells (dgA D) 24 (0, 0))) (hl : D.length = 32) : (loadVar 24 ⟨g, 0, none⟩).run Try.prog w = .ok (.agg (dgA D)) w :=
  run_loadVar_row w g _ _ _ _ _ h Try.underlying24 rfl (infoD D hl)
theorem dig_self (O : List UInt8) (h : O.length = 32) (W : World) : (Op.equalIn 10000 24 (.agg (dgA O)) (.agg (dgA O))).run Try.prog W = .ok true W := by
  have := run_eqIn_digest 9996 W O O h h
  rw [decide_eq_true rfl] at this
  exact this
set_option maxRecDepth 100000 in
theorem shaSums_main (A : Option Addr) (n c : Nat) (xs : List UInt8) (D : List UInt8) (w : World) (hr : RdB w A n c xs) (hD : D.length = 32) (hn : n ≤ 400) : Calls Try.prog 8 #[.slice A n c, .agg (dgA D)] w (RetV w (.bool true)) := by
  have d1 : decide ((400 : Int) < (n : Int)) = false := decide_eq_false (by omega)
  obtain ⟨O, hO⟩ : ∃ O, shOf xs = O := ⟨shOf xs, rfl⟩
  obtain ⟨L, hL⟩ : ∃ O, shLink D xs = O := ⟨shLink D xs, rfl⟩
  have hOl : O.length = 32 := by rw [← hO]; exact shOf_len _
  have hLl : L.length = 32 := by rw [← hL]; exact shLink_len _ _
  have HQO := Lib.hid (fun W => dig_self O hOl W)
  have HQL := Lib.hid (fun W => dig_self L hLl W)
  have HO := Lib.hid hO
  have HL := Lib.hid hL
  have HDl := Lib.hid hD
  obtain ⟨V, hV⟩ : ∃ V, V = w.alloc (.cells (dgA D) 24) := ⟨_, rfl⟩
  have bV : Below w.heap.size w V := by rw [hV]; exact (below_self w).alloc (Nat.le_refl _) _
  have zV : w.heap.size < V.heap.size := by rw [hV]; simp
  have RD := Lib.hid (show V.heap[w.heap.size]? = some (.cells (dgA D) 24 (0, 0)) by rw [hV]; exact heap_alloc_new w _)
  have HV := Lib.hid hV
  have hrV := hr.below bV
  have hsz : (dgA D).size = 32 := by rw [dgA_size, hD]
  clear hO hL hV hD
  go_enter Try.func8, Try.ntmps8
  go_wp2_with fail
  rw [← HV.out]
  refine wp_region_seg (S := fun w' => Below V.heap.size V w') 0 #[true, true, true, true, true, true, true, true, true, true, true, true, true, true, true, true, true, true] [(0, true), (2, true), (1, false), (3, false), (4, true), (5, true), (6, true), (7, true), (9, true), (10, true), (8, false), (11, false), (12, true), (13, true), (14, true), (15, false), (16, true), (17, true)] (by kernel_rfl) (by kernel_rfl) (fun _ _ d _ _ h => by first | (cases d <;> exact h) | cases h.1) ((Below.refl V.heap.size V).drew) ?_
  have HB := (Below.refl V.heap.size V).drew
  iterate 2 (refine seg_take (v := ?_) rfl (Or.inl ⟨by rfl, ?_⟩) ?_; rotate_left; (focus (intro w' hw'; go_simp <;> with_reducible rfl)); try simp only [Act.put, List.setIfInBounds_toArray, List.set_cons_zero, List.set_cons_succ])
  refine seg_run rfl (fun K hK => ?_)
  go_simp
  refine (shaOf_any A n c xs _ (hrV.below HB) (by omega)).mono ?_
  rintro e_ w2 ⟨rfl, hb2⟩
  rw [HO.out]
  have HB := below_then HB hb2
  refine hK.out _ _ (HB) ?_
  clear hK
  try simp only [Act.put, List.setIfInBounds_toArray, List.set_cons_zero, List.set_cons_succ]
  refine seg_run rfl (fun K hK => ?_)
  go_simp
  refine (refShaOf_any A n c xs _ (hrV.below HB) (by omega)).mono ?_
  rintro e_ w3 ⟨rfl, hb3⟩
  rw [HO.out]
  have HB := below_then HB hb3
  refine hK.out _ _ (HB) ?_
  clear hK
  try simp only [Act.put, List.setIfInBounds_toArray, List.set_cons_zero, List.set_cons_succ]
  refine seg_take (v := .bool true) rfl (Or.inl ⟨by rfl, fun w' hw' => ?_⟩) ?_
  focus ((have jj := HQO.out w'; go_simp))
  try simp only [Act.put, List.setIfInBounds_toArray, List.set_cons_zero, List.set_cons_succ]
  iterate 1 (refine seg_take (v := ?_) rfl (Or.inl ⟨by rfl, ?_⟩) ?_; rotate_left; (focus (intro w' hw'; go_simp <;> with_reducible rfl)); try simp only [Act.put, List.setIfInBounds_toArray, List.set_cons_zero, List.set_cons_succ])
  refine seg_take (v := .agg (dgA D)) rfl (Or.inl ⟨by rfl, fun w' hw' => ?_⟩) ?_
  focus (exact ex_loadP rfl rfl (loadDg ((hw'.block _ zV).trans RD.out) HDl.out))
  try simp only [Act.put, List.setIfInBounds_toArray, List.set_cons_zero, List.set_cons_succ]
  iterate 1 ((first | refine seg_take (v := undef) rfl (Or.inr ⟨by rfl, rfl⟩) ?_ | (refine seg_take (v := ?_) rfl (Or.inl ⟨by rfl, ?_⟩) ?_; rotate_left; (focus (intro w' hw'; go_simp <;> with_reducible rfl)))); try simp only [Act.put, List.setIfInBounds_toArray, List.set_cons_zero, List.set_cons_succ])
  refine seg_take (v := .agg (dgA D)) rfl (Or.inl ⟨by rfl, fun w' hw' => ?_⟩) ?_
  focus (exact ex_loadP rfl rfl (loadDg ((hw'.block _ zV).trans RD.out) HDl.out))
  try simp only [Act.put, List.setIfInBounds_toArray, List.set_cons_zero, List.set_cons_succ]
  iterate 1 ((first | refine seg_take (v := undef) rfl (Or.inr ⟨by rfl, rfl⟩) ?_ | (refine seg_take (v := ?_) rfl (Or.inl ⟨by rfl, ?_⟩) ?_; rotate_left; (focus (intro w' hw'; go_simp <;> with_reducible rfl)))); try simp only [Act.put, List.setIfInBounds_toArray, List.set_cons_zero, List.set_cons_succ])
  refine seg_run rfl (fun K hK => ?_)
  go_simp
  refine (shaLink_any D HDl.out A n c xs _ (hrV.below HB) (by omega)).mono ?_
  rintro e_ w4 ⟨rfl, hb4⟩
  rw [HL.out]
  have HB := below_then HB hb4
  refine hK.out _ _ (HB) ?_
  clear hK
  try simp only [Act.put, List.setIfInBounds_toArray, List.set_cons_zero, List.set_cons_succ]
  refine seg_run rfl (fun K hK => ?_)
  go_simp
  refine (refLink_any D HDl.out A n c xs _ (hrV.below HB) (by omega)).mono ?_
  rintro e_ w5 ⟨rfl, hb5⟩
  rw [HL.out]
  have HB := below_then HB hb5
  refine hK.out _ _ (HB) ?_
  clear hK
  try simp only [Act.put, List.setIfInBounds_toArray, List.set_cons_zero, List.set_cons_succ]
  refine seg_take (v := .bool true) rfl (Or.inl ⟨by rfl, fun w' hw' => ?_⟩) ?_
  focus ((have jj := HQL.out w'; go_simp))
  try simp only [Act.put, List.setIfInBounds_toArray, List.set_cons_zero, List.set_cons_succ]
  iterate 2 (refine seg_take (v := ?_) rfl (Or.inl ⟨by rfl, ?_⟩) ?_; rotate_left; (focus (intro w' hw'; go_simp <;> with_reducible rfl)); try simp only [Act.put, List.setIfInBounds_toArray, List.set_cons_zero, List.set_cons_succ])
  refine seg_run rfl (fun K hK => ?_)
  go_simp
  refine (heads03 _).mono ?_
  rintro e_ w6 ⟨rfl, hb6⟩
  have HB := below_then HB hb6
  refine hK.out _ _ (HB) ?_
  clear hK
  try simp only [Act.put, List.setIfInBounds_toArray, List.set_cons_zero, List.set_cons_succ]
  iterate 2 (refine seg_take (v := ?_) rfl (Or.inl ⟨by rfl, ?_⟩) ?_; rotate_left; (focus (intro w' hw'; go_simp <;> with_reducible rfl)); try simp only [Act.put, List.setIfInBounds_toArray, List.set_cons_zero, List.set_cons_succ])
  refine seg_done (fun _ => ?_)
  refine wpAnyH_done (by kernel_rfl) ?_ _
  go_wp2_with fail
  go_ret
  exact ⟨rfl, bV.trans (HB.mono bV.size)⟩
theorem shaSums_law (A : Option Addr) (n c : Nat) (xs : List UInt8) (D : List UInt8) (w : World) (hr : RdB w A n c xs) (hD : D.length = 32) : Calls Try.prog 8 #[.slice A n c, .agg (D.map vB).toArray] w (RetV w (.bool true)) := by
  by_cases h : n ≤ 400
  · exact shaSums_main A n c xs D w hr hD h
  · have d1 : decide ((400 : Int) < (n : Int)) = true := decide_eq_true (by omega)
    have hsz : (D.map vB).toArray.size = 32 := by simp [hD]
    go_enter Try.func8, Try.ntmps8
    go_wp2_with (go_at_call 28; refine (heads03 _).mono ?_; rintro e w1 ⟨rfl, hb1⟩)
    go_ret
    exact ⟨rfl, below_then ((below_self w).alloc (Nat.le_refl _) _) hb1⟩
end Go.Proofs.Ytmbdfanaegadjaa
