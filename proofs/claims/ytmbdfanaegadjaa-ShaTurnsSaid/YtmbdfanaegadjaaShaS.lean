/-
  Layer 3: the law ShaTurns.
-/
import Derived.Test.YtmbdfanaegadjaaShaL
import Derived.Test.YtmbdfanaegadjaaShaO
import Derived.Test.YtmbdfanaegadjaaOpenH
namespace Go.Proofs.Ytmbdfanaegadjaa
set_option maxRecDepth 20000
open Go.RowKit
set_option linter.unusedVariables false
set_option linter.unusedSimpArgs false
set_option maxHeartbeats 8000000

/-- What Pad answers. -/
def shPadI (n : Int) : List UInt8 := if n < 0 then [] else shPad n.toNat
theorem shaPad_int (n : Int) (w : World) (h : n ≤ 1000000) : Calls Try.prog 33 #[.int .i64 n] w (RetB w (shPadI n)) := by
  unfold shPadI
  by_cases h0 : n < 0
  · rw [if_pos h0]; exact shaPad_neg n w h0
  · rw [if_neg h0]
    obtain ⟨k, rfl⟩ : ∃ k : Nat, n = (k : Int) := ⟨n.toNat, by omega⟩
    exact shaPad_any k w (by omega)
theorem refPad_int (n : Int) (w : World) (h : n ≤ 1000000) : Calls Try.prog 34 #[.int .i64 n] w (RetB w (shPadI n)) := by
  unfold shPadI
  by_cases h0 : n < 0
  · rw [if_pos h0]; exact refPad_neg n w h0
  · rw [if_neg h0]
    obtain ⟨k, rfl⟩ : ∃ k : Nat, n = (k : Int) := ⟨n.toNat, by omega⟩
    exact refPad_any k w (by omega)
set_option maxRecDepth 100000 in
theorem shaTurns_main (x : H8) (A : Option Addr) (n c : Nat) (xs : List UInt8) (k : Int) (w : World) (hx : x.ok) (hr : RdB w A n c xs) (hk : -9223372036854775808 ≤ k ∧ k ≤ 9223372036854775807) (hn : n ≤ 200) (hk2 : k ≤ 2000) :
    Calls Try.prog 7 #[.agg (wsV x.l), .slice A n c, .int .i64 k] w (RetV w (.bool true)) := by
  have d1 : decide ((200 : Int) < (n : Int)) = false := decide_eq_false (by omega)
  have d2 : decide ((2000 : Int) < k) = false := decide_eq_false (by omega)
  obtain ⟨ws, hws⟩ : ∃ ws, shWords xs = ws := ⟨shWords xs, rfl⟩
  obtain ⟨y, hy⟩ : ∃ y, shTurn x xs = y := ⟨shTurn x xs, rfl⟩
  obtain ⟨bs, hbs⟩ : ∃ bs, bs = (xs ++ List.replicate 64 0).take 64 := ⟨_, rfl⟩
  obtain ⟨z, hz⟩ : ∃ z, shTurn x bs = z := ⟨shTurn x bs, rfl⟩
  obtain ⟨pd, hpd⟩ : ∃ p, shPadI k = p := ⟨shPadI k, rfl⟩
  have hyo : y.ok := by rw [← hy]; exact shTurn_ok hx xs
  have hzo : z.ok := by rw [← hz]; exact shTurn_ok hx bs
  have hwl : ws.length = 64 := by rw [← hws]; exact shWords_len xs
  have hwt : ∀ n ∈ ws, n < 4294967296 := by rw [← hws]; exact shWords_lt xs
  have HQ1 := Lib.hid (fun W => w64_self ws hwl hwt W)
  have HQ2 := Lib.hid (fun W => w8_self y.l rfl (H8.all_lt hyo) W)
  have HQ3 := Lib.hid (fun W => w8_self z.l rfl (H8.all_lt hzo) W)
  have HWS := Lib.hid hws
  have HY := Lib.hid hy
  have HZ := Lib.hid hz
  have HP := Lib.hid hpd
  have HBS := Lib.hid hbs
  have HX := Lib.hid hx
  obtain ⟨V, hV⟩ : ∃ V, V = w.alloc (.cells (wsV x.l) 49) := ⟨_, rfl⟩
  have bV : Below w.heap.size w V := by rw [hV]; exact (below_self w).alloc (Nat.le_refl _) _
  have zV : w.heap.size < V.heap.size := by rw [hV]; simp
  have RX := Lib.hid (show V.heap[w.heap.size]? = some (.cells (wsV x.l) 49 (0, 0)) by rw [hV]; exact heap_alloc_new w _)
  have hrV := hr.below bV
  have HR := Lib.hid hr
  have hrw := (hr.below ((below_self w).alloc (Nat.le_refl _) (.cells (wsV x.l) 49))).alloc (.cells #[] 5)
  have HRW := Lib.hid hrw
  have HV := Lib.hid hV
  have hxsz : (wsV x.l).size = 8 := by rw [wsV_size]; rfl
  clear hws hy hz hpd hbs hwl hwt hyo hzo hx hV hrw
  go_enter Try.func7, Try.ntmps7
  go_wp2_with (first
    | (at_builtin; refine wp_appZ rfl _ _ rfl hb3 (Nat.le_refl _) hb3.size A3 n c3 xs rfl ho3 64 .i64 _ rfl rfl (by omega) (n + 64) (xs ++ List.replicate 64 0) rfl rfl ?_; intro A4 c4 w4 ho4 hb4 hg4; have k64 : (64 : Int) ≤ (c4 : Int) := (by have := ho4.rd.2.2.1; omega))
    | (at_builtin; refine wp_appB rfl _ _ rfl ((below_self _).alloc (Nat.le_refl _) _) (Nat.le_refl _) (by simp) _ _ _ _ rfl (own0' (k := w.heap.size + 1) (by simp)) A n c xs rfl HRW.out (by omega) n xs (by omega) (by simp) ?_; intro A3 c3 w3 ho3 hb3 hg3))
  have rd4 := ho4.rd.take 64 (by omega)
  rw [← HBS.out] at rd4
  have B4 : Below V.heap.size V w4 := by rw [HV.out]; exact hb4
  go_wp2_with fail
  refine wp_region_seg (S := fun w' => Below w4.heap.size w4 w') 0 #[true, true, true, true, true, true, true, true, true, true, true, true, true, true, true, true, true, true, true, true, true, true, true, true, true, true, true, true, true, true, true, true, true, true] [(0, true), (2, true), (1, false), (3, false), (4, true), (5, true), (6, true), (7, true), (9, true), (10, true), (8, false), (11, false), (12, true), (13, true), (14, true), (15, true), (16, true), (18, true), (19, true), (17, false), (20, false), (21, true), (22, true), (23, true), (24, true), (26, true), (25, false), (27, false), (28, false), (29, true), (30, true), (31, false), (32, true), (33, true)] (by kernel_rfl) (by kernel_rfl) (fun _ _ d _ _ h => by cases d <;> exact h) ((Below.refl w4.heap.size w4).drew) ?_
  have HB := (Below.refl w4.heap.size w4).drew
  iterate 2 (refine seg_take (v := ?_) rfl (Or.inl ⟨by rfl, ?_⟩) ?_; rotate_left; (focus (intro w' hw'; go_simp <;> with_reducible rfl)); try simp only [Act.put, List.setIfInBounds_toArray, List.set_cons_zero, List.set_cons_succ])
  refine seg_run rfl (fun K hK => ?_)
  go_simp
  refine (shaWords_any A n c xs _ ((hrV.below B4).below HB)).mono ?_
  rintro e_ u1 ⟨rfl, hc1⟩
  rw [HWS.out]
  have HB := below_then HB hc1
  refine hK.out _ _ (HB) ?_
  clear hK
  try simp only [Act.put, List.setIfInBounds_toArray, List.set_cons_zero, List.set_cons_succ]
  refine seg_run rfl (fun K hK => ?_)
  go_simp
  refine (refWords_any A n c xs _ ((hrV.below B4).below HB)).mono ?_
  rintro e_ u2 ⟨rfl, hc2⟩
  rw [HWS.out]
  have HB := below_then HB hc2
  refine hK.out _ _ (HB) ?_
  clear hK
  try simp only [Act.put, List.setIfInBounds_toArray, List.set_cons_zero, List.set_cons_succ]
  refine seg_take (v := .bool true) rfl (Or.inl ⟨by rfl, fun w' hw' => ?_⟩) ?_
  focus ((have jj := HQ1.out w'; go_simp))
  try simp only [Act.put, List.setIfInBounds_toArray, List.set_cons_zero, List.set_cons_succ]
  iterate 1 (refine seg_take (v := ?_) rfl (Or.inl ⟨by rfl, ?_⟩) ?_; rotate_left; (focus (intro w' hw'; go_simp <;> with_reducible rfl)); try simp only [Act.put, List.setIfInBounds_toArray, List.set_cons_zero, List.set_cons_succ])
  refine seg_take (v := .agg (wsV x.l)) rfl (Or.inl ⟨by rfl, fun w' hw' => ?_⟩) ?_
  focus (exact ex_loadP rfl rfl (load8 ((hw'.block _ (by have := B4.size; omega)).trans ((B4.block _ zV).trans RX.out)) rfl))
  try simp only [Act.put, List.setIfInBounds_toArray, List.set_cons_zero, List.set_cons_succ]
  iterate 1 ((first | refine seg_take (v := undef) rfl (Or.inr ⟨by rfl, rfl⟩) ?_ | (refine seg_take (v := ?_) rfl (Or.inl ⟨by rfl, ?_⟩) ?_; rotate_left; (focus (intro w' hw'; go_simp <;> with_reducible rfl)))); try simp only [Act.put, List.setIfInBounds_toArray, List.set_cons_zero, List.set_cons_succ])
  refine seg_take (v := .agg (wsV x.l)) rfl (Or.inl ⟨by rfl, fun w' hw' => ?_⟩) ?_
  focus (exact ex_loadP rfl rfl (load8 ((hw'.block _ (by have := B4.size; omega)).trans ((B4.block _ zV).trans RX.out)) rfl))
  try simp only [Act.put, List.setIfInBounds_toArray, List.set_cons_zero, List.set_cons_succ]
  iterate 1 ((first | refine seg_take (v := undef) rfl (Or.inr ⟨by rfl, rfl⟩) ?_ | (refine seg_take (v := ?_) rfl (Or.inl ⟨by rfl, ?_⟩) ?_; rotate_left; (focus (intro w' hw'; go_simp <;> with_reducible rfl)))); try simp only [Act.put, List.setIfInBounds_toArray, List.set_cons_zero, List.set_cons_succ])
  refine seg_run rfl (fun K hK => ?_)
  go_simp
  refine (shaTurn_any x A n c xs _ HX.out ((hrV.below B4).below HB)).mono ?_
  rintro e_ u3 ⟨rfl, hc3⟩
  rw [HY.out]
  have HB := below_then HB hc3
  refine hK.out _ _ (HB) ?_
  clear hK
  try simp only [Act.put, List.setIfInBounds_toArray, List.set_cons_zero, List.set_cons_succ]
  refine seg_run rfl (fun K hK => ?_)
  go_simp
  refine (refTurn_any x A n c xs _ HX.out ((hrV.below B4).below HB)).mono ?_
  rintro e_ u4 ⟨rfl, hc4⟩
  rw [HY.out]
  have HB := below_then HB hc4
  refine hK.out _ _ (HB) ?_
  clear hK
  try simp only [Act.put, List.setIfInBounds_toArray, List.set_cons_zero, List.set_cons_succ]
  refine seg_take (v := .bool true) rfl (Or.inl ⟨by rfl, fun w' hw' => ?_⟩) ?_
  focus ((have jj := HQ2.out w'; go_simp))
  try simp only [Act.put, List.setIfInBounds_toArray, List.set_cons_zero, List.set_cons_succ]
  iterate 2 (refine seg_take (v := ?_) rfl (Or.inl ⟨by rfl, ?_⟩) ?_; rotate_left; (focus (intro w' hw'; go_simp <;> with_reducible rfl)); try simp only [Act.put, List.setIfInBounds_toArray, List.set_cons_zero, List.set_cons_succ])
  refine seg_take (v := .agg (wsV x.l)) rfl (Or.inl ⟨by rfl, fun w' hw' => ?_⟩) ?_
  focus (exact ex_loadP rfl rfl (load8 ((hw'.block _ (by have := B4.size; omega)).trans ((B4.block _ zV).trans RX.out)) rfl))
  try simp only [Act.put, List.setIfInBounds_toArray, List.set_cons_zero, List.set_cons_succ]
  iterate 1 ((first | refine seg_take (v := undef) rfl (Or.inr ⟨by rfl, rfl⟩) ?_ | (refine seg_take (v := ?_) rfl (Or.inl ⟨by rfl, ?_⟩) ?_; rotate_left; (focus (intro w' hw'; go_simp <;> with_reducible rfl)))); try simp only [Act.put, List.setIfInBounds_toArray, List.set_cons_zero, List.set_cons_succ])
  refine seg_take (v := .agg (wsV x.l)) rfl (Or.inl ⟨by rfl, fun w' hw' => ?_⟩) ?_
  focus (exact ex_loadP rfl rfl (load8 ((hw'.block _ (by have := B4.size; omega)).trans ((B4.block _ zV).trans RX.out)) rfl))
  try simp only [Act.put, List.setIfInBounds_toArray, List.set_cons_zero, List.set_cons_succ]
  iterate 1 ((first | refine seg_take (v := undef) rfl (Or.inr ⟨by rfl, rfl⟩) ?_ | (refine seg_take (v := ?_) rfl (Or.inl ⟨by rfl, ?_⟩) ?_; rotate_left; (focus (intro w' hw'; go_simp <;> with_reducible rfl)))); try simp only [Act.put, List.setIfInBounds_toArray, List.set_cons_zero, List.set_cons_succ])
  refine seg_run rfl (fun K hK => ?_)
  go_simp
  refine (shaTurn_any x _ 64 _ bs _ HX.out (rd4.below HB)).mono ?_
  rintro e_ u5 ⟨rfl, hc5⟩
  rw [HZ.out]
  have HB := below_then HB hc5
  refine hK.out _ _ (HB) ?_
  clear hK
  try simp only [Act.put, List.setIfInBounds_toArray, List.set_cons_zero, List.set_cons_succ]
  refine seg_run rfl (fun K hK => ?_)
  go_simp
  refine (refTurn_any x _ 64 _ bs _ HX.out (rd4.below HB)).mono ?_
  rintro e_ u6 ⟨rfl, hc6⟩
  rw [HZ.out]
  have HB := below_then HB hc6
  refine hK.out _ _ (HB) ?_
  clear hK
  try simp only [Act.put, List.setIfInBounds_toArray, List.set_cons_zero, List.set_cons_succ]
  refine seg_take (v := .bool true) rfl (Or.inl ⟨by rfl, fun w' hw' => ?_⟩) ?_
  focus ((have jj := HQ3.out w'; go_simp))
  try simp only [Act.put, List.setIfInBounds_toArray, List.set_cons_zero, List.set_cons_succ]
  iterate 2 (refine seg_take (v := ?_) rfl (Or.inl ⟨by rfl, ?_⟩) ?_; rotate_left; (focus (intro w' hw'; go_simp <;> with_reducible rfl)); try simp only [Act.put, List.setIfInBounds_toArray, List.set_cons_zero, List.set_cons_succ])
  iterate 2 ((first | refine seg_take (v := undef) rfl (Or.inr ⟨by rfl, rfl⟩) ?_ | (refine seg_take (v := ?_) rfl (Or.inl ⟨by rfl, ?_⟩) ?_; rotate_left; (focus (intro w' hw'; go_simp <;> with_reducible rfl)))); try simp only [Act.put, List.setIfInBounds_toArray, List.set_cons_zero, List.set_cons_succ])
  refine seg_run rfl (fun K hK => ?_)
  go_simp
  refine (shaPad_int k _ (by omega)).mono ?_
  rw [HP.out]
  rintro e_ u7 ⟨A7, n7, c7, rfl, ho7, hc7⟩
  have HB := below_then HB hc7
  refine hK.out _ _ (HB) ?_
  clear hK
  try simp only [Act.put, List.setIfInBounds_toArray, List.set_cons_zero, List.set_cons_succ]
  refine seg_run rfl (fun K hK => ?_)
  go_simp
  refine (refPad_int k _ (by omega)).mono ?_
  rw [HP.out]
  rintro e_ u8 ⟨A8, n8, c8, rfl, ho8, hc8⟩
  have HB := below_then HB hc8
  refine hK.out _ _ (HB) ?_
  clear hK
  try simp only [Act.put, List.setIfInBounds_toArray, List.set_cons_zero, List.set_cons_succ]
  refine seg_run rfl (fun K hK => ?_)
  go_simp
  have hh := bytes_any _ _ _ _ _ _ _ _ u8 (ho7.rd.below hc8) ho8.rd
  rw [decide_eq_true rfl] at hh
  refine hh.mono ?_
  rintro e_ u9 ⟨rfl, rfl⟩
  refine hK.out _ _ (HB) ?_
  clear hK
  try simp only [Act.put, List.setIfInBounds_toArray, List.set_cons_zero, List.set_cons_succ]
  iterate 2 (refine seg_take (v := ?_) rfl (Or.inl ⟨by rfl, ?_⟩) ?_; rotate_left; (focus (intro w' hw'; go_simp <;> with_reducible rfl)); try simp only [Act.put, List.setIfInBounds_toArray, List.set_cons_zero, List.set_cons_succ])
  refine seg_run rfl (fun K hK => ?_)
  go_simp
  refine (heads03 _).mono ?_
  rintro e_ u10 ⟨rfl, hc10⟩
  have HB := below_then HB hc10
  refine hK.out _ _ (HB) ?_
  clear hK
  try simp only [Act.put, List.setIfInBounds_toArray, List.set_cons_zero, List.set_cons_succ]
  iterate 2 (refine seg_take (v := ?_) rfl (Or.inl ⟨by rfl, ?_⟩) ?_; rotate_left; (focus (intro w' hw'; go_simp <;> with_reducible rfl)); try simp only [Act.put, List.setIfInBounds_toArray, List.set_cons_zero, List.set_cons_succ])
  refine seg_done (fun _ => ?_)
  refine wpAnyH_done (by kernel_rfl) ?_ _
  go_wp2_with fail
  go_ret
  exact ⟨rfl, (bV.trans (B4.mono bV.size)).trans (HB.mono (by have := bV.size; have := B4.size; omega))⟩
theorem shaTurns_law (x : H8) (A : Option Addr) (n c : Nat) (xs : List UInt8) (k : Int) (w : World) (hx : x.ok) (hr : RdB w A n c xs) (hk : -9223372036854775808 ≤ k ∧ k ≤ 9223372036854775807) :
    Calls Try.prog 7 #[.agg (wsV x.l), .slice A n c, .int .i64 k] w (RetV w (.bool true)) := by
  have hxsz : (wsV x.l).size = 8 := by rw [wsV_size]; rfl
  by_cases hn : n ≤ 200
  · by_cases hk2 : k ≤ 2000
    · exact shaTurns_main x A n c xs k w hx hr hk hn hk2
    · have d1 : decide ((200 : Int) < (n : Int)) = false := decide_eq_false (by omega)
      have d2 : decide ((2000 : Int) < k) = true := decide_eq_true (by omega)
      go_enter Try.func7, Try.ntmps7
      go_wp2_with (go_at_call 28; refine (heads03 _).mono ?_; rintro e w1 ⟨rfl, hb1⟩)
      go_ret
      exact ⟨rfl, below_then ((below_self w).alloc (Nat.le_refl _) _) hb1⟩
  · have d1 : decide ((200 : Int) < (n : Int)) = true := decide_eq_true (by omega)
    go_enter Try.func7, Try.ntmps7
    go_wp2_with (go_at_call 28; refine (heads03 _).mono ?_; rintro e w1 ⟨rfl, hb1⟩)
    go_ret
    exact ⟨rfl, below_then ((below_self w).alloc (Nat.le_refl _) _) hb1⟩
end Go.Proofs.Ytmbdfanaegadjaa
