/-
  Layer 13: the law SuperNewest.
-/
import Derived.Test.YtmbdfanaegadjaaSupK
namespace Go.Proofs.Ytmbdfanaegadjaa
set_option maxRecDepth 20000
open Go.RowKit
set_option linter.unusedVariables false
set_option linter.unusedSimpArgs false
set_option maxHeartbeats 8000000

theorem supNewest_main (s t : Su) (w : World) (hs : s.ok) (ht : t.ok) (hcs : suCheck s.s s.l = true) (hct : suCheck t.s t.l = true) (h0 : s.g % 2 = 0) (h1 : t.g % 2 = 1) :
    Calls Try.prog 3 #[.agg s.v, .agg t.v] w (RetV w (.bool true)) := by
  obtain ⟨W, hW⟩ : ∃ W, W = (w.alloc (.cells s.v 26)).alloc (.cells t.v 26) := ⟨_, rfl⟩
  have bW : Below w.heap.size w W := by rw [hW]; exact ((below_self w).alloc (Nat.le_refl _) _).alloc (by simp) _
  have hsW : W.heap[w.heap.size]? = some (.cells s.v 26 (0, 0)) := by rw [hW]; exact row2a ..
  have htW : W.heap[w.heap.size + 1]? = some (.cells t.v 26 (0, 0)) := by rw [hW]; exact row2b ..
  have zW : w.heap.size + 1 < W.heap.size := by rw [hW]; simp
  have HS0 := Lib.hid (row2a w s.v t.v 26 26)
  have HW := Lib.hid hW
  have HS := Lib.hid hsW
  have HT := Lib.hid htW
  have HSL := Lib.hid hs.2.2.2
  have HTL := Lib.hid ht.2.2.2
  clear hW hsW htW
  go_enter Try.func3, Try.ntmps3
  go_wp2_with (refine su_load rfl _ rfl w.heap.size rfl s HS0.out HSL.out ?_)
  rw [← HW.out]
  have hh := refsuCheck_any s.g s.s s.l s.D W hs.2.1 HSL.out
  rw [hcs] at hh
  refine hh.mono ?_
  clear hh
  rintro e w1 ⟨rfl, hb1⟩
  have ht1 := (hb1.block _ zW).trans HT.out
  have hs1 := (hb1.block w.heap.size (by omega)).trans HS.out
  have HT1 := Lib.hid ht1
  have HS1 := Lib.hid hs1
  have z1 := hb1.size
  clear ht1 hs1
  go_wp2_with (refine su_loadG (by rfl) _ rfl (w.heap.size + 1) rfl t HT1.out HTL.out ?_)
  have hh := refsuCheck_any t.g t.s t.l t.D w1 ht.2.1 HTL.out
  rw [hct] at hh
  refine hh.mono ?_
  clear hh
  rintro e w2 ⟨rfl, hb2⟩
  have z2 := hb2.size
  have ht2 := (hb2.block _ (by omega)).trans HT1.out
  have hs2 := (hb2.block w.heap.size (by omega)).trans HS1.out
  have cs := Su.cell0 hs2
  have ct := Su.cell0 ht2
  have HT2 := Lib.hid ht2
  have HS2 := Lib.hid hs2
  have B2 := below_then bW (below_then hb1 hb2)
  clear ht2 hs2
  go_wp2_with fail
  refine (suHome_any s.g w2 hs.1).mono ?_
  rintro e w9 ⟨rfl, rfl⟩
  rw [h0]
  go_wp2_with fail
  refine (suHome_any t.g w2 ht.1).mono ?_
  rintro e w9 ⟨rfl, rfl⟩
  rw [h1]
  obtain ⟨hnE, hnC⟩ := suNewest s.g t.g s.s s.l t.s t.l s.D t.D hs.1 ht.1 hcs hct HSL.out HTL.out h0 h1
  obtain ⟨P, hP⟩ : ∃ P, suPutL s.g s.s s.l s.D = P := ⟨_, rfl⟩
  obtain ⟨Q, hQ⟩ : ∃ P, suPutL t.g t.s t.l t.D = P := ⟨_, rfl⟩
  rw [hP, hQ] at hnE hnC
  have HP := Lib.hid hP
  have HQ := Lib.hid hQ
  have HNE := Lib.hid hnE
  have HNC := Lib.hid hnC
  clear hP hQ hnE hnC
  go_wp2_with (refine su_load rfl _ rfl w.heap.size rfl s HS2.out HSL.out ?_)
  have hh := suPut_any s.g s.s s.l s.D w2 hs.1 hs.2.1 HSL.out
  rw [HP.out, show suPutE s.s s.l = 0 by unfold suPutE; rw [if_pos hcs]] at hh
  refine hh.mono ?_
  clear hh
  rintro e w3 ⟨A3, n3, c3, rfl, ho3, hb3⟩
  have z3 := hb3.size
  have ht3 := (hb3.block _ (by omega)).trans HT2.out
  have HT3 := Lib.hid ht3
  clear ht3
  go_wp2_with (refine su_load rfl _ rfl (w.heap.size + 1) rfl t HT3.out HTL.out ?_)
  have hh := suPut_any t.g t.s t.l t.D w3 ht.1 ht.2.1 HTL.out
  rw [HQ.out, show suPutE t.s t.l = 0 by unfold suPutE; rw [if_pos hct]] at hh
  refine hh.mono ?_
  clear hh
  rintro e w4 ⟨A4, n4, c4, rfl, ho4, hb4⟩
  have z4 := hb4.size
  go_wp2_with fail
  have hh := suChoose_any A3 n3 c3 P A4 n4 c4 Q w4 (ho3.rd.below hb4) ho4.rd
  rw [HNE.out, HNC.out] at hh
  refine hh.mono ?_
  clear hh
  rintro e w5 ⟨rfl, hb5⟩
  have z5 := hb5.size
  have b25 := below_then hb3 (below_then hb4 hb5)
  have hs5 := (b25.block _ (by omega)).trans HS2.out
  have ht5 := (b25.block _ (by omega)).trans HT2.out
  have B5 := below_then B2 b25
  have HA5 := Lib.hid (allocZ w5)
  have HS5 := Lib.hid hs5
  have HT5 := Lib.hid ht5
  clear hs5 ht5
  by_cases hgt : s.g < t.g
  · rw [if_pos hgt]
    have d1 : decide ((s.g : Int) < (t.g : Int)) = true := decide_eq_true (by omega)
    have d2 : decide (s.g < t.g) = true := decide_eq_true hgt
    have q := fun V : World => (run_eql_su V t t ht ht).trans (by rw [decide_eq_true rfl])
    have Q9 := Lib.hid q
    clear hgt q
    go_wp2_with (first
      | (refine su_loadG (by rfl) _ rfl w5.heap.size rfl t HX3.out HTL.out ?_)
      | (refine su_loadG (by rfl) _ rfl V.heap.size rfl t HY3.out HTL.out ?_; have q9 := Q9.out)
      | (refine su_store rfl _ _ rfl w5.heap.size rfl t suZ rfl HA5.out HTL.out suZ_len ?_; obtain ⟨V, hV⟩ : ∃ V, V = (w5.alloc (.cells #[.int .u32 0, .int .i64 0, .int .i64 0, .int .u8 0, .int .u8 0, .int .u8 0, .int .u8 0, .int .u8 0, .int .u8 0, .int .u8 0, .int .u8 0, .int .u8 0, .int .u8 0, .int .u8 0, .int .u8 0, .int .u8 0, .int .u8 0, .int .u8 0, .int .u8 0, .int .u8 0, .int .u8 0, .int .u8 0, .int .u8 0, .int .u8 0, .int .u8 0, .int .u8 0, .int .u8 0, .int .u8 0, .int .u8 0, .int .u8 0, .int .u8 0, .int .u8 0, .int .u8 0, .int .u8 0, .int .u8 0] 26)).setRow w5.heap.size t.v := ⟨_, rfl⟩; (try rw [← hV]); obtain ⟨hVr, hVb, hVz⟩ := storedZ _ hV; have hVl := Nat.le_of_eq hVz; have hVg := Nat.le_of_eq hVz.symm; clear hVz; have HV1 := Lib.hid hVr; have hsV := (hVb.block w.heap.size (by omega)).trans HS5.out; have htV := (hVb.block (w.heap.size + 1) (by omega)).trans HT5.out; have HSV := Lib.hid hsV; have HTV := Lib.hid htV; have HAV := Lib.hid (allocZ V); have HV9 := Lib.hid hV; clear hV hVr hsV htV)
      | (refine su_load rfl _ rfl w.heap.size rfl s HSV.out HSL.out ?_)
      | (refine su_store rfl _ _ rfl V.heap.size rfl s suZ rfl HAV.out HSL.out suZ_len ?_; obtain ⟨U, hU⟩ : ∃ U, U = (V.alloc (.cells #[.int .u32 0, .int .i64 0, .int .i64 0, .int .u8 0, .int .u8 0, .int .u8 0, .int .u8 0, .int .u8 0, .int .u8 0, .int .u8 0, .int .u8 0, .int .u8 0, .int .u8 0, .int .u8 0, .int .u8 0, .int .u8 0, .int .u8 0, .int .u8 0, .int .u8 0, .int .u8 0, .int .u8 0, .int .u8 0, .int .u8 0, .int .u8 0, .int .u8 0, .int .u8 0, .int .u8 0, .int .u8 0, .int .u8 0, .int .u8 0, .int .u8 0, .int .u8 0, .int .u8 0, .int .u8 0, .int .u8 0] 26)).setRow V.heap.size s.v := ⟨_, rfl⟩; (try rw [← hU]); obtain ⟨hUr, hUb, hUz⟩ := storedZ _ hU; have hUl := Nat.le_of_eq hUz; have hUg := Nat.le_of_eq hUz.symm; clear hUz; have HU1 := Lib.hid hUr; have hsU := (hUb.block w.heap.size (by omega)).trans HSV.out; have htU := (hUb.block (w.heap.size + 1) (by omega)).trans HTV.out; have cs5 := Su.cell0 hsU; have ct5 := Su.cell0 htU; have HSU := Lib.hid hsU; have HTU := Lib.hid htU; have HX2 := Lib.hid ((hUb.block w5.heap.size (by omega)).trans HV1.out); have HU9 := Lib.hid hU; clear hU hUr hsU htU)
      | (refine su_load rfl _ rfl (w.heap.size + 1) rfl t HTU.out HTL.out ?_)
      | (refine su_store rfl _ _ rfl V.heap.size rfl t s rfl HU1.out HTL.out HSL.out ?_; have HX3 := Lib.hid ((setRow_other U V.heap.size w5.heap.size t.v (by omega)).trans HX2.out); have HY3 := Lib.hid (setRow_heap _ _ _ t.v _ _ HU1.out)))
    refine (heads13 _).mono ?_
    rintro e w9 ⟨rfl, hb9⟩
    go_wp2
    go_ret
    have hB := below_then B5 (below_then hVb hUb)
    exact ⟨rfl, (below_setRow hB (by have := B5.size; omega) _).trans (hb9.mono (by simp; have := hB.size; omega))⟩
  · rw [if_neg hgt]
    have d1 : decide ((s.g : Int) < (t.g : Int)) = false := decide_eq_false (by omega)
    have d2 : decide (s.g < t.g) = false := decide_eq_false hgt
    have q := fun V : World => (run_eql_su V s s hs hs).trans (by rw [decide_eq_true rfl])
    have Q9 := Lib.hid q
    clear hgt q
    go_wp2_with (first
      | (refine su_loadG (by rfl) _ rfl w5.heap.size rfl s HX2.out HSL.out ?_)
      | (refine su_loadG (by rfl) _ rfl V.heap.size rfl s HU1.out HSL.out ?_; have q9 := Q9.out)
      | (refine su_store rfl _ _ rfl w5.heap.size rfl s suZ rfl HA5.out HSL.out suZ_len ?_; obtain ⟨V, hV⟩ : ∃ V, V = (w5.alloc (.cells #[.int .u32 0, .int .i64 0, .int .i64 0, .int .u8 0, .int .u8 0, .int .u8 0, .int .u8 0, .int .u8 0, .int .u8 0, .int .u8 0, .int .u8 0, .int .u8 0, .int .u8 0, .int .u8 0, .int .u8 0, .int .u8 0, .int .u8 0, .int .u8 0, .int .u8 0, .int .u8 0, .int .u8 0, .int .u8 0, .int .u8 0, .int .u8 0, .int .u8 0, .int .u8 0, .int .u8 0, .int .u8 0, .int .u8 0, .int .u8 0, .int .u8 0, .int .u8 0, .int .u8 0, .int .u8 0, .int .u8 0] 26)).setRow w5.heap.size s.v := ⟨_, rfl⟩; (try rw [← hV]); obtain ⟨hVr, hVb, hVz⟩ := storedZ _ hV; have hVl := Nat.le_of_eq hVz; have hVg := Nat.le_of_eq hVz.symm; clear hVz; have HV1 := Lib.hid hVr; have hsV := (hVb.block w.heap.size (by omega)).trans HS5.out; have htV := (hVb.block (w.heap.size + 1) (by omega)).trans HT5.out; have HSV := Lib.hid hsV; have HTV := Lib.hid htV; have HAV := Lib.hid (allocZ V); have HV9 := Lib.hid hV; clear hV hVr hsV htV)
      | (refine su_load rfl _ rfl w.heap.size rfl s HSV.out HSL.out ?_)
      | (refine su_store rfl _ _ rfl V.heap.size rfl s suZ rfl HAV.out HSL.out suZ_len ?_; obtain ⟨U, hU⟩ : ∃ U, U = (V.alloc (.cells #[.int .u32 0, .int .i64 0, .int .i64 0, .int .u8 0, .int .u8 0, .int .u8 0, .int .u8 0, .int .u8 0, .int .u8 0, .int .u8 0, .int .u8 0, .int .u8 0, .int .u8 0, .int .u8 0, .int .u8 0, .int .u8 0, .int .u8 0, .int .u8 0, .int .u8 0, .int .u8 0, .int .u8 0, .int .u8 0, .int .u8 0, .int .u8 0, .int .u8 0, .int .u8 0, .int .u8 0, .int .u8 0, .int .u8 0, .int .u8 0, .int .u8 0, .int .u8 0, .int .u8 0, .int .u8 0, .int .u8 0] 26)).setRow V.heap.size s.v := ⟨_, rfl⟩; (try rw [← hU]); obtain ⟨hUr, hUb, hUz⟩ := storedZ _ hU; have hUl := Nat.le_of_eq hUz; have hUg := Nat.le_of_eq hUz.symm; clear hUz; have HU1 := Lib.hid hUr; have hsU := (hUb.block w.heap.size (by omega)).trans HSV.out; have htU := (hUb.block (w.heap.size + 1) (by omega)).trans HTV.out; have cs5 := Su.cell0 hsU; have ct5 := Su.cell0 htU; have HX2 := Lib.hid ((hUb.block w5.heap.size (by omega)).trans HV1.out); have HU9 := Lib.hid hU; clear hU hUr hsU htU))
    refine (heads13 _).mono ?_
    rintro e w9 ⟨rfl, hb9⟩
    go_wp2
    go_ret
    have hB := below_then B5 (below_then hVb hUb)
    exact ⟨rfl, below_then hB hb9⟩
theorem supNewest_early (s t : Su) (w : World) (hs : s.ok) (ht : t.ok) (h : suCheck s.s s.l = false ∨ (suCheck s.s s.l = true ∧ suCheck t.s t.l = false) ∨ (suCheck s.s s.l = true ∧ suCheck t.s t.l = true ∧ s.g % 2 = 1) ∨ (suCheck s.s s.l = true ∧ suCheck t.s t.l = true ∧ s.g % 2 = 0 ∧ t.g % 2 = 0)) :
    Calls Try.prog 3 #[.agg s.v, .agg t.v] w (RetV w (.bool true)) := by
  have HSL := Lib.hid hs.2.2.2
  have HTL := Lib.hid ht.2.2.2
  rcases h with h1 | ⟨h1, h2⟩ | ⟨h1, h2, h3⟩ | ⟨h1, h2, h3, h4⟩
  · have H1 := Lib.hid h1
    clear h1
    obtain ⟨W, hW⟩ : ∃ W, W = (w.alloc (.cells s.v 26)).alloc (.cells t.v 26) := ⟨_, rfl⟩
    have bW : Below w.heap.size w W := by rw [hW]; exact ((below_self w).alloc (Nat.le_refl _) _).alloc (by simp) _
    have hsW : W.heap[w.heap.size]? = some (.cells s.v 26 (0, 0)) := by rw [hW]; exact row2a ..
    have htW : W.heap[w.heap.size + 1]? = some (.cells t.v 26 (0, 0)) := by rw [hW]; exact row2b ..
    have zW : w.heap.size + 1 < W.heap.size := by rw [hW]; simp
    have HS0 := Lib.hid (row2a w s.v t.v 26 26)
    have HW := Lib.hid hW
    have HS := Lib.hid hsW
    have HT := Lib.hid htW
    clear hW hsW htW
    go_enter Try.func3, Try.ntmps3
    go_wp2_with (refine su_load rfl _ rfl w.heap.size rfl s HS0.out HSL.out ?_)
    rw [← HW.out]
    have hh := refsuCheck_any s.g s.s s.l s.D W hs.2.1 HSL.out
    rw [H1.out] at hh
    refine hh.mono ?_
    clear hh
    rintro e w1 ⟨rfl, hb1⟩
    go_wp2_with fail
    refine (heads13 _).mono ?_
    rintro e w9 ⟨rfl, hb9⟩
    go_wp2
    go_ret
    exact ⟨rfl, below_then bW (below_then hb1 hb9)⟩
  · have H1 := Lib.hid h1
    have H2 := Lib.hid h2
    clear h1 h2
    obtain ⟨W, hW⟩ : ∃ W, W = (w.alloc (.cells s.v 26)).alloc (.cells t.v 26) := ⟨_, rfl⟩
    have bW : Below w.heap.size w W := by rw [hW]; exact ((below_self w).alloc (Nat.le_refl _) _).alloc (by simp) _
    have hsW : W.heap[w.heap.size]? = some (.cells s.v 26 (0, 0)) := by rw [hW]; exact row2a ..
    have htW : W.heap[w.heap.size + 1]? = some (.cells t.v 26 (0, 0)) := by rw [hW]; exact row2b ..
    have zW : w.heap.size + 1 < W.heap.size := by rw [hW]; simp
    have HS0 := Lib.hid (row2a w s.v t.v 26 26)
    have HW := Lib.hid hW
    have HS := Lib.hid hsW
    have HT := Lib.hid htW
    clear hW hsW htW
    go_enter Try.func3, Try.ntmps3
    go_wp2_with (refine su_load rfl _ rfl w.heap.size rfl s HS0.out HSL.out ?_)
    rw [← HW.out]
    have hh := refsuCheck_any s.g s.s s.l s.D W hs.2.1 HSL.out
    rw [H1.out] at hh
    refine hh.mono ?_
    clear hh
    rintro e w1 ⟨rfl, hb1⟩
    have z1 := hb1.size
    have HT1 := Lib.hid ((hb1.block _ zW).trans HT.out)
    have HS1 := Lib.hid ((hb1.block w.heap.size (by omega)).trans HS.out)
    go_wp2_with (refine su_loadG (by rfl) _ rfl (w.heap.size + 1) rfl t HT1.out HTL.out ?_)
    have hh := refsuCheck_any t.g t.s t.l t.D w1 ht.2.1 HTL.out
    rw [H2.out] at hh
    refine hh.mono ?_
    clear hh
    rintro e w2 ⟨rfl, hb2⟩
    go_wp2_with fail
    refine (heads13 _).mono ?_
    rintro e w9 ⟨rfl, hb9⟩
    go_wp2
    go_ret
    exact ⟨rfl, below_then bW (below_then hb1 (below_then hb2 hb9))⟩
  · have H1 := Lib.hid h1
    have H2 := Lib.hid h2
    have H3 := Lib.hid h3
    clear h1 h2 h3
    obtain ⟨W, hW⟩ : ∃ W, W = (w.alloc (.cells s.v 26)).alloc (.cells t.v 26) := ⟨_, rfl⟩
    have bW : Below w.heap.size w W := by rw [hW]; exact ((below_self w).alloc (Nat.le_refl _) _).alloc (by simp) _
    have hsW : W.heap[w.heap.size]? = some (.cells s.v 26 (0, 0)) := by rw [hW]; exact row2a ..
    have htW : W.heap[w.heap.size + 1]? = some (.cells t.v 26 (0, 0)) := by rw [hW]; exact row2b ..
    have zW : w.heap.size + 1 < W.heap.size := by rw [hW]; simp
    have HS0 := Lib.hid (row2a w s.v t.v 26 26)
    have HW := Lib.hid hW
    have HS := Lib.hid hsW
    have HT := Lib.hid htW
    clear hW hsW htW
    go_enter Try.func3, Try.ntmps3
    go_wp2_with (refine su_load rfl _ rfl w.heap.size rfl s HS0.out HSL.out ?_)
    rw [← HW.out]
    have hh := refsuCheck_any s.g s.s s.l s.D W hs.2.1 HSL.out
    rw [H1.out] at hh
    refine hh.mono ?_
    clear hh
    rintro e w1 ⟨rfl, hb1⟩
    have z1 := hb1.size
    have HT1 := Lib.hid ((hb1.block _ zW).trans HT.out)
    have HS1 := Lib.hid ((hb1.block w.heap.size (by omega)).trans HS.out)
    go_wp2_with (refine su_loadG (by rfl) _ rfl (w.heap.size + 1) rfl t HT1.out HTL.out ?_)
    have hh := refsuCheck_any t.g t.s t.l t.D w1 ht.2.1 HTL.out
    rw [H2.out] at hh
    refine hh.mono ?_
    clear hh
    rintro e w2 ⟨rfl, hb2⟩
    have z2 := hb2.size
    have cs := Su.cell0 ((hb2.block w.heap.size (by omega)).trans HS1.out)
    have ct := Su.cell0 ((hb2.block _ (by omega)).trans HT1.out)
    go_wp2_with fail
    refine (suHome_any s.g w2 hs.1).mono ?_
    rintro e w9 ⟨rfl, rfl⟩
    rw [H3.out]
    go_wp2_with fail
    refine (heads13 _).mono ?_
    rintro e w9 ⟨rfl, hb9⟩
    go_wp2
    go_ret
    exact ⟨rfl, below_then bW (below_then hb1 (below_then hb2 hb9))⟩
  · have H1 := Lib.hid h1
    have H2 := Lib.hid h2
    have H3 := Lib.hid h3
    have H4 := Lib.hid h4
    clear h1 h2 h3 h4
    obtain ⟨W, hW⟩ : ∃ W, W = (w.alloc (.cells s.v 26)).alloc (.cells t.v 26) := ⟨_, rfl⟩
    have bW : Below w.heap.size w W := by rw [hW]; exact ((below_self w).alloc (Nat.le_refl _) _).alloc (by simp) _
    have hsW : W.heap[w.heap.size]? = some (.cells s.v 26 (0, 0)) := by rw [hW]; exact row2a ..
    have htW : W.heap[w.heap.size + 1]? = some (.cells t.v 26 (0, 0)) := by rw [hW]; exact row2b ..
    have zW : w.heap.size + 1 < W.heap.size := by rw [hW]; simp
    have HS0 := Lib.hid (row2a w s.v t.v 26 26)
    have HW := Lib.hid hW
    have HS := Lib.hid hsW
    have HT := Lib.hid htW
    clear hW hsW htW
    go_enter Try.func3, Try.ntmps3
    go_wp2_with (refine su_load rfl _ rfl w.heap.size rfl s HS0.out HSL.out ?_)
    rw [← HW.out]
    have hh := refsuCheck_any s.g s.s s.l s.D W hs.2.1 HSL.out
    rw [H1.out] at hh
    refine hh.mono ?_
    clear hh
    rintro e w1 ⟨rfl, hb1⟩
    have z1 := hb1.size
    have HT1 := Lib.hid ((hb1.block _ zW).trans HT.out)
    have HS1 := Lib.hid ((hb1.block w.heap.size (by omega)).trans HS.out)
    go_wp2_with (refine su_loadG (by rfl) _ rfl (w.heap.size + 1) rfl t HT1.out HTL.out ?_)
    have hh := refsuCheck_any t.g t.s t.l t.D w1 ht.2.1 HTL.out
    rw [H2.out] at hh
    refine hh.mono ?_
    clear hh
    rintro e w2 ⟨rfl, hb2⟩
    have z2 := hb2.size
    have cs := Su.cell0 ((hb2.block w.heap.size (by omega)).trans HS1.out)
    have ct := Su.cell0 ((hb2.block _ (by omega)).trans HT1.out)
    go_wp2_with fail
    refine (suHome_any s.g w2 hs.1).mono ?_
    rintro e w9 ⟨rfl, rfl⟩
    rw [H3.out]
    go_wp2_with fail
    refine (suHome_any t.g w2 ht.1).mono ?_
    rintro e w9 ⟨rfl, rfl⟩
    rw [H4.out]
    go_wp2_with fail
    refine (heads13 _).mono ?_
    rintro e w9 ⟨rfl, hb9⟩
    go_wp2
    go_ret
    exact ⟨rfl, below_then bW (below_then hb1 (below_then hb2 hb9))⟩

theorem superNewest_law (g : Nat) (sl l : Int) (D : List UInt8) (g' : Nat) (sl' l' : Int) (D' : List UInt8) (w : World) (hg : g < 4294967296) (hsl : -9223372036854775808 ≤ sl ∧ sl ≤ 9223372036854775807) (hl : -9223372036854775808 ≤ l ∧ l ≤ 9223372036854775807) (hD : D.length = 32)
    (hg' : g' < 4294967296) (hsl' : -9223372036854775808 ≤ sl' ∧ sl' ≤ 9223372036854775807) (hl' : -9223372036854775808 ≤ l' ∧ l' ≤ 9223372036854775807) (hD' : D'.length = 32) :
    Calls Try.prog 3 #[.agg (suV g sl l D), .agg (suV g' sl' l' D')] w (RetV w (.bool true)) := by
  have hs : (⟨g, sl, l, D⟩ : Su).ok := ⟨hg, hsl, hl, hD⟩
  have ht : (⟨g', sl', l', D'⟩ : Su).ok := ⟨hg', hsl', hl', hD'⟩
  cases h1 : suCheck sl l with
  | false => exact supNewest_early ⟨g, sl, l, D⟩ ⟨g', sl', l', D'⟩ w hs ht (.inl h1)
  | true =>
    cases h2 : suCheck sl' l' with
    | false => exact supNewest_early ⟨g, sl, l, D⟩ ⟨g', sl', l', D'⟩ w hs ht (.inr (.inl ⟨h1, h2⟩))
    | true =>
      by_cases h3 : g % 2 = 1
      · exact supNewest_early ⟨g, sl, l, D⟩ ⟨g', sl', l', D'⟩ w hs ht (.inr (.inr (.inl ⟨h1, h2, h3⟩)))
      · by_cases h4 : g' % 2 = 0
        · exact supNewest_early ⟨g, sl, l, D⟩ ⟨g', sl', l', D'⟩ w hs ht (.inr (.inr (.inr ⟨h1, h2, by show g % 2 = 0; omega, h4⟩)))
        · exact supNewest_main ⟨g, sl, l, D⟩ ⟨g', sl', l', D'⟩ w hs ht h1 h2 (by show g % 2 = 0; omega) (by show g' % 2 = 1; omega)
end Go.Proofs.Ytmbdfanaegadjaa
