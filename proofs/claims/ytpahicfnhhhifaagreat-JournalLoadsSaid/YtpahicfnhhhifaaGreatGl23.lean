/-
 Proved here, for the statement JournalLoads:
 Layer 13: the document's Home, Place, Choose.
 Layer 13: the law's words.
-/
import Derived.Test.YtpahicfnhhhifaaGreatGl21
import Derived.Test.YtpahicfnhhhifaaGreatGl22
set_option linter.unusedVariables false
set_option linter.unusedSimpArgs false
namespace Go.Proofs.YtpahicfnhhhifaaGreat
set_option maxRecDepth 20000
open Go.RowKit
set_option maxHeartbeats 8000000
theorem refsuHome_any (g : Nat) (w : World) (hg : g < 4294967296) : Calls Tryz.prog 58 #[.int .u32 g] w fun e w' => e = .returned (.int .i64 (g % 2 : Nat)) ∧ w = w' := by
 have w1 : IntKind.i64.wrap ((g : Int).tmod 2) = ((g % 2 : Nat) : Int) := by rw [Int.tmod_eq_emod_of_nonneg (by omega)]; exact wi64n (k := g % 2) (by omega)
 go_enter Tryz.func58, Tryz.ntmps58
 go_wp2
 go_ret
 exact ⟨rfl, rfl⟩
theorem refsuPlace_any (s : Int) (w : World) : Calls Tryz.prog 76 #[.int .i64 s] w fun e w' => e = .returned (.int .i64 (if s = 0 then 2 else 50)) ∧ w = w' := by
 by_cases h : s = 0
 ·subst h
  go_enter Tryz.func76, Tryz.ntmps76
  go_wp2
  go_ret
  exact ⟨rfl, rfl⟩
 ·rw [if_neg h]
  have d : decide (s = 0) = false := decide_eq_false h
  go_enter Tryz.func76, Tryz.ntmps76
  go_wp2
  go_ret
  exact ⟨rfl, rfl⟩
theorem eqz (E : Int) (h : ¬ E = 0) : (E == 0) = false := by rw [beq_eq_false_iff_ne]; exact h
theorem refsuChoose_any (A : Option Addr) (n c : Nat) (xs : List UInt8) (B : Option Addr) (m d : Nat) (ys : List UInt8) (w : World) (ha : RdB w A n c xs) (hb : RdB w B m d ys) :
  Calls Tryz.prog 75 #[.slice A n c, .slice B m d] w (RetSu w (suCh xs ys) (suChE xs ys)) := by
 obtain ⟨x, hx⟩ : ∃ x, suGet xs = x := ⟨_, rfl⟩
 obtain ⟨y, hy⟩ : ∃ x, suGet ys = x := ⟨_, rfl⟩
 obtain ⟨E, hE⟩ : ∃ E, suGetE xs = E := ⟨_, rfl⟩
 obtain ⟨F, hF⟩ : ∃ E, suGetE ys = E := ⟨_, rfl⟩
 have hxl := suGet_len xs
 have hyl := suGet_len ys
 have hxg := (suGet_bounds xs).1
 have hyg := (suGet_bounds ys).1
 rw [hx] at hxl hxg
 rw [hy] at hyl hyg
 have hgx : suGood xs 0 = decide (E = 0 ∧ x.g % 2 = 0) := by unfold suGood; rw [hx, hE]
 have hgy : suGood ys 1 = decide (F = 0 ∧ y.g % 2 = 1) := by unfold suGood; rw [hy, hF]
 have hch : suCh xs ys = if suGood xs 0 = true ∧ (suGood ys 1 = false ∨ y.g < x.g) then x else if suGood ys 1 = true then y else suZ := by unfold suCh; rw [hx, hy]
 have hce : suChE xs ys = if suGood xs 0 = true ∨ suGood ys 1 = true then 0 else 7 := rfl
 rw [hgx, hgy] at hch hce
 obtain ⟨R, hR⟩ : ∃ R, suCh xs ys = R := ⟨_, rfl⟩
 obtain ⟨G, hG⟩ : ∃ R, suChE xs ys = R := ⟨_, rfl⟩
 rw [hR] at hch
 rw [hG] at hce
 rw [hR, hG]
 have HX := Lib.hid hx
 have HY := Lib.hid hy
 have HE := Lib.hid hE
 have HF := Lib.hid hF
 have HXL := Lib.hid hxl
 have HYL := Lib.hid hyl
 have HCH := Lib.hid hch
 have HCE := Lib.hid hce
 clear hx hy hE hF hxl hyl hgx hgy hch hce hR hG
 have h4 := allocZ w
 have H4 := Lib.hid h4
 clear h4
 go_enter Tryz.func75, Tryz.ntmps75
 go_wp2_with fail
 refine named ?_
 intro W hW
 have bW : Below w.heap.size w W := by rw [hW]; repeat' (first | exact Below.refl _ _ | (refine Below.alloc ?_ ?_ _; rotate_left; (simp <;> omega)) | refine Below.drew ?_)
 have zW := bW.size
 have HW := Lib.hid hW
 clear hW
 have h4 : W.heap[w.heap.size]? = some (.cells suZ.v 33 (0, 0)) := by rw [HW.out]; exact H4.out
 have xW : w.heap.size < W.heap.size := by rw [HW.out]; simp
 have hh := refsuGet_any A n c xs W (ha.below bW)
 rw [HX.out, HE.out] at hh
 refine hh.mono ?_
 clear hh
 rintro e w1 ⟨rfl, hb1⟩
 have h41 := (hb1.block _ xW).trans h4
 have H41 := Lib.hid h41
 have HA1 := Lib.hid (allocZ w1)
 clear h4 h41
 have z1 := hb1.size
 go_wp2_with (refine wpList_store_row rfl 33 _ _ rfl w1.heap.size x.v rfl rfl 33 suZ.v HA1.out (x.info HXL.out) (Su.size _ _ suZ_len HXL.out) (suV_one ..) ?_; obtain ⟨V, hV⟩ : ∃ V, V = (w1.alloc (.cells zz1 33)).setRow w1.heap.size x.v := ⟨_, rfl⟩; rw [← hV]; obtain ⟨hVr, hVb, hVz⟩ := storedZ _ hV; have HVR := Lib.hid hVr; clear hV hVr)
 have hh := refsuGet_any B m d ys V (hb.below (below_then bW (below_then hb1 hVb)))
 rw [HY.out, HF.out] at hh
 refine hh.mono ?_
 clear hh
 rintro e w2 ⟨rfl, hb2⟩
 have z2 := hb2.size
 have h42 := (hb2.block _ (by omega)).trans ((hVb.block _ (by omega)).trans H41.out)
 have hx2 := (hb2.block _ (by omega)).trans HVR.out
 have B2 := below_then bW (below_then hb1 (below_then hVb hb2))
 have H42 := Lib.hid h42
 have HX2 := Lib.hid hx2
 have HA2 := Lib.hid (allocZ w2)
 clear h42 hx2
 by_cases qE : E = 0
 ·subst qE
  by_cases pE : x.g % 2 = 0
  ·have ka : (((x.g % 2 : Nat) : Int) == 0) = true := by rw [pE]; rfl
   have ka2 : ((x.g : Int) % 2 == 0) = true := by rw [beq_iff_eq]; omega
   have gl : (0 : Int) = 0 ∧ x.g % 2 = 0 := ⟨rfl, pE⟩
   have GL := Lib.hid gl
   clear gl pE
   by_cases qF : F = 0
   ·subst qF
    by_cases pF : y.g % 2 = 1
    ·have kb : (((y.g % 2 : Nat) : Int) == 1) = true := by rw [pF]; rfl
     have kb2 : ((y.g : Int) % 2 == 1) = true := by rw [beq_iff_eq]; omega
     have gr : (0 : Int) = 0 ∧ y.g % 2 = 1 := ⟨rfl, pF⟩
     have GR := Lib.hid gr
     clear gr pF
     go_wp2_with (refine wpList_store_row rfl 33 _ _ rfl w2.heap.size y.v rfl rfl 33 suZ.v HA2.out (y.info HYL.out) (Su.size _ _ suZ_len HYL.out) (suV_one ..) ?_; obtain ⟨U, hU⟩ : ∃ V, V = (w2.alloc (.cells zz1 33)).setRow w2.heap.size y.v := ⟨_, rfl⟩; rw [← hU]; obtain ⟨hUr, hUb, hUz⟩ := storedZ _ hU; have hx3 := (hUb.block w1.heap.size (by omega)).trans HX2.out; have h43 := (hUb.block w.heap.size (by omega)).trans H42.out; have cx := Su.cell0 hx3; have cy := Su.cell0 hUr; have HUR := Lib.hid hUr; have HX3 := Lib.hid hx3; have H43 := Lib.hid h43; clear hU hUr hx3 h43)
     refine (refsuHome_any x.g U hxg).mono ?_
     rintro e w9 ⟨rfl, rfl⟩
     go_wp2_with fail
     refine (refsuHome_any y.g U hyg).mono ?_
     rintro e w9 ⟨rfl, rfl⟩
     by_cases hgt : y.g < x.g
     ·have dg : decide ((y.g : Int) < (x.g : Int)) = true := decide_eq_true (by omega)
      have dgn : decide (y.g < x.g) = true := decide_eq_true hgt
      have HGT := Lib.hid hgt
      clear hgt
      go_wp2_with (first | (refine wpList_load_row rfl 33 _ rfl w1.heap.size rfl 33 x.v (0, 0) _ HX3.out Tryz.underlying33 rfl (x.info HXL.out) ?_) | (refine wpList_store_row rfl 33 _ _ rfl w.heap.size x.v rfl rfl 33 suZ.v H43.out (x.info HXL.out) (Su.size _ _ suZ_len HXL.out) (suV_one ..) ?_))
      have hr1 := HCH.out
      have hr2 := HCE.out
      rw [decide_eq_true GL.out, if_pos ⟨rfl, .inr HGT.out⟩] at hr1
      rw [decide_eq_true GL.out, if_pos (.inl rfl)] at hr2
      refine bodyPost_ret (results_row_tmp Tryz.results75 _ _ w.heap.size 33 x.v (0, 0) _ rfl (setRow_heap _ _ _ x.v _ _ H43.out) Tryz.underlying33 rfl (x.info HXL.out)) rfl ?_
      exact ⟨by rw [hr1, hr2]; rfl, below_setRow (below_then B2 hUb) (Nat.le_refl _) _⟩
     ·have dg : decide ((y.g : Int) < (x.g : Int)) = false := decide_eq_false (by omega)
      have dgn : decide (y.g < x.g) = false := decide_eq_false hgt
      have HGT := Lib.hid hgt
      clear hgt
      go_wp2_with (first | (refine wpList_load_row rfl 33 _ rfl w2.heap.size rfl 33 y.v (0, 0) _ HUR.out Tryz.underlying33 rfl (y.info HYL.out) ?_) | (refine wpList_store_row rfl 33 _ _ rfl w.heap.size y.v rfl rfl 33 suZ.v H43.out (y.info HYL.out) (Su.size _ _ suZ_len HYL.out) (suV_one ..) ?_))
      have hr1 := HCH.out
      have hr2 := HCE.out
      rw [decide_eq_true GL.out, decide_eq_true GR.out, if_neg (fun h => h.2.elim (fun h => by cases h) HGT.out), if_pos rfl] at hr1
      rw [decide_eq_true GL.out, if_pos (.inl rfl)] at hr2
      refine bodyPost_ret (results_row_tmp Tryz.results75 _ _ w.heap.size 33 y.v (0, 0) _ rfl (setRow_heap _ _ _ y.v _ _ H43.out) Tryz.underlying33 rfl (y.info HYL.out)) rfl ?_
      exact ⟨by rw [hr1, hr2]; rfl, below_setRow (below_then B2 hUb) (Nat.le_refl _) _⟩
    ·have kb : (((y.g % 2 : Nat) : Int) == 1) = false := by rw [beq_eq_false_iff_ne]; omega
     have kb2 : ((y.g : Int) % 2 == 1) = false := by rw [beq_eq_false_iff_ne]; omega
     have gr : ¬ ((0 : Int) = 0 ∧ y.g % 2 = 1) := fun h => pF h.2
     have GR := Lib.hid gr
     clear gr pF
     go_wp2_with (refine wpList_store_row rfl 33 _ _ rfl w2.heap.size y.v rfl rfl 33 suZ.v HA2.out (y.info HYL.out) (Su.size _ _ suZ_len HYL.out) (suV_one ..) ?_; obtain ⟨U, hU⟩ : ∃ V, V = (w2.alloc (.cells zz1 33)).setRow w2.heap.size y.v := ⟨_, rfl⟩; rw [← hU]; obtain ⟨hUr, hUb, hUz⟩ := storedZ _ hU; have hx3 := (hUb.block w1.heap.size (by omega)).trans HX2.out; have h43 := (hUb.block w.heap.size (by omega)).trans H42.out; have cx := Su.cell0 hx3; have cy := Su.cell0 hUr; have HUR := Lib.hid hUr; have HX3 := Lib.hid hx3; have H43 := Lib.hid h43; clear hU hUr hx3 h43)
     refine (refsuHome_any x.g U hxg).mono ?_
     rintro e w9 ⟨rfl, rfl⟩
     go_wp2_with fail
     refine (refsuHome_any y.g U hyg).mono ?_
     rintro e w9 ⟨rfl, rfl⟩
     go_wp2_with (first | (refine wpList_load_row rfl 33 _ rfl w1.heap.size rfl 33 x.v (0, 0) _ HX3.out Tryz.underlying33 rfl (x.info HXL.out) ?_) | (refine wpList_store_row rfl 33 _ _ rfl w.heap.size x.v rfl rfl 33 suZ.v H43.out (x.info HXL.out) (Su.size _ _ suZ_len HXL.out) (suV_one ..) ?_))
     have hr1 := HCH.out
     have hr2 := HCE.out
     rw [decide_eq_true GL.out, decide_eq_false GR.out, if_pos ⟨rfl, .inl rfl⟩] at hr1
     rw [decide_eq_true GL.out, if_pos (.inl rfl)] at hr2
     refine bodyPost_ret (results_row_tmp Tryz.results75 _ _ w.heap.size 33 x.v (0, 0) _ rfl (setRow_heap _ _ _ x.v _ _ H43.out) Tryz.underlying33 rfl (x.info HXL.out)) rfl ?_
     exact ⟨by rw [hr1, hr2]; rfl, below_setRow (below_then B2 hUb) (Nat.le_refl _) _⟩
   ·have kb := eqz F qF
    have gr : ¬ (F = 0 ∧ y.g % 2 = 1) := fun h => qF h.1
    have GR := Lib.hid gr
    clear gr qF
    go_wp2_with (refine wpList_store_row rfl 33 _ _ rfl w2.heap.size y.v rfl rfl 33 suZ.v HA2.out (y.info HYL.out) (Su.size _ _ suZ_len HYL.out) (suV_one ..) ?_; obtain ⟨U, hU⟩ : ∃ V, V = (w2.alloc (.cells zz1 33)).setRow w2.heap.size y.v := ⟨_, rfl⟩; rw [← hU]; obtain ⟨hUr, hUb, hUz⟩ := storedZ _ hU; have hx3 := (hUb.block w1.heap.size (by omega)).trans HX2.out; have h43 := (hUb.block w.heap.size (by omega)).trans H42.out; have cx := Su.cell0 hx3; have cy := Su.cell0 hUr; have HUR := Lib.hid hUr; have HX3 := Lib.hid hx3; have H43 := Lib.hid h43; clear hU hUr hx3 h43)
    refine (refsuHome_any x.g U hxg).mono ?_
    rintro e w9 ⟨rfl, rfl⟩
    go_wp2_with (first | (refine wpList_load_row rfl 33 _ rfl w1.heap.size rfl 33 x.v (0, 0) _ HX3.out Tryz.underlying33 rfl (x.info HXL.out) ?_) | (refine wpList_store_row rfl 33 _ _ rfl w.heap.size x.v rfl rfl 33 suZ.v H43.out (x.info HXL.out) (Su.size _ _ suZ_len HXL.out) (suV_one ..) ?_))
    have hr1 := HCH.out
    have hr2 := HCE.out
    rw [decide_eq_true GL.out, decide_eq_false GR.out, if_pos ⟨rfl, .inl rfl⟩] at hr1
    rw [decide_eq_true GL.out, if_pos (.inl rfl)] at hr2
    refine bodyPost_ret (results_row_tmp Tryz.results75 _ _ w.heap.size 33 x.v (0, 0) _ rfl (setRow_heap _ _ _ x.v _ _ H43.out) Tryz.underlying33 rfl (x.info HXL.out)) rfl ?_
    exact ⟨by rw [hr1, hr2]; rfl, below_setRow (below_then B2 hUb) (Nat.le_refl _) _⟩
  ·have ka : (((x.g % 2 : Nat) : Int) == 0) = false := by rw [beq_eq_false_iff_ne]; omega
   have ka2 : ((x.g : Int) % 2 == 0) = false := by rw [beq_eq_false_iff_ne]; omega
   have gl : ¬ ((0 : Int) = 0 ∧ x.g % 2 = 0) := fun h => pE h.2
   have GL := Lib.hid gl
   clear gl pE
   by_cases qF : F = 0
   ·subst qF
    by_cases pF : y.g % 2 = 1
    ·have kb : (((y.g % 2 : Nat) : Int) == 1) = true := by rw [pF]; rfl
     have kb2 : ((y.g : Int) % 2 == 1) = true := by rw [beq_iff_eq]; omega
     have gr : (0 : Int) = 0 ∧ y.g % 2 = 1 := ⟨rfl, pF⟩
     have GR := Lib.hid gr
     clear gr pF
     go_wp2_with (refine wpList_store_row rfl 33 _ _ rfl w2.heap.size y.v rfl rfl 33 suZ.v HA2.out (y.info HYL.out) (Su.size _ _ suZ_len HYL.out) (suV_one ..) ?_; obtain ⟨U, hU⟩ : ∃ V, V = (w2.alloc (.cells zz1 33)).setRow w2.heap.size y.v := ⟨_, rfl⟩; rw [← hU]; obtain ⟨hUr, hUb, hUz⟩ := storedZ _ hU; have hx3 := (hUb.block w1.heap.size (by omega)).trans HX2.out; have h43 := (hUb.block w.heap.size (by omega)).trans H42.out; have cx := Su.cell0 hx3; have cy := Su.cell0 hUr; have HUR := Lib.hid hUr; have HX3 := Lib.hid hx3; have H43 := Lib.hid h43; clear hU hUr hx3 h43)
     refine (refsuHome_any x.g U hxg).mono ?_
     rintro e w9 ⟨rfl, rfl⟩
     go_wp2_with fail
     refine (refsuHome_any y.g U hyg).mono ?_
     rintro e w9 ⟨rfl, rfl⟩
     go_wp2_with (first | (refine wpList_load_row rfl 33 _ rfl w2.heap.size rfl 33 y.v (0, 0) _ HUR.out Tryz.underlying33 rfl (y.info HYL.out) ?_) | (refine wpList_store_row rfl 33 _ _ rfl w.heap.size y.v rfl rfl 33 suZ.v H43.out (y.info HYL.out) (Su.size _ _ suZ_len HYL.out) (suV_one ..) ?_))
     have hr1 := HCH.out
     have hr2 := HCE.out
     rw [decide_eq_false GL.out, decide_eq_true GR.out, if_neg (fun h => by cases h.1), if_pos rfl] at hr1
     rw [decide_eq_true GR.out, if_pos (.inr rfl)] at hr2
     refine bodyPost_ret (results_row_tmp Tryz.results75 _ _ w.heap.size 33 y.v (0, 0) _ rfl (setRow_heap _ _ _ y.v _ _ H43.out) Tryz.underlying33 rfl (y.info HYL.out)) rfl ?_
     exact ⟨by rw [hr1, hr2]; rfl, below_setRow (below_then B2 hUb) (Nat.le_refl _) _⟩
    ·have kb : (((y.g % 2 : Nat) : Int) == 1) = false := by rw [beq_eq_false_iff_ne]; omega
     have kb2 : ((y.g : Int) % 2 == 1) = false := by rw [beq_eq_false_iff_ne]; omega
     have gr : ¬ ((0 : Int) = 0 ∧ y.g % 2 = 1) := fun h => pF h.2
     have GR := Lib.hid gr
     clear gr pF
     go_wp2_with (refine wpList_store_row rfl 33 _ _ rfl w2.heap.size y.v rfl rfl 33 suZ.v HA2.out (y.info HYL.out) (Su.size _ _ suZ_len HYL.out) (suV_one ..) ?_; obtain ⟨U, hU⟩ : ∃ V, V = (w2.alloc (.cells zz1 33)).setRow w2.heap.size y.v := ⟨_, rfl⟩; rw [← hU]; obtain ⟨hUr, hUb, hUz⟩ := storedZ _ hU; have hx3 := (hUb.block w1.heap.size (by omega)).trans HX2.out; have h43 := (hUb.block w.heap.size (by omega)).trans H42.out; have cx := Su.cell0 hx3; have cy := Su.cell0 hUr; have HUR := Lib.hid hUr; have HX3 := Lib.hid hx3; have H43 := Lib.hid h43; clear hU hUr hx3 h43)
     refine (refsuHome_any x.g U hxg).mono ?_
     rintro e w9 ⟨rfl, rfl⟩
     go_wp2_with fail
     refine (refsuHome_any y.g U hyg).mono ?_
     rintro e w9 ⟨rfl, rfl⟩
     go_wp2_with (refine wpList_store_row rfl 33 _ _ rfl w.heap.size suZ.v rfl rfl 33 suZ.v H43.out (suZ.info suZ_len) (Su.size _ _ suZ_len suZ_len) (suV_one ..) ?_)
     have hr1 := HCH.out
     have hr2 := HCE.out
     rw [decide_eq_false GL.out, decide_eq_false GR.out, if_neg (fun h => by cases h.1), if_neg (fun h => by cases h)] at hr1
     rw [decide_eq_false GL.out, decide_eq_false GR.out, if_neg (fun h => h.elim (fun h => by cases h) (fun h => by cases h))] at hr2
     refine bodyPost_ret (results_row_tmp Tryz.results75 _ _ w.heap.size 33 suZ.v (0, 0) _ rfl (setRow_heap _ _ _ suZ.v _ _ H43.out) Tryz.underlying33 rfl (suZ.info suZ_len)) rfl ?_
     exact ⟨by rw [hr1, hr2]; rfl, below_setRow (below_then B2 hUb) (Nat.le_refl _) _⟩
   ·have kb := eqz F qF
    have gr : ¬ (F = 0 ∧ y.g % 2 = 1) := fun h => qF h.1
    have GR := Lib.hid gr
    clear gr qF
    go_wp2_with (refine wpList_store_row rfl 33 _ _ rfl w2.heap.size y.v rfl rfl 33 suZ.v HA2.out (y.info HYL.out) (Su.size _ _ suZ_len HYL.out) (suV_one ..) ?_; obtain ⟨U, hU⟩ : ∃ V, V = (w2.alloc (.cells zz1 33)).setRow w2.heap.size y.v := ⟨_, rfl⟩; rw [← hU]; obtain ⟨hUr, hUb, hUz⟩ := storedZ _ hU; have hx3 := (hUb.block w1.heap.size (by omega)).trans HX2.out; have h43 := (hUb.block w.heap.size (by omega)).trans H42.out; have cx := Su.cell0 hx3; have cy := Su.cell0 hUr; have HUR := Lib.hid hUr; have HX3 := Lib.hid hx3; have H43 := Lib.hid h43; clear hU hUr hx3 h43)
    refine (refsuHome_any x.g U hxg).mono ?_
    rintro e w9 ⟨rfl, rfl⟩
    go_wp2_with (refine wpList_store_row rfl 33 _ _ rfl w.heap.size suZ.v rfl rfl 33 suZ.v H43.out (suZ.info suZ_len) (Su.size _ _ suZ_len suZ_len) (suV_one ..) ?_)
    have hr1 := HCH.out
    have hr2 := HCE.out
    rw [decide_eq_false GL.out, decide_eq_false GR.out, if_neg (fun h => by cases h.1), if_neg (fun h => by cases h)] at hr1
    rw [decide_eq_false GL.out, decide_eq_false GR.out, if_neg (fun h => h.elim (fun h => by cases h) (fun h => by cases h))] at hr2
    refine bodyPost_ret (results_row_tmp Tryz.results75 _ _ w.heap.size 33 suZ.v (0, 0) _ rfl (setRow_heap _ _ _ suZ.v _ _ H43.out) Tryz.underlying33 rfl (suZ.info suZ_len)) rfl ?_
    exact ⟨by rw [hr1, hr2]; rfl, below_setRow (below_then B2 hUb) (Nat.le_refl _) _⟩
 ·have ka := eqz E qE
  have gl : ¬ (E = 0 ∧ x.g % 2 = 0) := fun h => qE h.1
  have GL := Lib.hid gl
  clear gl qE
  by_cases qF : F = 0
  ·subst qF
   by_cases pF : y.g % 2 = 1
   ·have kb : (((y.g % 2 : Nat) : Int) == 1) = true := by rw [pF]; rfl
    have kb2 : ((y.g : Int) % 2 == 1) = true := by rw [beq_iff_eq]; omega
    have gr : (0 : Int) = 0 ∧ y.g % 2 = 1 := ⟨rfl, pF⟩
    have GR := Lib.hid gr
    clear gr pF
    go_wp2_with (refine wpList_store_row rfl 33 _ _ rfl w2.heap.size y.v rfl rfl 33 suZ.v HA2.out (y.info HYL.out) (Su.size _ _ suZ_len HYL.out) (suV_one ..) ?_; obtain ⟨U, hU⟩ : ∃ V, V = (w2.alloc (.cells zz1 33)).setRow w2.heap.size y.v := ⟨_, rfl⟩; rw [← hU]; obtain ⟨hUr, hUb, hUz⟩ := storedZ _ hU; have hx3 := (hUb.block w1.heap.size (by omega)).trans HX2.out; have h43 := (hUb.block w.heap.size (by omega)).trans H42.out; have cx := Su.cell0 hx3; have cy := Su.cell0 hUr; have HUR := Lib.hid hUr; have HX3 := Lib.hid hx3; have H43 := Lib.hid h43; clear hU hUr hx3 h43)
    refine (refsuHome_any y.g U hyg).mono ?_
    rintro e w9 ⟨rfl, rfl⟩
    go_wp2_with (first | (refine wpList_load_row rfl 33 _ rfl w2.heap.size rfl 33 y.v (0, 0) _ HUR.out Tryz.underlying33 rfl (y.info HYL.out) ?_) | (refine wpList_store_row rfl 33 _ _ rfl w.heap.size y.v rfl rfl 33 suZ.v H43.out (y.info HYL.out) (Su.size _ _ suZ_len HYL.out) (suV_one ..) ?_))
    have hr1 := HCH.out
    have hr2 := HCE.out
    rw [decide_eq_false GL.out, decide_eq_true GR.out, if_neg (fun h => by cases h.1), if_pos rfl] at hr1
    rw [decide_eq_true GR.out, if_pos (.inr rfl)] at hr2
    refine bodyPost_ret (results_row_tmp Tryz.results75 _ _ w.heap.size 33 y.v (0, 0) _ rfl (setRow_heap _ _ _ y.v _ _ H43.out) Tryz.underlying33 rfl (y.info HYL.out)) rfl ?_
    exact ⟨by rw [hr1, hr2]; rfl, below_setRow (below_then B2 hUb) (Nat.le_refl _) _⟩
   ·have kb : (((y.g % 2 : Nat) : Int) == 1) = false := by rw [beq_eq_false_iff_ne]; omega
    have kb2 : ((y.g : Int) % 2 == 1) = false := by rw [beq_eq_false_iff_ne]; omega
    have gr : ¬ ((0 : Int) = 0 ∧ y.g % 2 = 1) := fun h => pF h.2
    have GR := Lib.hid gr
    clear gr pF
    go_wp2_with (refine wpList_store_row rfl 33 _ _ rfl w2.heap.size y.v rfl rfl 33 suZ.v HA2.out (y.info HYL.out) (Su.size _ _ suZ_len HYL.out) (suV_one ..) ?_; obtain ⟨U, hU⟩ : ∃ V, V = (w2.alloc (.cells zz1 33)).setRow w2.heap.size y.v := ⟨_, rfl⟩; rw [← hU]; obtain ⟨hUr, hUb, hUz⟩ := storedZ _ hU; have hx3 := (hUb.block w1.heap.size (by omega)).trans HX2.out; have h43 := (hUb.block w.heap.size (by omega)).trans H42.out; have cx := Su.cell0 hx3; have cy := Su.cell0 hUr; have HUR := Lib.hid hUr; have HX3 := Lib.hid hx3; have H43 := Lib.hid h43; clear hU hUr hx3 h43)
    refine (refsuHome_any y.g U hyg).mono ?_
    rintro e w9 ⟨rfl, rfl⟩
    go_wp2_with (refine wpList_store_row rfl 33 _ _ rfl w.heap.size suZ.v rfl rfl 33 suZ.v H43.out (suZ.info suZ_len) (Su.size _ _ suZ_len suZ_len) (suV_one ..) ?_)
    have hr1 := HCH.out
    have hr2 := HCE.out
    rw [decide_eq_false GL.out, decide_eq_false GR.out, if_neg (fun h => by cases h.1), if_neg (fun h => by cases h)] at hr1
    rw [decide_eq_false GL.out, decide_eq_false GR.out, if_neg (fun h => h.elim (fun h => by cases h) (fun h => by cases h))] at hr2
    refine bodyPost_ret (results_row_tmp Tryz.results75 _ _ w.heap.size 33 suZ.v (0, 0) _ rfl (setRow_heap _ _ _ suZ.v _ _ H43.out) Tryz.underlying33 rfl (suZ.info suZ_len)) rfl ?_
    exact ⟨by rw [hr1, hr2]; rfl, below_setRow (below_then B2 hUb) (Nat.le_refl _) _⟩
  ·have kb := eqz F qF
   have gr : ¬ (F = 0 ∧ y.g % 2 = 1) := fun h => qF h.1
   have GR := Lib.hid gr
   clear gr qF
   go_wp2_with (first | (refine wpList_store_row rfl 33 _ _ rfl w2.heap.size y.v rfl rfl 33 suZ.v HA2.out (y.info HYL.out) (Su.size _ _ suZ_len HYL.out) (suV_one ..) ?_; obtain ⟨U, hU⟩ : ∃ V, V = (w2.alloc (.cells zz1 33)).setRow w2.heap.size y.v := ⟨_, rfl⟩; rw [← hU]; obtain ⟨hUr, hUb, hUz⟩ := storedZ _ hU; have hx3 := (hUb.block w1.heap.size (by omega)).trans HX2.out; have h43 := (hUb.block w.heap.size (by omega)).trans H42.out; have cx := Su.cell0 hx3; have cy := Su.cell0 hUr; have HUR := Lib.hid hUr; have HX3 := Lib.hid hx3; have H43 := Lib.hid h43; clear hU hUr hx3 h43) | (refine wpList_store_row rfl 33 _ _ rfl w.heap.size suZ.v rfl rfl 33 suZ.v H43.out (suZ.info suZ_len) (Su.size _ _ suZ_len suZ_len) (suV_one ..) ?_))
   have hr1 := HCH.out
   have hr2 := HCE.out
   rw [decide_eq_false GL.out, decide_eq_false GR.out, if_neg (fun h => by cases h.1), if_neg (fun h => by cases h)] at hr1
   rw [decide_eq_false GL.out, decide_eq_false GR.out, if_neg (fun h => h.elim (fun h => by cases h) (fun h => by cases h))] at hr2
   refine bodyPost_ret (results_row_tmp Tryz.results75 _ _ w.heap.size 33 suZ.v (0, 0) _ rfl (setRow_heap _ _ _ suZ.v _ _ H43.out) Tryz.underlying33 rfl (suZ.info suZ_len)) rfl ?_
   exact ⟨by rw [hr1, hr2]; rfl, below_setRow (below_then B2 hUb) (Nat.le_refl _) _⟩
set_option maxHeartbeats 8000000
section
variable {ops : Array Oper} {rest : List Oper} {o : Oper} {a : Act} {w : World} {Q : Exit → Act → World → Prop}
theorem su_load (hgd : o.guard = none) (x : Operand) (ho : o.op = .load 33 x) (h : Nat) (hx : a.eval x = .pointer (some ⟨h, 0, none⟩)) (y : Su) (hrow : w.heap[h]? = some (.cells y.v 33 (0, 0))) (hl : y.D.length = 32)
  (hK : wpList Tryz.prog ops Q rest (a.put o.dst (.agg y.v)) w) : wpList Tryz.prog ops Q (o :: rest) a w :=
 wpList_load_row hgd 33 x ho h hx 33 y.v (0, 0) _ hrow Tryz.underlying33 rfl (y.info hl) hK
theorem su_store (hgd : o.guard = none) (x z : Operand) (ho : o.op = .store 33 x z) (h : Nat) (hx : a.eval x = .pointer (some ⟨h, 0, none⟩)) (y old : Su) (hz : a.eval z = .agg y.v) (hrow : w.heap[h]? = some (.cells old.v 33 (0, 0))) (hl : y.D.length = 32) (ho2 : old.D.length = 32)
  (hK : wpList Tryz.prog ops Q rest (a.put o.dst undef) (w.setRow h y.v)) : wpList Tryz.prog ops Q (o :: rest) a w :=
 wpList_store_row hgd 33 x z ho h y.v hx hz 33 old.v hrow (y.info hl) (Su.size _ _ ho2 hl) (suV_one ..) hK
end
set_option maxHeartbeats 8000000
def RetLd (w : World) (S : Su) (st : List UInt8) (rs : List Rc) (er : Int) (e : Ending) (w' : World) : Prop := ∃ A n c B m d, e = .returned (.tuple #[.agg S.v, .slice A n c, .slice B m d, .int .i64 er]) ∧ OwnB w' w.heap.size A n c st ∧ OwR w' w.heap.size B m d rs ∧ Below w.heap.size w w'
theorem retLd_none {w X : World} (er : Int) (hb : Below w.heap.size w X) : RetLd w suZ [] [] er (.returned (.tuple #[.agg suZ.v, .slice none 0 0, .slice none 0 0, .int .i64 er])) X := ⟨none, 0, 0, none, 0, 0, rfl, OwnB.nilB _ _, owR_nil _ _, hb⟩
theorem dresults1333 {P : Program} {fn : Func} {p q s u : Tmp} {ty : TypeId} (h : fn.results = #[.cell p ty, .tmp q, .tmp s, .tmp u]) (tmps : Array Value) (w : World) (g : Nat) (t : TypeId) (cs : Array Value) (fr : Nat × Nat) (d : TypeDesc)
  (hp : tmps.getD p undef = .pointer (some ⟨g, 0, none⟩)) (hg : w.heap[g]? = some (.cells cs t fr))
  (hu : P.underlying ty = some d) (hd : (match d with | .struct _ | .array _ _ => true | _ => false) = true) (hi : (P.info? ty).map (·.size) = some cs.size) :
  (results fn tmps).run P w = .ok (.tuple #[.agg cs, tmps.getD q undef, tmps.getD s undef, tmps.getD u undef]) w := by
 have hp' : tmps[p]?.getD undef = .pointer (some ⟨g, 0, none⟩) := by simpa using hp
 simp [results, h, hp', asAddr, run_loadVar_row w g t ty cs fr d hg hu hd hi]
theorem suNoneB (w : World) : (Instr.build 33 #[]).run Tryz.prog w = .ok (.agg suZ.v) w := run_build w _ _ _ (by show Tryz.prog.built _ _ = some _; kernel_rfl)
theorem suZ_32 : suZ.D.length = 32 := rfl
set_option maxRecDepth 100000 in
theorem jrnLoad_form (AV : Array Value) (D : Dk) (w : World) (v : DkVal AV w D) (er : Int) (h : (dkOk D = false ∧ er = 3) ∨ (dkOk D = true ∧ D.s.length < 98 ∧ er = 5)) :
  Calls Tryz.prog 31 #[.agg AV] w (RetLd w suZ [] [] er) := by
 obtain ⟨Z0, hZ0⟩ : ∃ Z0 : Array Value, #[.int .u32 0, .int .i64 0, .int .i64 0, .int .u8 0, .int .u8 0, .int .u8 0, .int .u8 0, .int .u8 0, .int .u8 0, .int .u8 0, .int .u8 0, .int .u8 0, .int .u8 0, .int .u8 0, .int .u8 0, .int .u8 0, .int .u8 0, .int .u8 0, .int .u8 0, .int .u8 0, .int .u8 0, .int .u8 0, .int .u8 0, .int .u8 0, .int .u8 0, .int .u8 0, .int .u8 0, .int .u8 0, .int .u8 0, .int .u8 0, .int .u8 0, .int .u8 0, .int .u8 0, .int .u8 0, .int .u8 0] = Z0 := ⟨_, rfl⟩
 have hZe : Z0 = suZ.v := by rw [← hZ0]; rfl
 have HZ0 := Lib.hid hZ0
 obtain ⟨V, hV⟩ : ∃ V, V = (w.alloc (.cells AV 40)).alloc (.cells Z0 33) := ⟨_, rfl⟩
 have bV : Below w.heap.size w V := by rw [hV]; exact ((below_self w).alloc (Nat.le_refl _) _).alloc (by simp) _
 have zV : Hid (V.heap.size = w.heap.size + 2) := by rw [hV]; exact Lib.hid (by simp)
 have qV : Hid (DkV V w.heap.size AV D) := Lib.hid ⟨by rw [hV]; exact drw_old _ (drw_at _ rfl), v.below bV⟩
 have rV : Hid (V.heap[w.heap.size + 1]? = some (.cells suZ.v 33 (0, 0))) := by rw [hV, hZe]; exact Lib.hid (drw_at _ (by simp))
 have HV := Lib.hid hV
 have C1 := Lib.hid (vCheck qV.out.2)
 obtain ⟨NV, hNV⟩ : ∃ z, z = suZ.v := ⟨_, rfl⟩
 have NB := Lib.hid suNoneB
 rw [← hNV] at NB
 have HNV := Lib.hid hNV
 have hs63 : ∃ K0 kc0 vs0, V.cell? ⟨w.heap.size, 0, none⟩ = some (.slice K0 D.s.length kc0) ∧ RdSS V K0 D.s.length kc0 vs0 D.s := qV.out.c0
 have HS := Lib.hid hs63
 clear hV hZ0 hZe v hNV hs63
 rcases h with ⟨h, rfl⟩ | ⟨h, h2, rfl⟩
 ·rw [h] at C1
  clear h
  go_enter Tryz.func31, Tryz.ntmps31
  go_wp2_with (first | (rw [HZ0.out, ← HV.out]) | (refine dk_load rfl _ rfl rfl qV.out ?_))
  refine C1.out.mono ?_
  rintro e w1 ⟨rfl, hb1⟩
  have r1 := Lib.hid (drw_up rV.out hb1)
  go_wp2_with (first | (refine wpList_of_exec rfl (rex_build rfl #[] rfl (NB.out _)) ?_) | (refine su_store rfl _ _ rfl (w.heap.size + 1) rfl suZ suZ (congrArg Value.agg HNV.out) r1.out suZ_32 suZ_32 ?_))
  refine bodyPost_ret (dresults1333 Tryz.results31 _ _ (w.heap.size + 1) 33 suZ.v (0, 0) _ rfl (setRow_heap _ _ _ suZ.v _ _ r1.out) Tryz.underlying33 rfl (suZ.info suZ_32)) rfl ?_
  exact retLd_none _ (below_setRow (below_then bV hb1) (by omega) _)
 ·rw [h] at C1
  clear h
  have d1 : decide ((D.s.length : Int) < 98) = true := decide_eq_true (by omega)
  have d2 : D.s.length < 98 := h2
  go_enter Tryz.func31, Tryz.ntmps31
  go_wp2_with (first | (rw [HZ0.out, ← HV.out]) | (refine dk_load rfl _ rfl rfl qV.out ?_))
  refine C1.out.mono ?_
  rintro e w1 ⟨rfl, hb1⟩
  have r1 := Lib.hid (drw_up rV.out hb1)
  obtain ⟨K0, kc0, vs0, hc0, _⟩ := (qV.out.up hb1).c0
  go_wp2_with (first | (refine wpList_of_exec rfl (rex_build rfl #[] rfl (NB.out _)) ?_) | (refine su_store rfl _ _ rfl (w.heap.size + 1) rfl suZ suZ (congrArg Value.agg HNV.out) r1.out suZ_32 suZ_32 ?_))
  refine bodyPost_ret (dresults1333 Tryz.results31 _ _ (w.heap.size + 1) 33 suZ.v (0, 0) _ rfl (setRow_heap _ _ _ suZ.v _ _ r1.out) Tryz.underlying33 rfl (suZ.info suZ_32)) rfl ?_
  exact retLd_none _ (below_setRow (below_then bV hb1) (by omega) _)
theorem dgs_eq (P Q : List UInt8) (hP : P.length = 32) (hQ : Q.length = 32) (W : World) : (Op.equalIn 10000 30 (.agg (dgA P)) (.agg (dgA Q))).run Tryz.prog W = .ok (decide (P = Q)) W := run_eqIn_digest 9996 W P Q hP hQ
theorem suCh_chk (a b : List UInt8) (h : suChE a b = 0) : suCheck (suCh a b).s (suCh a b).l = true := by
 have hg : ∀ x k, suGood x k = true → suCheck (suGet x).s (suGet x).l = true := fun x k hx => (suGet_ok x (of_decide_eq_true hx).1).2.2.2.1
 unfold suChE at h
 split at h
 ·rename_i hc
  unfold suCh
  split
  ·rename_i h1; exact hg _ _ h1.1
  ·split
   ·rename_i h1; exact hg _ _ h1
   ·rename_i h1 h2
    exfalso
    rcases hc with hc | hc
    ·exact h1 ⟨hc, .inl (by simpa using h2)⟩
    ·exact h2 hc
 ·cases h
set_option maxRecDepth 100000 in
theorem jrnLoad_go (AV : Array Value) (D : Dk) (w : World) (v : DkVal AV w D) (hok : dkOk D = true) (hl : 98 ≤ D.s.length) :
  Calls Tryz.prog 31 #[.agg AV] w (fun e w' =>
   (suChE (dkRead D 0) (dkRead D 1) ≠ 0 → RetLd w suZ [] [] (suChE (dkRead D 0) (dkRead D 1)) e w') ∧
   (suChE (dkRead D 0) (dkRead D 1) = 0 → jnBase (jnHad D (jnLoadS D)) ≠ (jnLoadS D).D → RetLd w suZ [] [] 6 e w') ∧
   (suChE (dkRead D 0) (dkRead D 1) = 0 → jnBase (jnHad D (jnLoadS D)) = (jnLoadS D).D → RetLd w (jnLoadS D) (jnHad D (jnLoadS D)) (jnLoadR D) 0 e w')) := by
 obtain ⟨Z0, hZ0⟩ : ∃ Z0 : Array Value, #[.int .u32 0, .int .i64 0, .int .i64 0, .int .u8 0, .int .u8 0, .int .u8 0, .int .u8 0, .int .u8 0, .int .u8 0, .int .u8 0, .int .u8 0, .int .u8 0, .int .u8 0, .int .u8 0, .int .u8 0, .int .u8 0, .int .u8 0, .int .u8 0, .int .u8 0, .int .u8 0, .int .u8 0, .int .u8 0, .int .u8 0, .int .u8 0, .int .u8 0, .int .u8 0, .int .u8 0, .int .u8 0, .int .u8 0, .int .u8 0, .int .u8 0, .int .u8 0, .int .u8 0, .int .u8 0, .int .u8 0] = Z0 := ⟨_, rfl⟩
 have hZe : Z0 = suZ.v := by rw [← hZ0]; rfl
 have HZ0 := Lib.hid hZ0
 have HZE := Lib.hid hZe
 obtain ⟨V, hV⟩ : ∃ V, V = (w.alloc (.cells AV 40)).alloc (.cells Z0 33) := ⟨_, rfl⟩
 have bV : Below w.heap.size w V := by rw [hV]; exact ((below_self w).alloc (Nat.le_refl _) _).alloc (by simp) _
 have zV : Hid (V.heap.size = w.heap.size + 2) := by rw [hV]; exact Lib.hid (by simp)
 have qV : Hid (DkV V w.heap.size AV D) := Lib.hid ⟨by rw [hV]; exact drw_old _ (drw_at _ rfl), v.below bV⟩
 have rV : Hid (V.heap[w.heap.size + 1]? = some (.cells suZ.v 33 (0, 0))) := by rw [hV, hZe]; exact Lib.hid (drw_at _ (by simp))
 have HV := Lib.hid hV
 have C1 := Lib.hid (vCheck qV.out.2)
 rw [hok] at C1
 have C2 := Lib.hid (fun W (u : DkVal AV W D) => vRead u 0 (by omega))
 have C3 := Lib.hid (fun W (u : DkVal AV W D) => vRead u 1 (by omega))
 rw [show dkAsk D 0 = 0 from dkAsk_in D hok 0 (by omega)] at C2
 rw [show dkAsk D 1 = 0 from dkAsk_in D hok 1 (by omega)] at C3
 obtain ⟨X0, hX0⟩ : ∃ q, dkRead D 0 = q := ⟨_, rfl⟩
 obtain ⟨X1, hX1⟩ : ∃ q, dkRead D 1 = q := ⟨_, rfl⟩
 obtain ⟨SU, hSU⟩ : ∃ q, jnLoadS D = q := ⟨_, rfl⟩
 have hSU2 : suCh X0 X1 = SU := by rw [← hX0, ← hX1]; exact hSU
 rw [hX0] at C2 ⊢
 rw [hX1] at C3 ⊢
 rw [hSU]
 obtain ⟨E, hE⟩ : ∃ q, suChE X0 X1 = q := ⟨_, rfl⟩
 rw [hE]
 have C4 := Lib.hid (fun (A B : Option Addr) (n c m d : Nat) W (a : RdB W A n c X0) (b : RdB W B m d X1) => suChoose_any A n c X0 B m d X1 W a b)
 rw [hSU2, hE] at C4
 obtain ⟨NV, hNV⟩ : ∃ z, z = suZ.v := ⟨_, rfl⟩
 have NB := Lib.hid suNoneB
 rw [← hNV] at NB
 have HNV := Lib.hid hNV
 have d1 : decide ((D.s.length : Int) < 98) = false := decide_eq_false (by omega)
 have d2 : ¬ D.s.length < 98 := by omega
 have hSUl : SU.D.length = 32 ∧ SU.g < 4294967296 := by
  rw [← hSU2]; unfold suCh
  split
  ·exact ⟨suGet_len _, (suGet_bounds _).1⟩
  ·split
   ·exact ⟨suGet_len _, (suGet_bounds _).1⟩
   ·exact ⟨rfl, by decide⟩
 have HSL := Lib.hid hSUl
 have HOK := Lib.hid hok
 have HLN := Lib.hid hl
 have HE := Lib.hid hE
 have HSU := Lib.hid hSU
 have HSU2 := Lib.hid hSU2
 clear hV hZ0 hZe v hNV hX0 hX1 hSU hSU2 hE hSUl hok hl
 go_enter Tryz.func31, Tryz.ntmps31
 go_wp2_with (first | (rw [HZ0.out, ← HV.out]) | (refine dk_load rfl _ rfl rfl qV.out ?_))
 refine C1.out.mono ?_
 rintro e w1 ⟨rfl, hb1⟩
 have q1 := Lib.hid (qV.out.up hb1)
 obtain ⟨K0, kc0, vs0, hc0, hss⟩ := q1.out.c0
 clear hss
 go_wp2_with (refine dk_load rfl _ rfl rfl q1.out ?_)
 refine (C2.out w1 q1.out.2).mono ?_
 rintro e w2 ⟨A2, n2, c2, rfl, o2, b2⟩
 have q2 := Lib.hid (q1.out.up b2)
 have O2 := Lib.hid o2.rd
 clear o2 hc0
 go_wp2_with (refine dk_load rfl _ rfl rfl q2.out ?_)
 refine (C3.out w2 q2.out.2).mono ?_
 rintro e w3 ⟨A3, n3, c3, rfl, o3, b3⟩
 have q3 := Lib.hid (q2.out.up b3)
 have O3 := Lib.hid o3.rd
 clear o3
 go_wp2_with fail
 refine (C4.out A2 A3 n2 c2 n3 c3 w3 (O2.out.below b3) O3.out).mono ?_
 rintro e w4 ⟨rfl, b4⟩
 have r4 := Lib.hid (drw_up (drw_up (drw_up (drw_up rV.out hb1) b2) b3) b4)
 have q4 := Lib.hid (q3.out.up b4)
 have B4 := Lib.hid (below_then bV (below_then hb1 (below_then b2 (below_then b3 b4))))
 obtain ⟨V5, hV5⟩ : ∃ W, W = w4.alloc (.cells Z0 33) := ⟨_, rfl⟩
 have b5 : Below w4.heap.size w4 V5 := by rw [hV5]; exact (below_self w4).alloc (Nat.le_refl _) _
 have r5 : Hid (V5.heap[w4.heap.size]? = some (.cells suZ.v 33 (0, 0))) := by rw [hV5, HZE.out]; exact Lib.hid (drw_at _ rfl)
 have HV5 := Lib.hid hV5
 obtain ⟨V6, hV6⟩ : ∃ W, W = V5.setRow w4.heap.size SU.v := ⟨_, rfl⟩
 have s6 : Hid (V6.heap[w4.heap.size]? = some (.cells SU.v 33 (0, 0))) := by rw [hV6]; exact Lib.hid (setRow_heap _ _ _ _ _ _ r5.out)
 have b6 : Below w4.heap.size w4 V6 := by rw [hV6]; exact below_setRow b5 (Nat.le_refl _) _
 have HV6 := Lib.hid hV6
 have q6 := Lib.hid (q4.out.up b6)
 have r6 := Lib.hid (drw_up r4.out b6)
 have B6 := Lib.hid (below_then B4.out b6)
 clear hV5 hV6
 by_cases hE0 : E = 0
 ·subst hE0
  have hck : suCheck SU.s SU.l = true := by rw [← HSU2.out]; exact suCh_chk _ _ HE.out
  have HCK := Lib.hid hck
  clear hck
  go_wp2_with (first | (rw [HZ0.out, ← HV5.out]; refine su_store rfl _ _ rfl w4.heap.size rfl SU suZ rfl r5.out HSL.out.1 suZ_32 ?_; rw [← HV6.out]) | (refine dk_load rfl _ rfl rfl q6.out ?_) | (refine su_load rfl _ rfl w4.heap.size rfl SU s6.out HSL.out.1 ?_))
  refine (jrnState_any AV D SU V6 q6.out.2 HOK.out HLN.out HCK.out HSL.out.1).mono ?_
  rintro e w7 ⟨A7, n7, c7, rfl, o7, b7⟩
  have q7 := Lib.hid (q6.out.up b7)
  have s7 := Lib.hid (drw_up s6.out b7)
  have r7 := Lib.hid (drw_up r6.out b7)
  have B7 := Lib.hid (below_then B6.out b7)
  obtain ⟨HA, hHA⟩ : ∃ q, jnHad D SU = q := ⟨_, rfl⟩
  rw [hHA] at o7
  have O7 := Lib.hid o7
  have HHA := Lib.hid hHA
  have hn7 : n7 ≤ 12288 := by
   have h1 := o7.len
   have h2 := of_decide_eq_true HCK.out
   rw [← h1, ← hHA]; unfold jnHad; rw [List.length_take]; omega
  obtain ⟨BD, hBD⟩ : ∃ q, jnBase HA = q := ⟨jnBase HA, rfl⟩
  have C8 := Lib.hid (fun W (h : RdB W A7 n7 c7 HA) => jrnBase_any A7 n7 c7 HA W h (by omega))
  rw [hBD] at C8
  have HBD := Lib.hid hBD
  have hBl : BD.length = 32 := by rw [← hBD]; exact shOf_len _
  have HBL := Lib.hid hBl
  clear o7 hHA hBD hBl
  have lo7 : w.heap.size + 1 < w4.heap.size := drw_lt r4.out
  by_cases hd : BD = SU.D
  ·have HD := Lib.hid hd
   have eq1 : ∀ W : World, (Op.equalIn 10000 30 (.agg (dgA BD)) (.agg (dgA SU.D))).run Tryz.prog W = .ok true W := fun W => by have := dgs_eq BD SU.D HBL.out HSL.out.1 W; rw [decide_eq_true hd] at this; exact this
   have EQ := Lib.hid eq1
   clear eq1 hd
   go_wp2_with fail
   refine wp_region_seg (S := fun w' => Below w7.heap.size w7 w') 0 #[true, true, true, true, true] [(0, true), (2, true), (3, true), (1, false), (4, true)] (by kernel_rfl) (by kernel_rfl) (fun _ _ d _ _ h => by first | (cases d <;> exact h) | cases h.1) ((Below.refl w7.heap.size w7).drew) ?_
   have HB := (Below.refl w7.heap.size w7).drew
   iterate 2 (refine seg_take (v := ?_) rfl (Or.inl ⟨by rfl, ?_⟩) ?_; rotate_left; (focus (intro w' hw'; go_simp <;> with_reducible rfl)); try simp only [Act.put, pst3])
   refine seg_take (v := .agg (dgA SU.D)) rfl (Or.inl ⟨by rfl, fun w' hw' => ?_⟩) ?_
   focus (exact rex_load rfl rfl (run_loadVar_mid w' w4.heap.size 3 30 (SU.D.map vB) _ (sup_dig (drw_up s7.out hw')) Tryz.underlying30 rfl (by rw [List.length_map, HSL.out.1]; kernel_rfl)))
   try simp only [Act.put, pst3]
   refine seg_run rfl (fun K hK => ?_)
   go_simp
   refine (C8.out _ (O7.out.rd.below HB)).mono ?_
   rintro e_ wA ⟨rfl, hbA⟩
   have HB := below_then HB hbA
   refine hK.out _ _ (HB) ?_
   clear hK
   try simp only [Act.put, pst3]
   refine seg_take (v := .bool false) rfl (Or.inl ⟨by rfl, fun w' hw' => ?_⟩) ?_
   focus (have hq := EQ.out w'; go_simp)
   try simp only [Act.put, pst3]
   refine seg_done (fun _ => ?_)
   refine wpAnyH_done (by kernel_rfl) ?_ _
   skip
   have BA := Lib.hid HB
   have q8 := Lib.hid (drw_up q7.out.1 HB)
   have v8 := Lib.hid (q7.out.2.below HB)
   have s8 := Lib.hid (drw_up s7.out HB)
   have r8 := Lib.hid (drw_up r7.out HB)
   have O8 := Lib.hid (O7.out.upB HB)
   have C9 := Lib.hid (fun W (u : DkVal AV W D) => jrnRecords_any AV D SU W u HOK.out HLN.out HSL.out.2 HSL.out.1)
   go_wp2_with fail
   refine wp_region_seg (S := fun w' => w'.heap[w.heap.size]? = some (.cells AV 40 (0, 0)) ∧ w'.heap[w4.heap.size]? = some (.cells SU.v 33 (0, 0))) 0 (brw9 9 511) [(0, true), (1, true), (2, true), (3, true), (4, false), (5, false), (6, true), (7, true), (8, true)] (by kernel_rfl) (by kernel_rfl) (fun _ _ d _ _ h => by first | (cases d <;> exact h) | cases h.1) (And.intro q8.out s8.out) ?_
   have HB := And.intro q8.out s8.out
   refine seg_take (v := .agg SU.v) rfl (Or.inl ⟨by rfl, fun w' hw' => ?_⟩) ?_
   focus (exact rex_load rfl rfl (run_loadVar_row w' w4.heap.size 33 33 _ (0, 0) _ hw'.2 Tryz.underlying33 rfl (SU.info HSL.out.1)))
   try simp only [Act.put, pst3]
   iterate 1 (refine seg_take (v := ?_) rfl (Or.inl ⟨by rfl, ?_⟩) ?_; rotate_left; (focus (intro w' hw'; go_simp <;> with_reducible rfl)); try simp only [Act.put, pst3])
   refine seg_take (v := .agg AV) rfl (Or.inl ⟨by rfl, fun w' hw' => ?_⟩) ?_
   focus (exact rex_load rfl rfl (run_loadVar_row w' w.heap.size 40 40 _ (0, 0) _ hw'.1 Tryz.underlying40 rfl v8.out.info))
   try simp only [Act.put, pst3]
   refine seg_take (v := .agg SU.v) rfl (Or.inl ⟨by rfl, fun w' hw' => ?_⟩) ?_
   focus (exact rex_load rfl rfl (run_loadVar_row w' w4.heap.size 33 33 _ (0, 0) _ hw'.2 Tryz.underlying33 rfl (SU.info HSL.out.1)))
   try simp only [Act.put, pst3]
   refine seg_run rfl (fun K hK => ?_)
   go_simp
   refine (C9.out wA.drew (v8.out.below (Below.refl _ wA).drew)).mono ?_
   rintro e_ wB ⟨A9, n9, c9, rfl, o9, b9⟩
   have HB := And.intro ((b9.block _ (drw_lt HB.1)).trans HB.1) ((b9.block _ (drw_lt HB.2)).trans HB.2)
   refine hK.out _ _ (HB) ?_
   clear hK
   try simp only [Act.put, pst3]
   refine seg_run rfl (fun K hK => ?_)
   rw [if_pos (by rfl)]
   refine wp_store_row 33 _ _ rfl (w.heap.size + 1) SU.v rfl rfl 33 suZ.v ((b9.block _ (drw_lt r8.out)).trans r8.out) (SU.info HSL.out.1) (Su.size _ _ suZ_32 HSL.out.1) (suV_one ..) ?_
   have HB := And.intro ((setRow_other wB (w.heap.size + 1) w.heap.size SU.v (by omega)).trans HB.1) ((setRow_other wB (w.heap.size + 1) w4.heap.size SU.v (by omega)).trans HB.2)
   refine hK.out _ _ (HB) ?_
   clear hK
   try simp only [Act.put, pst3]
   iterate 3 (refine seg_take (v := ?_) rfl (Or.inl ⟨by rfl, ?_⟩) ?_; rotate_left; (focus (intro w' hw'; go_simp <;> with_reducible rfl)); try simp only [Act.put, pst3])
   refine seg_done (fun _ => ?_)
   refine wpAnyH_done (by kernel_rfl) ?_ _
   skip
   go_wp2_with fail
   refine bodyPost_ret (dresults1333 Tryz.results31 _ _ (w.heap.size + 1) 33 SU.v (0, 0) _ rfl (setRow_heap _ _ _ SU.v _ _ ((b9.block _ (drw_lt r8.out)).trans r8.out)) Tryz.underlying33 rfl (SU.info HSL.out.1)) rfl ?_
   have hsB : V6.heap.size + 0 ≤ wA.heap.size := by have := b7.size; have := BA.out.size; omega
   have hb0 : w.heap.size + 2 ≤ V6.heap.size := by have := b6.size; omega
   have bX : Below w.heap.size w (wB.setRow (w.heap.size + 1) SU.v) := below_setRow (below_then (below_then B7.out BA.out).drew b9) (by omega) _
   have hag : AgrP (fun j => j = w.heap.size + 1) wB (wB.setRow (w.heap.size + 1) SU.v) := ⟨by simp, fun j _ hn => setRow_other _ _ _ _ hn⟩
   refine ⟨fun h => absurd (by rw [HHA.out, HBD.out]; exact HD.out) h, fun _ => ⟨A7, n7, c7, A9, n9, c9, rfl, ?_, ?_, bX⟩⟩
   ·rw [HHA.out]
    have o1 : OwnB wB V6.heap.size A7 n7 c7 HA := OwnB.upB (w := wA.drew) O8.out b9
    have o2 : OwnB (wB.setRow (w.heap.size + 1) SU.v) V6.heap.size A7 n7 c7 HA := own_agr0 o1 hag (fun j hj => by omega)
    exact own_mono o2 (by omega)
   ·unfold jnLoadR
    rw [HSU.out]
    exact (o9.agr hag (fun j hj => by have : wA.drew.heap.size = wA.heap.size := rfl; omega)).mono (by have : wA.drew.heap.size = wA.heap.size := rfl; omega)
  ·have HD := Lib.hid hd
   have eq1 : ∀ W : World, (Op.equalIn 10000 30 (.agg (dgA BD)) (.agg (dgA SU.D))).run Tryz.prog W = .ok false W := fun W => by have := dgs_eq BD SU.D HBL.out HSL.out.1 W; rw [decide_eq_false hd] at this; exact this
   have EQ := Lib.hid eq1
   clear eq1 hd
   go_wp2_with fail
   refine wp_region_seg (S := fun w' => Below w7.heap.size w7 w') 0 #[true, true, true, true, true] [(0, true), (2, true), (3, true), (1, false), (4, true)] (by kernel_rfl) (by kernel_rfl) (fun _ _ d _ _ h => by first | (cases d <;> exact h) | cases h.1) ((Below.refl w7.heap.size w7).drew) ?_
   have HB := (Below.refl w7.heap.size w7).drew
   iterate 2 (refine seg_take (v := ?_) rfl (Or.inl ⟨by rfl, ?_⟩) ?_; rotate_left; (focus (intro w' hw'; go_simp <;> with_reducible rfl)); try simp only [Act.put, pst3])
   refine seg_take (v := .agg (dgA SU.D)) rfl (Or.inl ⟨by rfl, fun w' hw' => ?_⟩) ?_
   focus (exact rex_load rfl rfl (run_loadVar_mid w' w4.heap.size 3 30 (SU.D.map vB) _ (sup_dig (drw_up s7.out hw')) Tryz.underlying30 rfl (by rw [List.length_map, HSL.out.1]; kernel_rfl)))
   try simp only [Act.put, pst3]
   refine seg_run rfl (fun K hK => ?_)
   go_simp
   refine (C8.out _ (O7.out.rd.below HB)).mono ?_
   rintro e_ wA ⟨rfl, hbA⟩
   have HB := below_then HB hbA
   refine hK.out _ _ (HB) ?_
   clear hK
   try simp only [Act.put, pst3]
   refine seg_take (v := .bool true) rfl (Or.inl ⟨by rfl, fun w' hw' => ?_⟩) ?_
   focus (have hq := EQ.out w'; go_simp)
   try simp only [Act.put, pst3]
   refine seg_done (fun _ => ?_)
   refine wpAnyH_done (by kernel_rfl) ?_ _
   skip
   have BA := Lib.hid HB
   have r8 := Lib.hid (drw_up r7.out HB)
   go_wp2_with (first | (refine wpList_of_exec rfl (rex_build rfl #[] rfl (NB.out _)) ?_) | (refine su_store rfl _ _ rfl (w.heap.size + 1) rfl suZ suZ (congrArg Value.agg HNV.out) r8.out suZ_32 suZ_32 ?_))
   refine bodyPost_ret (dresults1333 Tryz.results31 _ _ (w.heap.size + 1) 33 suZ.v (0, 0) _ rfl (setRow_heap _ _ _ suZ.v _ _ r8.out) Tryz.underlying33 rfl (suZ.info suZ_32)) rfl ?_
   refine ⟨fun _ => retLd_none _ (below_setRow (below_then B7.out BA.out) (by omega) _), fun h => absurd (by rw [← HBD.out, ← HHA.out]; exact h) HD.out⟩
 ·have e5 : (E != 0) = true := by simpa using hE0
  have HE0 := Lib.hid hE0
  clear hE0
  go_wp2_with (first | (rw [HZ0.out, ← HV5.out]; refine su_store rfl _ _ rfl w4.heap.size rfl SU suZ rfl r5.out HSL.out.1 suZ_32 ?_; rw [← HV6.out]) | (refine wpList_of_exec rfl (rex_build rfl #[] rfl (NB.out _)) ?_) | (refine su_store rfl _ _ rfl (w.heap.size + 1) rfl suZ suZ (congrArg Value.agg HNV.out) r6.out suZ_32 suZ_32 ?_))
  refine bodyPost_ret (dresults1333 Tryz.results31 _ _ (w.heap.size + 1) 33 suZ.v (0, 0) _ rfl (setRow_heap _ _ _ suZ.v _ _ r6.out) Tryz.underlying33 rfl (suZ.info suZ_32)) rfl ?_
  exact ⟨fun _ => retLd_none _ (below_setRow B6.out (by omega) _), fun h => absurd h HE0.out, fun h => absurd h HE0.out⟩
theorem jrnLoad_any (AV : Array Value) (D : Dk) (w : World) (v : DkVal AV w D) :
  Calls Tryz.prog 31 #[.agg AV] w (fun e w' => (jnLoadE D = 0 → RetLd w (jnLoadS D) (jnHad D (jnLoadS D)) (jnLoadR D) 0 e w') ∧ (jnLoadE D ≠ 0 → RetLd w suZ [] [] (jnLoadE D) e w')) := by
 cases hok : dkOk D with
 | false =>
  have e : jnLoadE D = 3 := by unfold jnLoadE; rw [if_pos hok]
  rw [e]
  exact (jrnLoad_form AV D w v 3 (.inl ⟨hok, rfl⟩)).mono fun _ _ h => ⟨fun h3 => absurd h3 (by decide), fun _ => h⟩
 | true =>
  by_cases hl : D.s.length < 98
  ·have e : jnLoadE D = 5 := by unfold jnLoadE; rw [if_neg (by simp [hok]), if_pos hl]
   rw [e]
   exact (jrnLoad_form AV D w v 5 (.inr ⟨hok, hl, rfl⟩)).mono fun _ _ h => ⟨fun h3 => absurd h3 (by decide), fun _ => h⟩
  ·refine (jrnLoad_go AV D w v hok (by omega)).mono fun e w' ⟨h1, h2, h3⟩ => ?_
   by_cases hE : suChE (dkRead D 0) (dkRead D 1) = 0
   ·by_cases hB : jnBase (jnHad D (jnLoadS D)) = (jnLoadS D).D
    ·have e : jnLoadE D = 0 := by unfold jnLoadE; rw [if_neg (by simp [hok]), if_neg hl, if_neg (fun h => h hE), if_neg (fun h => h hB)]
     rw [e]
     exact ⟨fun _ => h3 hE hB, fun h => absurd rfl h⟩
    ·have e : jnLoadE D = 6 := by unfold jnLoadE; rw [if_neg (by simp [hok]), if_neg hl, if_neg (fun h => h hE), if_pos hB]
     rw [e]
     exact ⟨fun h => absurd h (by decide), fun _ => h2 hE hB⟩
   ·have e : jnLoadE D = suChE (dkRead D 0) (dkRead D 1) := by unfold jnLoadE; rw [if_neg (by simp [hok]), if_neg hl, if_pos hE]
    rw [e]
    exact ⟨fun h => absurd h hE, fun _ => h1 hE⟩
end Go.Proofs.YtpahicfnhhhifaaGreat
