/-
  Layer 13: the document's Home, Place, Choose.
-/
import Derived.Test.YtmbdfanaegadjaaSupG
namespace Go.Proofs.Ytmbdfanaegadjaa
set_option maxRecDepth 20000
open Go.RowKit
set_option linter.unusedVariables false
set_option linter.unusedSimpArgs false
set_option maxHeartbeats 8000000

theorem refsuHome_any (g : Nat) (w : World) (hg : g < 4294967296) : Calls Try.prog 21 #[.int .u32 g] w fun e w' => e = .returned (.int .i64 (g % 2 : Nat)) ∧ w = w' := by
  have w1 : IntKind.i64.wrap ((g : Int).tmod 2) = ((g % 2 : Nat) : Int) := by rw [Int.tmod_eq_emod_of_nonneg (by omega)]; exact wi64n (k := g % 2) (by omega)
  go_enter Try.func21, Try.ntmps21
  go_wp2
  go_ret
  exact ⟨rfl, rfl⟩
theorem refsuPlace_any (s : Int) (w : World) : Calls Try.prog 23 #[.int .i64 s] w fun e w' => e = .returned (.int .i64 (if s = 0 then 2 else 50)) ∧ w = w' := by
  by_cases h : s = 0
  · subst h
    go_enter Try.func23, Try.ntmps23
    go_wp2
    go_ret
    exact ⟨rfl, rfl⟩
  · rw [if_neg h]
    have d : decide (s = 0) = false := decide_eq_false h
    go_enter Try.func23, Try.ntmps23
    go_wp2
    go_ret
    exact ⟨rfl, rfl⟩
theorem eqz (E : Int) (h : ¬ E = 0) : (E == 0) = false := by rw [beq_eq_false_iff_ne]; exact h
theorem refsuChoose_any (A : Option Addr) (n c : Nat) (xs : List UInt8) (B : Option Addr) (m d : Nat) (ys : List UInt8) (w : World) (ha : RdB w A n c xs) (hb : RdB w B m d ys) :
    Calls Try.prog 27 #[.slice A n c, .slice B m d] w (RetSu w (suCh xs ys) (suChE xs ys)) := by
  obtain ⟨x, hx⟩ : ∃ x, suGet xs = x := ⟨_, rfl⟩
  obtain ⟨y, hy⟩ : ∃ x, suGet ys = x := ⟨_, rfl⟩
  obtain ⟨E, hE⟩ : ∃ E, suGetE xs = E := ⟨_, rfl⟩
  obtain ⟨F, hF⟩ : ∃ E, suGetE ys = E := ⟨_, rfl⟩
  have hxl := suGet_len xs
  have hyl := suGet_len ys
  have hxg := (suGet_bounds xs).1
  have hyg := (suGet_bounds ys).1
  rw [hx] at hxl hxg
  rw [hy] at hyl hyg
  have hgx : suGood xs 0 = decide (E = 0 ∧ x.g % 2 = 0) := by unfold suGood; rw [hx, hE]
  have hgy : suGood ys 1 = decide (F = 0 ∧ y.g % 2 = 1) := by unfold suGood; rw [hy, hF]
  have hch : suCh xs ys = if suGood xs 0 = true ∧ (suGood ys 1 = false ∨ y.g < x.g) then x else if suGood ys 1 = true then y else suZ := by unfold suCh; rw [hx, hy]
  have hce : suChE xs ys = if suGood xs 0 = true ∨ suGood ys 1 = true then 0 else 7 := rfl
  rw [hgx, hgy] at hch hce
  obtain ⟨R, hR⟩ : ∃ R, suCh xs ys = R := ⟨_, rfl⟩
  obtain ⟨G, hG⟩ : ∃ R, suChE xs ys = R := ⟨_, rfl⟩
  rw [hR] at hch
  rw [hG] at hce
  rw [hR, hG]
  have HX := Lib.hid hx
  have HY := Lib.hid hy
  have HE := Lib.hid hE
  have HF := Lib.hid hF
  have HXL := Lib.hid hxl
  have HYL := Lib.hid hyl
  have HCH := Lib.hid hch
  have HCE := Lib.hid hce
  clear hx hy hE hF hxl hyl hgx hgy hch hce hR hG
  have h4 := allocZ w
  have H4 := Lib.hid h4
  clear h4
  go_enter Try.func27, Try.ntmps27
  go_wp2_with fail
  refine named ?_
  intro W hW
  have bW : Below w.heap.size w W := by rw [hW]; repeat' (first | exact Below.refl _ _ | (refine Below.alloc ?_ ?_ _; rotate_left; (simp <;> omega)) | refine Below.drew ?_)
  have zW := bW.size
  have HW := Lib.hid hW
  clear hW
  have h4 : W.heap[w.heap.size]? = some (.cells suZ.v 26 (0, 0)) := by rw [HW.out]; exact H4.out
  have xW : w.heap.size < W.heap.size := by rw [HW.out]; simp
  have hh := refsuGet_any A n c xs W (ha.below bW)
  rw [HX.out, HE.out] at hh
  refine hh.mono ?_
  clear hh
  rintro e w1 ⟨rfl, hb1⟩
  have h41 := (hb1.block _ xW).trans h4
  have H41 := Lib.hid h41
  have HA1 := Lib.hid (allocZ w1)
  clear h4 h41
  have z1 := hb1.size
  go_wp2_with (refine wpList_store_row rfl 26 _ _ rfl w1.heap.size x.v rfl rfl 26 suZ.v HA1.out (x.info HXL.out) (Su.size _ _ suZ_len HXL.out) (suV_one ..) ?_; obtain ⟨V, hV⟩ : ∃ V, V = (w1.alloc (.cells #[.int .u32 0, .int .i64 0, .int .i64 0, .int .u8 0, .int .u8 0, .int .u8 0, .int .u8 0, .int .u8 0, .int .u8 0, .int .u8 0, .int .u8 0, .int .u8 0, .int .u8 0, .int .u8 0, .int .u8 0, .int .u8 0, .int .u8 0, .int .u8 0, .int .u8 0, .int .u8 0, .int .u8 0, .int .u8 0, .int .u8 0, .int .u8 0, .int .u8 0, .int .u8 0, .int .u8 0, .int .u8 0, .int .u8 0, .int .u8 0, .int .u8 0, .int .u8 0, .int .u8 0, .int .u8 0, .int .u8 0] 26)).setRow w1.heap.size x.v := ⟨_, rfl⟩; rw [← hV]; obtain ⟨hVr, hVb, hVz⟩ := storedZ _ hV; have HVR := Lib.hid hVr; clear hV hVr)
  have hh := refsuGet_any B m d ys V (hb.below (below_then bW (below_then hb1 hVb)))
  rw [HY.out, HF.out] at hh
  refine hh.mono ?_
  clear hh
  rintro e w2 ⟨rfl, hb2⟩
  have z2 := hb2.size
  have h42 := (hb2.block _ (by omega)).trans ((hVb.block _ (by omega)).trans H41.out)
  have hx2 := (hb2.block _ (by omega)).trans HVR.out
  have B2 := below_then bW (below_then hb1 (below_then hVb hb2))
  have H42 := Lib.hid h42
  have HX2 := Lib.hid hx2
  have HA2 := Lib.hid (allocZ w2)
  clear h42 hx2
  by_cases qE : E = 0
  · subst qE
    by_cases pE : x.g % 2 = 0
    · have ka : (((x.g % 2 : Nat) : Int) == 0) = true := by rw [pE]; rfl
      have ka2 : ((x.g : Int) % 2 == 0) = true := by rw [beq_iff_eq]; omega
      have gl : (0 : Int) = 0 ∧ x.g % 2 = 0 := ⟨rfl, pE⟩
      have GL := Lib.hid gl
      clear gl pE
      by_cases qF : F = 0
      · subst qF
        by_cases pF : y.g % 2 = 1
        · have kb : (((y.g % 2 : Nat) : Int) == 1) = true := by rw [pF]; rfl
          have kb2 : ((y.g : Int) % 2 == 1) = true := by rw [beq_iff_eq]; omega
          have gr : (0 : Int) = 0 ∧ y.g % 2 = 1 := ⟨rfl, pF⟩
          have GR := Lib.hid gr
          clear gr pF
          go_wp2_with (refine wpList_store_row rfl 26 _ _ rfl w2.heap.size y.v rfl rfl 26 suZ.v HA2.out (y.info HYL.out) (Su.size _ _ suZ_len HYL.out) (suV_one ..) ?_; obtain ⟨U, hU⟩ : ∃ V, V = (w2.alloc (.cells #[.int .u32 0, .int .i64 0, .int .i64 0, .int .u8 0, .int .u8 0, .int .u8 0, .int .u8 0, .int .u8 0, .int .u8 0, .int .u8 0, .int .u8 0, .int .u8 0, .int .u8 0, .int .u8 0, .int .u8 0, .int .u8 0, .int .u8 0, .int .u8 0, .int .u8 0, .int .u8 0, .int .u8 0, .int .u8 0, .int .u8 0, .int .u8 0, .int .u8 0, .int .u8 0, .int .u8 0, .int .u8 0, .int .u8 0, .int .u8 0, .int .u8 0, .int .u8 0, .int .u8 0, .int .u8 0, .int .u8 0] 26)).setRow w2.heap.size y.v := ⟨_, rfl⟩; rw [← hU]; obtain ⟨hUr, hUb, hUz⟩ := storedZ _ hU; have hx3 := (hUb.block w1.heap.size (by omega)).trans HX2.out; have h43 := (hUb.block w.heap.size (by omega)).trans H42.out; have cx := Su.cell0 hx3; have cy := Su.cell0 hUr; have HUR := Lib.hid hUr; have HX3 := Lib.hid hx3; have H43 := Lib.hid h43; clear hU hUr hx3 h43)
          refine (refsuHome_any x.g U hxg).mono ?_
          rintro e w9 ⟨rfl, rfl⟩
          go_wp2_with fail
          refine (refsuHome_any y.g U hyg).mono ?_
          rintro e w9 ⟨rfl, rfl⟩
          by_cases hgt : y.g < x.g
          · have dg : decide ((y.g : Int) < (x.g : Int)) = true := decide_eq_true (by omega)
            have dgn : decide (y.g < x.g) = true := decide_eq_true hgt
            have HGT := Lib.hid hgt
            clear hgt
            go_wp2_with (first | (refine wpList_load_row rfl 26 _ rfl w1.heap.size rfl 26 x.v (0, 0) _ HX3.out Try.underlying26 rfl (x.info HXL.out) ?_) | (refine wpList_store_row rfl 26 _ _ rfl w.heap.size x.v rfl rfl 26 suZ.v H43.out (x.info HXL.out) (Su.size _ _ suZ_len HXL.out) (suV_one ..) ?_))
            have hr1 := HCH.out
            have hr2 := HCE.out
            rw [decide_eq_true GL.out, if_pos ⟨rfl, .inr HGT.out⟩] at hr1
            rw [decide_eq_true GL.out, if_pos (.inl rfl)] at hr2
            refine bodyPost_ret (results_row_tmp Try.results27 _ _ w.heap.size 26 x.v (0, 0) _ rfl (setRow_heap _ _ _ x.v _ _ H43.out) Try.underlying26 rfl (x.info HXL.out)) rfl ?_
            exact ⟨by rw [hr1, hr2]; rfl, below_setRow (below_then B2 hUb) (Nat.le_refl _) _⟩
          · have dg : decide ((y.g : Int) < (x.g : Int)) = false := decide_eq_false (by omega)
            have dgn : decide (y.g < x.g) = false := decide_eq_false hgt
            have HGT := Lib.hid hgt
            clear hgt
            go_wp2_with (first | (refine wpList_load_row rfl 26 _ rfl w2.heap.size rfl 26 y.v (0, 0) _ HUR.out Try.underlying26 rfl (y.info HYL.out) ?_) | (refine wpList_store_row rfl 26 _ _ rfl w.heap.size y.v rfl rfl 26 suZ.v H43.out (y.info HYL.out) (Su.size _ _ suZ_len HYL.out) (suV_one ..) ?_))
            have hr1 := HCH.out
            have hr2 := HCE.out
            rw [decide_eq_true GL.out, decide_eq_true GR.out, if_neg (fun h => h.2.elim (fun h => by cases h) HGT.out), if_pos rfl] at hr1
            rw [decide_eq_true GL.out, if_pos (.inl rfl)] at hr2
            refine bodyPost_ret (results_row_tmp Try.results27 _ _ w.heap.size 26 y.v (0, 0) _ rfl (setRow_heap _ _ _ y.v _ _ H43.out) Try.underlying26 rfl (y.info HYL.out)) rfl ?_
            exact ⟨by rw [hr1, hr2]; rfl, below_setRow (below_then B2 hUb) (Nat.le_refl _) _⟩
        · have kb : (((y.g % 2 : Nat) : Int) == 1) = false := by rw [beq_eq_false_iff_ne]; omega
          have kb2 : ((y.g : Int) % 2 == 1) = false := by rw [beq_eq_false_iff_ne]; omega
          have gr : ¬ ((0 : Int) = 0 ∧ y.g % 2 = 1) := fun h => pF h.2
          have GR := Lib.hid gr
          clear gr pF
          go_wp2_with (refine wpList_store_row rfl 26 _ _ rfl w2.heap.size y.v rfl rfl 26 suZ.v HA2.out (y.info HYL.out) (Su.size _ _ suZ_len HYL.out) (suV_one ..) ?_; obtain ⟨U, hU⟩ : ∃ V, V = (w2.alloc (.cells #[.int .u32 0, .int .i64 0, .int .i64 0, .int .u8 0, .int .u8 0, .int .u8 0, .int .u8 0, .int .u8 0, .int .u8 0, .int .u8 0, .int .u8 0, .int .u8 0, .int .u8 0, .int .u8 0, .int .u8 0, .int .u8 0, .int .u8 0, .int .u8 0, .int .u8 0, .int .u8 0, .int .u8 0, .int .u8 0, .int .u8 0, .int .u8 0, .int .u8 0, .int .u8 0, .int .u8 0, .int .u8 0, .int .u8 0, .int .u8 0, .int .u8 0, .int .u8 0, .int .u8 0, .int .u8 0, .int .u8 0] 26)).setRow w2.heap.size y.v := ⟨_, rfl⟩; rw [← hU]; obtain ⟨hUr, hUb, hUz⟩ := storedZ _ hU; have hx3 := (hUb.block w1.heap.size (by omega)).trans HX2.out; have h43 := (hUb.block w.heap.size (by omega)).trans H42.out; have cx := Su.cell0 hx3; have cy := Su.cell0 hUr; have HUR := Lib.hid hUr; have HX3 := Lib.hid hx3; have H43 := Lib.hid h43; clear hU hUr hx3 h43)
          refine (refsuHome_any x.g U hxg).mono ?_
          rintro e w9 ⟨rfl, rfl⟩
          go_wp2_with fail
          refine (refsuHome_any y.g U hyg).mono ?_
          rintro e w9 ⟨rfl, rfl⟩
          go_wp2_with (first | (refine wpList_load_row rfl 26 _ rfl w1.heap.size rfl 26 x.v (0, 0) _ HX3.out Try.underlying26 rfl (x.info HXL.out) ?_) | (refine wpList_store_row rfl 26 _ _ rfl w.heap.size x.v rfl rfl 26 suZ.v H43.out (x.info HXL.out) (Su.size _ _ suZ_len HXL.out) (suV_one ..) ?_))
          have hr1 := HCH.out
          have hr2 := HCE.out
          rw [decide_eq_true GL.out, decide_eq_false GR.out, if_pos ⟨rfl, .inl rfl⟩] at hr1
          rw [decide_eq_true GL.out, if_pos (.inl rfl)] at hr2
          refine bodyPost_ret (results_row_tmp Try.results27 _ _ w.heap.size 26 x.v (0, 0) _ rfl (setRow_heap _ _ _ x.v _ _ H43.out) Try.underlying26 rfl (x.info HXL.out)) rfl ?_
          exact ⟨by rw [hr1, hr2]; rfl, below_setRow (below_then B2 hUb) (Nat.le_refl _) _⟩
      · have kb := eqz F qF
        have gr : ¬ (F = 0 ∧ y.g % 2 = 1) := fun h => qF h.1
        have GR := Lib.hid gr
        clear gr qF
        go_wp2_with (refine wpList_store_row rfl 26 _ _ rfl w2.heap.size y.v rfl rfl 26 suZ.v HA2.out (y.info HYL.out) (Su.size _ _ suZ_len HYL.out) (suV_one ..) ?_; obtain ⟨U, hU⟩ : ∃ V, V = (w2.alloc (.cells #[.int .u32 0, .int .i64 0, .int .i64 0, .int .u8 0, .int .u8 0, .int .u8 0, .int .u8 0, .int .u8 0, .int .u8 0, .int .u8 0, .int .u8 0, .int .u8 0, .int .u8 0, .int .u8 0, .int .u8 0, .int .u8 0, .int .u8 0, .int .u8 0, .int .u8 0, .int .u8 0, .int .u8 0, .int .u8 0, .int .u8 0, .int .u8 0, .int .u8 0, .int .u8 0, .int .u8 0, .int .u8 0, .int .u8 0, .int .u8 0, .int .u8 0, .int .u8 0, .int .u8 0, .int .u8 0, .int .u8 0] 26)).setRow w2.heap.size y.v := ⟨_, rfl⟩; rw [← hU]; obtain ⟨hUr, hUb, hUz⟩ := storedZ _ hU; have hx3 := (hUb.block w1.heap.size (by omega)).trans HX2.out; have h43 := (hUb.block w.heap.size (by omega)).trans H42.out; have cx := Su.cell0 hx3; have cy := Su.cell0 hUr; have HUR := Lib.hid hUr; have HX3 := Lib.hid hx3; have H43 := Lib.hid h43; clear hU hUr hx3 h43)
        refine (refsuHome_any x.g U hxg).mono ?_
        rintro e w9 ⟨rfl, rfl⟩
        go_wp2_with (first | (refine wpList_load_row rfl 26 _ rfl w1.heap.size rfl 26 x.v (0, 0) _ HX3.out Try.underlying26 rfl (x.info HXL.out) ?_) | (refine wpList_store_row rfl 26 _ _ rfl w.heap.size x.v rfl rfl 26 suZ.v H43.out (x.info HXL.out) (Su.size _ _ suZ_len HXL.out) (suV_one ..) ?_))
        have hr1 := HCH.out
        have hr2 := HCE.out
        rw [decide_eq_true GL.out, decide_eq_false GR.out, if_pos ⟨rfl, .inl rfl⟩] at hr1
        rw [decide_eq_true GL.out, if_pos (.inl rfl)] at hr2
        refine bodyPost_ret (results_row_tmp Try.results27 _ _ w.heap.size 26 x.v (0, 0) _ rfl (setRow_heap _ _ _ x.v _ _ H43.out) Try.underlying26 rfl (x.info HXL.out)) rfl ?_
        exact ⟨by rw [hr1, hr2]; rfl, below_setRow (below_then B2 hUb) (Nat.le_refl _) _⟩
    · have ka : (((x.g % 2 : Nat) : Int) == 0) = false := by rw [beq_eq_false_iff_ne]; omega
      have ka2 : ((x.g : Int) % 2 == 0) = false := by rw [beq_eq_false_iff_ne]; omega
      have gl : ¬ ((0 : Int) = 0 ∧ x.g % 2 = 0) := fun h => pE h.2
      have GL := Lib.hid gl
      clear gl pE
      by_cases qF : F = 0
      · subst qF
        by_cases pF : y.g % 2 = 1
        · have kb : (((y.g % 2 : Nat) : Int) == 1) = true := by rw [pF]; rfl
          have kb2 : ((y.g : Int) % 2 == 1) = true := by rw [beq_iff_eq]; omega
          have gr : (0 : Int) = 0 ∧ y.g % 2 = 1 := ⟨rfl, pF⟩
          have GR := Lib.hid gr
          clear gr pF
          go_wp2_with (refine wpList_store_row rfl 26 _ _ rfl w2.heap.size y.v rfl rfl 26 suZ.v HA2.out (y.info HYL.out) (Su.size _ _ suZ_len HYL.out) (suV_one ..) ?_; obtain ⟨U, hU⟩ : ∃ V, V = (w2.alloc (.cells #[.int .u32 0, .int .i64 0, .int .i64 0, .int .u8 0, .int .u8 0, .int .u8 0, .int .u8 0, .int .u8 0, .int .u8 0, .int .u8 0, .int .u8 0, .int .u8 0, .int .u8 0, .int .u8 0, .int .u8 0, .int .u8 0, .int .u8 0, .int .u8 0, .int .u8 0, .int .u8 0, .int .u8 0, .int .u8 0, .int .u8 0, .int .u8 0, .int .u8 0, .int .u8 0, .int .u8 0, .int .u8 0, .int .u8 0, .int .u8 0, .int .u8 0, .int .u8 0, .int .u8 0, .int .u8 0, .int .u8 0] 26)).setRow w2.heap.size y.v := ⟨_, rfl⟩; rw [← hU]; obtain ⟨hUr, hUb, hUz⟩ := storedZ _ hU; have hx3 := (hUb.block w1.heap.size (by omega)).trans HX2.out; have h43 := (hUb.block w.heap.size (by omega)).trans H42.out; have cx := Su.cell0 hx3; have cy := Su.cell0 hUr; have HUR := Lib.hid hUr; have HX3 := Lib.hid hx3; have H43 := Lib.hid h43; clear hU hUr hx3 h43)
          refine (refsuHome_any x.g U hxg).mono ?_
          rintro e w9 ⟨rfl, rfl⟩
          go_wp2_with fail
          refine (refsuHome_any y.g U hyg).mono ?_
          rintro e w9 ⟨rfl, rfl⟩
          go_wp2_with (first | (refine wpList_load_row rfl 26 _ rfl w2.heap.size rfl 26 y.v (0, 0) _ HUR.out Try.underlying26 rfl (y.info HYL.out) ?_) | (refine wpList_store_row rfl 26 _ _ rfl w.heap.size y.v rfl rfl 26 suZ.v H43.out (y.info HYL.out) (Su.size _ _ suZ_len HYL.out) (suV_one ..) ?_))
          have hr1 := HCH.out
          have hr2 := HCE.out
          rw [decide_eq_false GL.out, decide_eq_true GR.out, if_neg (fun h => by cases h.1), if_pos rfl] at hr1
          rw [decide_eq_true GR.out, if_pos (.inr rfl)] at hr2
          refine bodyPost_ret (results_row_tmp Try.results27 _ _ w.heap.size 26 y.v (0, 0) _ rfl (setRow_heap _ _ _ y.v _ _ H43.out) Try.underlying26 rfl (y.info HYL.out)) rfl ?_
          exact ⟨by rw [hr1, hr2]; rfl, below_setRow (below_then B2 hUb) (Nat.le_refl _) _⟩
        · have kb : (((y.g % 2 : Nat) : Int) == 1) = false := by rw [beq_eq_false_iff_ne]; omega
          have kb2 : ((y.g : Int) % 2 == 1) = false := by rw [beq_eq_false_iff_ne]; omega
          have gr : ¬ ((0 : Int) = 0 ∧ y.g % 2 = 1) := fun h => pF h.2
          have GR := Lib.hid gr
          clear gr pF
          go_wp2_with (refine wpList_store_row rfl 26 _ _ rfl w2.heap.size y.v rfl rfl 26 suZ.v HA2.out (y.info HYL.out) (Su.size _ _ suZ_len HYL.out) (suV_one ..) ?_; obtain ⟨U, hU⟩ : ∃ V, V = (w2.alloc (.cells #[.int .u32 0, .int .i64 0, .int .i64 0, .int .u8 0, .int .u8 0, .int .u8 0, .int .u8 0, .int .u8 0, .int .u8 0, .int .u8 0, .int .u8 0, .int .u8 0, .int .u8 0, .int .u8 0, .int .u8 0, .int .u8 0, .int .u8 0, .int .u8 0, .int .u8 0, .int .u8 0, .int .u8 0, .int .u8 0, .int .u8 0, .int .u8 0, .int .u8 0, .int .u8 0, .int .u8 0, .int .u8 0, .int .u8 0, .int .u8 0, .int .u8 0, .int .u8 0, .int .u8 0, .int .u8 0, .int .u8 0] 26)).setRow w2.heap.size y.v := ⟨_, rfl⟩; rw [← hU]; obtain ⟨hUr, hUb, hUz⟩ := storedZ _ hU; have hx3 := (hUb.block w1.heap.size (by omega)).trans HX2.out; have h43 := (hUb.block w.heap.size (by omega)).trans H42.out; have cx := Su.cell0 hx3; have cy := Su.cell0 hUr; have HUR := Lib.hid hUr; have HX3 := Lib.hid hx3; have H43 := Lib.hid h43; clear hU hUr hx3 h43)
          refine (refsuHome_any x.g U hxg).mono ?_
          rintro e w9 ⟨rfl, rfl⟩
          go_wp2_with fail
          refine (refsuHome_any y.g U hyg).mono ?_
          rintro e w9 ⟨rfl, rfl⟩
          go_wp2_with (refine wpList_store_row rfl 26 _ _ rfl w.heap.size suZ.v rfl rfl 26 suZ.v H43.out (suZ.info suZ_len) (Su.size _ _ suZ_len suZ_len) (suV_one ..) ?_)
          have hr1 := HCH.out
          have hr2 := HCE.out
          rw [decide_eq_false GL.out, decide_eq_false GR.out, if_neg (fun h => by cases h.1), if_neg (fun h => by cases h)] at hr1
          rw [decide_eq_false GL.out, decide_eq_false GR.out, if_neg (fun h => h.elim (fun h => by cases h) (fun h => by cases h))] at hr2
          refine bodyPost_ret (results_row_tmp Try.results27 _ _ w.heap.size 26 suZ.v (0, 0) _ rfl (setRow_heap _ _ _ suZ.v _ _ H43.out) Try.underlying26 rfl (suZ.info suZ_len)) rfl ?_
          exact ⟨by rw [hr1, hr2]; rfl, below_setRow (below_then B2 hUb) (Nat.le_refl _) _⟩
      · have kb := eqz F qF
        have gr : ¬ (F = 0 ∧ y.g % 2 = 1) := fun h => qF h.1
        have GR := Lib.hid gr
        clear gr qF
        go_wp2_with (refine wpList_store_row rfl 26 _ _ rfl w2.heap.size y.v rfl rfl 26 suZ.v HA2.out (y.info HYL.out) (Su.size _ _ suZ_len HYL.out) (suV_one ..) ?_; obtain ⟨U, hU⟩ : ∃ V, V = (w2.alloc (.cells #[.int .u32 0, .int .i64 0, .int .i64 0, .int .u8 0, .int .u8 0, .int .u8 0, .int .u8 0, .int .u8 0, .int .u8 0, .int .u8 0, .int .u8 0, .int .u8 0, .int .u8 0, .int .u8 0, .int .u8 0, .int .u8 0, .int .u8 0, .int .u8 0, .int .u8 0, .int .u8 0, .int .u8 0, .int .u8 0, .int .u8 0, .int .u8 0, .int .u8 0, .int .u8 0, .int .u8 0, .int .u8 0, .int .u8 0, .int .u8 0, .int .u8 0, .int .u8 0, .int .u8 0, .int .u8 0, .int .u8 0] 26)).setRow w2.heap.size y.v := ⟨_, rfl⟩; rw [← hU]; obtain ⟨hUr, hUb, hUz⟩ := storedZ _ hU; have hx3 := (hUb.block w1.heap.size (by omega)).trans HX2.out; have h43 := (hUb.block w.heap.size (by omega)).trans H42.out; have cx := Su.cell0 hx3; have cy := Su.cell0 hUr; have HUR := Lib.hid hUr; have HX3 := Lib.hid hx3; have H43 := Lib.hid h43; clear hU hUr hx3 h43)
        refine (refsuHome_any x.g U hxg).mono ?_
        rintro e w9 ⟨rfl, rfl⟩
        go_wp2_with (refine wpList_store_row rfl 26 _ _ rfl w.heap.size suZ.v rfl rfl 26 suZ.v H43.out (suZ.info suZ_len) (Su.size _ _ suZ_len suZ_len) (suV_one ..) ?_)
        have hr1 := HCH.out
        have hr2 := HCE.out
        rw [decide_eq_false GL.out, decide_eq_false GR.out, if_neg (fun h => by cases h.1), if_neg (fun h => by cases h)] at hr1
        rw [decide_eq_false GL.out, decide_eq_false GR.out, if_neg (fun h => h.elim (fun h => by cases h) (fun h => by cases h))] at hr2
        refine bodyPost_ret (results_row_tmp Try.results27 _ _ w.heap.size 26 suZ.v (0, 0) _ rfl (setRow_heap _ _ _ suZ.v _ _ H43.out) Try.underlying26 rfl (suZ.info suZ_len)) rfl ?_
        exact ⟨by rw [hr1, hr2]; rfl, below_setRow (below_then B2 hUb) (Nat.le_refl _) _⟩
  · have ka := eqz E qE
    have gl : ¬ (E = 0 ∧ x.g % 2 = 0) := fun h => qE h.1
    have GL := Lib.hid gl
    clear gl qE
    by_cases qF : F = 0
    · subst qF
      by_cases pF : y.g % 2 = 1
      · have kb : (((y.g % 2 : Nat) : Int) == 1) = true := by rw [pF]; rfl
        have kb2 : ((y.g : Int) % 2 == 1) = true := by rw [beq_iff_eq]; omega
        have gr : (0 : Int) = 0 ∧ y.g % 2 = 1 := ⟨rfl, pF⟩
        have GR := Lib.hid gr
        clear gr pF
        go_wp2_with (refine wpList_store_row rfl 26 _ _ rfl w2.heap.size y.v rfl rfl 26 suZ.v HA2.out (y.info HYL.out) (Su.size _ _ suZ_len HYL.out) (suV_one ..) ?_; obtain ⟨U, hU⟩ : ∃ V, V = (w2.alloc (.cells #[.int .u32 0, .int .i64 0, .int .i64 0, .int .u8 0, .int .u8 0, .int .u8 0, .int .u8 0, .int .u8 0, .int .u8 0, .int .u8 0, .int .u8 0, .int .u8 0, .int .u8 0, .int .u8 0, .int .u8 0, .int .u8 0, .int .u8 0, .int .u8 0, .int .u8 0, .int .u8 0, .int .u8 0, .int .u8 0, .int .u8 0, .int .u8 0, .int .u8 0, .int .u8 0, .int .u8 0, .int .u8 0, .int .u8 0, .int .u8 0, .int .u8 0, .int .u8 0, .int .u8 0, .int .u8 0, .int .u8 0] 26)).setRow w2.heap.size y.v := ⟨_, rfl⟩; rw [← hU]; obtain ⟨hUr, hUb, hUz⟩ := storedZ _ hU; have hx3 := (hUb.block w1.heap.size (by omega)).trans HX2.out; have h43 := (hUb.block w.heap.size (by omega)).trans H42.out; have cx := Su.cell0 hx3; have cy := Su.cell0 hUr; have HUR := Lib.hid hUr; have HX3 := Lib.hid hx3; have H43 := Lib.hid h43; clear hU hUr hx3 h43)
        refine (refsuHome_any y.g U hyg).mono ?_
        rintro e w9 ⟨rfl, rfl⟩
        go_wp2_with (first | (refine wpList_load_row rfl 26 _ rfl w2.heap.size rfl 26 y.v (0, 0) _ HUR.out Try.underlying26 rfl (y.info HYL.out) ?_) | (refine wpList_store_row rfl 26 _ _ rfl w.heap.size y.v rfl rfl 26 suZ.v H43.out (y.info HYL.out) (Su.size _ _ suZ_len HYL.out) (suV_one ..) ?_))
        have hr1 := HCH.out
        have hr2 := HCE.out
        rw [decide_eq_false GL.out, decide_eq_true GR.out, if_neg (fun h => by cases h.1), if_pos rfl] at hr1
        rw [decide_eq_true GR.out, if_pos (.inr rfl)] at hr2
        refine bodyPost_ret (results_row_tmp Try.results27 _ _ w.heap.size 26 y.v (0, 0) _ rfl (setRow_heap _ _ _ y.v _ _ H43.out) Try.underlying26 rfl (y.info HYL.out)) rfl ?_
        exact ⟨by rw [hr1, hr2]; rfl, below_setRow (below_then B2 hUb) (Nat.le_refl _) _⟩
      · have kb : (((y.g % 2 : Nat) : Int) == 1) = false := by rw [beq_eq_false_iff_ne]; omega
        have kb2 : ((y.g : Int) % 2 == 1) = false := by rw [beq_eq_false_iff_ne]; omega
        have gr : ¬ ((0 : Int) = 0 ∧ y.g % 2 = 1) := fun h => pF h.2
        have GR := Lib.hid gr
        clear gr pF
        go_wp2_with (refine wpList_store_row rfl 26 _ _ rfl w2.heap.size y.v rfl rfl 26 suZ.v HA2.out (y.info HYL.out) (Su.size _ _ suZ_len HYL.out) (suV_one ..) ?_; obtain ⟨U, hU⟩ : ∃ V, V = (w2.alloc (.cells #[.int .u32 0, .int .i64 0, .int .i64 0, .int .u8 0, .int .u8 0, .int .u8 0, .int .u8 0, .int .u8 0, .int .u8 0, .int .u8 0, .int .u8 0, .int .u8 0, .int .u8 0, .int .u8 0, .int .u8 0, .int .u8 0, .int .u8 0, .int .u8 0, .int .u8 0, .int .u8 0, .int .u8 0, .int .u8 0, .int .u8 0, .int .u8 0, .int .u8 0, .int .u8 0, .int .u8 0, .int .u8 0, .int .u8 0, .int .u8 0, .int .u8 0, .int .u8 0, .int .u8 0, .int .u8 0, .int .u8 0] 26)).setRow w2.heap.size y.v := ⟨_, rfl⟩; rw [← hU]; obtain ⟨hUr, hUb, hUz⟩ := storedZ _ hU; have hx3 := (hUb.block w1.heap.size (by omega)).trans HX2.out; have h43 := (hUb.block w.heap.size (by omega)).trans H42.out; have cx := Su.cell0 hx3; have cy := Su.cell0 hUr; have HUR := Lib.hid hUr; have HX3 := Lib.hid hx3; have H43 := Lib.hid h43; clear hU hUr hx3 h43)
        refine (refsuHome_any y.g U hyg).mono ?_
        rintro e w9 ⟨rfl, rfl⟩
        go_wp2_with (refine wpList_store_row rfl 26 _ _ rfl w.heap.size suZ.v rfl rfl 26 suZ.v H43.out (suZ.info suZ_len) (Su.size _ _ suZ_len suZ_len) (suV_one ..) ?_)
        have hr1 := HCH.out
        have hr2 := HCE.out
        rw [decide_eq_false GL.out, decide_eq_false GR.out, if_neg (fun h => by cases h.1), if_neg (fun h => by cases h)] at hr1
        rw [decide_eq_false GL.out, decide_eq_false GR.out, if_neg (fun h => h.elim (fun h => by cases h) (fun h => by cases h))] at hr2
        refine bodyPost_ret (results_row_tmp Try.results27 _ _ w.heap.size 26 suZ.v (0, 0) _ rfl (setRow_heap _ _ _ suZ.v _ _ H43.out) Try.underlying26 rfl (suZ.info suZ_len)) rfl ?_
        exact ⟨by rw [hr1, hr2]; rfl, below_setRow (below_then B2 hUb) (Nat.le_refl _) _⟩
    · have kb := eqz F qF
      have gr : ¬ (F = 0 ∧ y.g % 2 = 1) := fun h => qF h.1
      have GR := Lib.hid gr
      clear gr qF
      go_wp2_with (first | (refine wpList_store_row rfl 26 _ _ rfl w2.heap.size y.v rfl rfl 26 suZ.v HA2.out (y.info HYL.out) (Su.size _ _ suZ_len HYL.out) (suV_one ..) ?_; obtain ⟨U, hU⟩ : ∃ V, V = (w2.alloc (.cells #[.int .u32 0, .int .i64 0, .int .i64 0, .int .u8 0, .int .u8 0, .int .u8 0, .int .u8 0, .int .u8 0, .int .u8 0, .int .u8 0, .int .u8 0, .int .u8 0, .int .u8 0, .int .u8 0, .int .u8 0, .int .u8 0, .int .u8 0, .int .u8 0, .int .u8 0, .int .u8 0, .int .u8 0, .int .u8 0, .int .u8 0, .int .u8 0, .int .u8 0, .int .u8 0, .int .u8 0, .int .u8 0, .int .u8 0, .int .u8 0, .int .u8 0, .int .u8 0, .int .u8 0, .int .u8 0, .int .u8 0] 26)).setRow w2.heap.size y.v := ⟨_, rfl⟩; rw [← hU]; obtain ⟨hUr, hUb, hUz⟩ := storedZ _ hU; have hx3 := (hUb.block w1.heap.size (by omega)).trans HX2.out; have h43 := (hUb.block w.heap.size (by omega)).trans H42.out; have cx := Su.cell0 hx3; have cy := Su.cell0 hUr; have HUR := Lib.hid hUr; have HX3 := Lib.hid hx3; have H43 := Lib.hid h43; clear hU hUr hx3 h43) | (refine wpList_store_row rfl 26 _ _ rfl w.heap.size suZ.v rfl rfl 26 suZ.v H43.out (suZ.info suZ_len) (Su.size _ _ suZ_len suZ_len) (suV_one ..) ?_))
      have hr1 := HCH.out
      have hr2 := HCE.out
      rw [decide_eq_false GL.out, decide_eq_false GR.out, if_neg (fun h => by cases h.1), if_neg (fun h => by cases h)] at hr1
      rw [decide_eq_false GL.out, decide_eq_false GR.out, if_neg (fun h => h.elim (fun h => by cases h) (fun h => by cases h))] at hr2
      refine bodyPost_ret (results_row_tmp Try.results27 _ _ w.heap.size 26 suZ.v (0, 0) _ rfl (setRow_heap _ _ _ suZ.v _ _ H43.out) Try.underlying26 rfl (suZ.info suZ_len)) rfl ?_
      exact ⟨by rw [hr1, hr2]; rfl, below_setRow (below_then B2 hUb) (Nat.le_refl _) _⟩
end Go.Proofs.Ytmbdfanaegadjaa
