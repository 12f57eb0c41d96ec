/-
  Layer 12: records: the law RecordBack.
-/
import Derived.Test.YtnfepikgbdeomaaRecK
namespace Go.Proofs.Ytnfepikgbdeomaa
set_option maxRecDepth 20000
open Go.RowKit
set_option linter.unusedVariables false
set_option linter.unusedSimpArgs false
set_option maxHeartbeats 8000000

theorem recBack_no (t : Nat) (k : Int) (cl : Nat) (A : Option Addr) (n c : Nat) (b : List UInt8) (P : List UInt8) (g s sm : Nat) (B : Option Addr) (m d : Nat) (ys : List UInt8) (w : World) (ht : t < 18446744073709551616) (hk : -9223372036854775808 ≤ k ∧ k ≤ 9223372036854775807) (hcl : cl < 18446744073709551616) (hr : RdB w A n c b) (hP : P.length = 32) (hg : g < 4294967296) (hs : s < 4294967296) (hsm : sm < 4294967296) (hy : RdB w B m d ys) (hc : rcChk k cl n = false) :
    Calls Try.prog 8 #[.agg #[.int .u64 (t : Int), .int .i64 k, .int .u64 (cl : Int), .slice A n c], .agg (dgA P), .int .u32 (g : Int), .int .u32 (s : Int), .int .u32 (sm : Int), .slice B m d] w (RetV w (.bool true)) := by
  have hn63 := hr.n63
  have hm63 := hy.n63
  have hL := hr.2.1
  have hM := hy.2.1
  obtain ⟨W0, hW0⟩ : ∃ W, W = (w.alloc (.cells #[.int .u64 (t : Int), .int .i64 k, .int .u64 (cl : Int), .slice A n c] 65)).alloc (.cells (dgA P) 67) := ⟨_, rfl⟩
  have b0 : Below w.heap.size w W0 := by rw [hW0]; exact ((below_self w).alloc (Nat.le_refl _) _).alloc (by simp) _
  have qe : Hid (W0.heap[w.heap.size]? = some (.cells #[.int .u64 (t : Int), .int .i64 k, .int .u64 (cl : Int), .slice A n c] 65 (0, 0))) := by rw [hW0]; exact Lib.hid (rw_old _ (rw_at _ rfl))
  have qP : Hid (W0.heap[w.heap.size + 1]? = some (.cells (dgA P) 67 (0, 0))) := by rw [hW0]; exact Lib.hid (rw_at _ (by simp))
  have H0 := Lib.hid (refCheck12_any t k cl A n c W0 (by omega))
  rw [hc] at H0
  have HW0 := Lib.hid hW0
  clear hW0
  go_enter Try.func8, Try.ntmps8
  go_wp2_with fail
  rw [← HW0.out]
  refine H0.out.mono ?_
  rintro e w1 ⟨rfl, hb1⟩
  go_wp2_with fail
  refine (heads12 _).mono ?_
  rintro e w9 ⟨rfl, hb9⟩
  go_wp2
  go_ret
  exact ⟨rfl, below_then (below_then b0 hb1) hb9⟩
theorem recBack_long (t : Nat) (k : Int) (cl : Nat) (A : Option Addr) (n c : Nat) (b : List UInt8) (P : List UInt8) (g s sm : Nat) (B : Option Addr) (m d : Nat) (ys : List UInt8) (w : World) (ht : t < 18446744073709551616) (hk : -9223372036854775808 ≤ k ∧ k ≤ 9223372036854775807) (hcl : cl < 18446744073709551616) (hr : RdB w A n c b) (hP : P.length = 32) (hg : g < 4294967296) (hs : s < 4294967296) (hsm : sm < 4294967296) (hy : RdB w B m d ys) (hc : rcChk k cl n = true) (h4 : 252 < m) :
    Calls Try.prog 8 #[.agg #[.int .u64 (t : Int), .int .i64 k, .int .u64 (cl : Int), .slice A n c], .agg (dgA P), .int .u32 (g : Int), .int .u32 (s : Int), .int .u32 (sm : Int), .slice B m d] w (RetV w (.bool true)) := by
  have hn63 := hr.n63
  have hm63 := hy.n63
  have hL := hr.2.1
  have hM := hy.2.1
  obtain ⟨W0, hW0⟩ : ∃ W, W = (w.alloc (.cells #[.int .u64 (t : Int), .int .i64 k, .int .u64 (cl : Int), .slice A n c] 65)).alloc (.cells (dgA P) 67) := ⟨_, rfl⟩
  have b0 : Below w.heap.size w W0 := by rw [hW0]; exact ((below_self w).alloc (Nat.le_refl _) _).alloc (by simp) _
  have qe : Hid (W0.heap[w.heap.size]? = some (.cells #[.int .u64 (t : Int), .int .i64 k, .int .u64 (cl : Int), .slice A n c] 65 (0, 0))) := by rw [hW0]; exact Lib.hid (rw_old _ (rw_at _ rfl))
  have qP : Hid (W0.heap[w.heap.size + 1]? = some (.cells (dgA P) 67 (0, 0))) := by rw [hW0]; exact Lib.hid (rw_at _ (by simp))
  have H0 := Lib.hid (refCheck12_any t k cl A n c W0 (by omega))
  rw [hc] at H0
  have HW0 := Lib.hid hW0
  have d4 : decide ((252 : Int) < (m : Int)) = true := decide_eq_true (by omega)
  clear hW0
  go_enter Try.func8, Try.ntmps8
  go_wp2_with fail
  rw [← HW0.out]
  refine H0.out.mono ?_
  rintro e w1 ⟨rfl, hb1⟩
  go_wp2_with fail
  refine (heads12 _).mono ?_
  rintro e w9 ⟨rfl, hb9⟩
  go_wp2
  go_ret
  exact ⟨rfl, below_then (below_then b0 hb1) hb9⟩
theorem recBack_main (t : Nat) (k : Int) (cl : Nat) (A : Option Addr) (n c : Nat) (b : List UInt8) (P : List UInt8) (g s sm : Nat) (B : Option Addr) (m d : Nat) (ys : List UInt8) (w : World) (ht : t < 18446744073709551616) (hk : -9223372036854775808 ≤ k ∧ k ≤ 9223372036854775807) (hcl : cl < 18446744073709551616) (hr : RdB w A n c b) (hP : P.length = 32) (hg : g < 4294967296) (hs : s < 4294967296) (hsm : sm < 4294967296) (hy : RdB w B m d ys) (hc : rcChk k cl n = true) (h4 : m ≤ 252) :
    Calls Try.prog 8 #[.agg #[.int .u64 (t : Int), .int .i64 k, .int .u64 (cl : Int), .slice A n c], .agg (dgA P), .int .u32 (g : Int), .int .u32 (s : Int), .int .u32 (sm : Int), .slice B m d] w (RetV w (.bool true)) := by
  have hn63 := hr.n63
  have hm63 := hy.n63
  have hL := hr.2.1
  have hM := hy.2.1
  obtain ⟨W0, hW0⟩ : ∃ W, W = (w.alloc (.cells #[.int .u64 (t : Int), .int .i64 k, .int .u64 (cl : Int), .slice A n c] 65)).alloc (.cells (dgA P) 67) := ⟨_, rfl⟩
  have b0 : Below w.heap.size w W0 := by rw [hW0]; exact ((below_self w).alloc (Nat.le_refl _) _).alloc (by simp) _
  have qe : Hid (W0.heap[w.heap.size]? = some (.cells #[.int .u64 (t : Int), .int .i64 k, .int .u64 (cl : Int), .slice A n c] 65 (0, 0))) := by rw [hW0]; exact Lib.hid (rw_old _ (rw_at _ rfl))
  have qP : Hid (W0.heap[w.heap.size + 1]? = some (.cells (dgA P) 67 (0, 0))) := by rw [hW0]; exact Lib.hid (rw_at _ (by simp))
  have H0 := Lib.hid (refCheck12_any t k cl A n c W0 (by omega))
  rw [hc] at H0
  have HW0 := Lib.hid hW0
  have d4 : decide ((252 : Int) < (m : Int)) = false := decide_eq_false (by omega)
  obtain ⟨r0, hr0⟩ : ∃ r, r = (⟨g, s, sm, t, k, cl, b, List.replicate 32 0⟩ : Rc) := ⟨_, rfl⟩
  have hok0 : r0.ok := by rw [hr0]; exact ⟨hg, hs, hsm, ht, hk, hcl, by simp⟩
  have hck : r0.chk = true := by rw [hr0]; show rcChk k cl b.length = true; rw [hL]; exact hc
  obtain ⟨R, hR⟩ : ∃ R, R = rcMk P r0 := ⟨_, rfl⟩
  have hRM : rcMkR P r0 = R := by rw [hR]; unfold rcMkR; rw [if_pos hck]
  have hRE : rcMkE r0 = 0 := by unfold rcMkE; rw [if_pos hck]
  have hRok : R.ok := by rw [hR]; exact rcMk_ok _ _ hok0
  have hRc : R.chk = true := by rw [hR]; exact hck
  have hRD := hRok.2.2.2.2.2.2
  have hRl : R.b.length ≤ 180 := (rcChk_len hRc).1
  have hRb : R.b = b := by rw [hR, hr0]; rfl
  have hRg : R.g = g := by rw [hR, hr0]; rfl
  have hRs : R.s = s := by rw [hR, hr0]; rfl
  have hRm : R.m = sm := by rw [hR, hr0]; rfl
  have hRt : R.t = t := by rw [hR, hr0]; rfl
  have hRk : R.k = k := by rw [hR, hr0]; rfl
  have hRcl : R.c = cl := by rw [hR, hr0]; rfl
  obtain ⟨Y, hY⟩ : ∃ Y, Y = rcPutL R := ⟨_, rfl⟩
  have hYl : Y.length = 256 := by rw [hY]; unfold rcPutL; rw [if_pos hRc]; exact rcL_len R (by omega) hRD
  have hPE : rcPutE R = 0 := by unfold rcPutE; rw [if_pos hRc]
  have hYg : rcGetE Y = 0 ∧ rcGet Y = R := by rw [hY]; exact rcGet_put R hRok hRc
  have hFE : rcFolE P g s Y = 0 := by
    rw [hY, hR, rcFol_put P P r0 g s hok0 hck, if_neg (by rw [hr0]; simp), if_neg (by rw [hr0]; simp), if_neg (by simp)]
  have hFR : rcFol P g s Y = R := by unfold rcFol; rw [if_pos hFE, hYg.2]
  have H1 := Lib.hid (fun W (h : RdB W A n c b) => recMake_any P hP g s sm t k cl A n c b W hg hs hsm ht hk hcl h)
  rw [← hr0, hRM, hRE] at H1
  have H2 := Lib.hid (fun A n c W (h : RdB W A n c R.b) => recPut_any R A n c W hRok h)
  rw [← hY, hPE] at H2
  have H3 := Lib.hid (fun A c W (h : RdB W A 256 c Y) => recGet_any A 256 c Y W h)
  rw [hYg.1, hYg.2] at H3
  have H4 := Lib.hid (fun A c W (h : RdB W A 256 c Y) => recFollow_any P hP g s A 256 c Y W h)
  rw [hFE, hFR] at H4
  have H5 := Lib.hid (fun A n c B m d W (h1 : RdB W A n c R.b) (h2 : RdB W B m d R.b) => refSame12_self R A n c B m d W hRD h1 h2)
  have H6 := Lib.hid (fun A' n' c' W (h1 : RdB W A' n' c' b) (h2 : RdB W A n c b) => refEvents12_self t k cl A' n' c' A n c b W h1 h2)
  obtain ⟨C, hC⟩ : ∃ C, C = crcClosed ((ys ++ List.replicate 252 0).take 252) := ⟨_, rfl⟩
  have hCl : C.length = 256 := by rw [hC]; simp [crcClosed, le4_length]
  have H7 := Lib.hid (fun A c W (h : RdB W A 252 c ((ys ++ List.replicate 252 0).take 252)) => refClosed_any A 252 c _ W h (by omega))
  rw [← hC] at H7
  obtain ⟨Z, hZ⟩ : ∃ Z, Z = rcGet C := ⟨_, rfl⟩
  obtain ⟨E, hE⟩ : ∃ E, E = rcGetE C := ⟨_, rfl⟩
  have hZok : Z.ok := by rw [hZ]; exact (rcGet_okk C).1
  have hZD := hZok.2.2.2.2.2.2
  have H8 := Lib.hid (fun A c W (h : RdB W A 256 c C) => recGet_any A 256 c C W h)
  rw [← hZ, ← hE] at H8
  have hway : (E ≠ 0 ∧ Z = rcZ) ∨ (E = 0 ∧ rcPutL Z = C ∧ rcPutE Z = 0) := by
    by_cases h : rcGetE C = 0
    · obtain ⟨h1, h2, h3, h4, h5, h6, h7⟩ := rcGet_ok C h
      exact .inr ⟨by rw [hE, h], by rw [hZ, h6], by rw [hZ]; unfold rcPutE; rw [if_pos h4]⟩
    · exact .inl ⟨by rw [hE]; exact h, by rw [hZ]; unfold rcGet; rw [if_neg h]⟩
  have H9 := Lib.hid (fun A n c W (h : RdB W A n c Z.b) => recPut_any Z A n c W hZok h)
  have HRD := Lib.hid hRD
  have HZD := Lib.hid hZD
  have HP := Lib.hid hP
  have HYL := Lib.hid hYl
  have HCL := Lib.hid hCl
  have HWAY := Lib.hid hway
  have HRG := Lib.hid hRg
  have HRS := Lib.hid hRs
  have HRM := Lib.hid hRm
  have HRT := Lib.hid hRt
  have HRK := Lib.hid hRk
  have HRC := Lib.hid hRcl
  have HRB := Lib.hid hRb
  clear hW0 hr0 hok0 hck hR hRM hRE hRok hRc hRD hRl hRb hRg hRs hRm hRt hRk hRcl hY hYl hPE hYg hFE hFR hC hCl hZ hE hZok hZD hway hP
  go_enter Try.func8, Try.ntmps8
  go_wp2_with fail
  rw [← HW0.out]
  refine H0.out.mono ?_
  rintro e w1 ⟨rfl, hb1⟩
  have qe1 := Lib.hid (rw_up qe.out hb1)
  have qP1 := Lib.hid (rw_up qP.out hb1)
  have B1 := below_then b0 hb1
  go_wp2_with (refine dig_load rfl _ rfl (w.heap.size + 1) rfl P 67 qP1.out HP.out ?_; have e0 := (cell_of_row w1 _ 0 _ _ _ qe1.out).trans (show (#[.int .u64 (t : Int), .int .i64 k, .int .u64 (cl : Int), .slice A n c] : Array Value)[0]? = some (.int .u64 (t : Int)) from rfl); have e1 := (cell_of_row w1 _ 1 _ _ _ qe1.out).trans (show (#[.int .u64 (t : Int), .int .i64 k, .int .u64 (cl : Int), .slice A n c] : Array Value)[1]? = some (.int .i64 k) from rfl); have e2 := (cell_of_row w1 _ 2 _ _ _ qe1.out).trans (show (#[.int .u64 (t : Int), .int .i64 k, .int .u64 (cl : Int), .slice A n c] : Array Value)[2]? = some (.int .u64 (cl : Int)) from rfl); have e3 := (cell_of_row w1 _ 3 _ _ _ qe1.out).trans (show (#[.int .u64 (t : Int), .int .i64 k, .int .u64 (cl : Int), .slice A n c] : Array Value)[3]? = some (.slice A n c) from rfl))
  refine (H1.out w1 (hr.below B1)).mono ?_
  rintro e w2 ⟨A2, n2, c2, rfl, r2, _, hb2⟩
  have qe2 := Lib.hid (rw_up qe1.out hb2)
  have qP2 := Lib.hid (rw_up qP1.out hb2)
  have B2 := below_then B1 hb2
  clear e0 e1 e2 e3
  go_wp2_with (first | (refine rc_fresh rfl _ _ rfl rfl rfl w2 rfl rfl HRD.out ?_; intro X2 q2 x2) | (refine rc_load rfl _ rfl rfl q2.out HRD.out ?_))
  have r2 := r2.below x2
  have qe2 := Lib.hid (rw_up qe2.out x2)
  have qP2 := Lib.hid (rw_up qP2.out x2)
  have B2 := below_then B2 x2
  refine (H2.out _ _ _ X2 r2).mono ?_
  rintro e w3 ⟨A3, n3, c3, rfl, ho3, hb3⟩
  have hn3 : n3 = 256 := by rw [← ho3.len, HYL.out]
  subst hn3
  have B3 := below_then B2 hb3
  have r3 := ho3.rd
  clear ho3
  have q3 := Lib.hid (q2.out.up hb3)
  have r2 := r2.below hb3
  have qe3 := Lib.hid (rw_up qe2.out hb3)
  have qP3 := Lib.hid (rw_up qP2.out hb3)
  go_wp2_with fail
  refine (H3.out _ _ w3 r3).mono ?_
  rintro e w4 ⟨A4, n4, c4, rfl, r4, _, hb4⟩
  go_wp2_with (first | (refine rc_fresh rfl _ _ rfl rfl rfl w4 rfl rfl HRD.out ?_; intro X4 q4 x4; have qP4 := Lib.hid (rw_up (rw_up qP3.out hb4) x4)) | (refine dig_load rfl _ rfl (w.heap.size + 1) rfl P 67 qP4.out HP.out ?_))
  have B4 := below_then (below_then B3 hb4) x4
  have r4 := r4.below x4
  have r3 := (r3.below hb4).below x4
  have r2 := (r2.below hb4).below x4
  have q4a := Lib.hid ((q3.out.up hb4).up x4)
  have qe4 := Lib.hid (rw_up (rw_up qe3.out hb4) x4)
  refine (H4.out _ _ X4 r3).mono ?_
  rintro e w5 ⟨A5, n5, c5, rfl, r5, _, hb5⟩
  go_wp2_with (first | (refine rc_fresh rfl _ _ rfl rfl rfl w5 rfl rfl HRD.out ?_; intro X5 q5 x5; have q5a := Lib.hid ((q4a.out.up hb5).up x5); have q5b := Lib.hid ((q4.out.up hb5).up x5)) | (refine wpList_unguard (by rfl) (rc_load rfl _ rfl rfl q5a.out HRD.out ?_)) | (refine wpList_unguard (by rfl) (rc_load rfl _ rfl rfl q5b.out HRD.out ?_)))
  have B5 := below_then (below_then B4 hb5) x5
  have r5 := r5.below x5
  have r4 := (r4.below hb5).below x5
  have r2 := (r2.below hb5).below x5
  have qe5 := Lib.hid (rw_up (rw_up qe4.out hb5) x5)
  refine (H5.out _ _ _ _ _ _ X5 r2 r4).mono ?_
  rintro e w6 ⟨rfl, hb6⟩
  have q6a := Lib.hid (q5a.out.up hb6)
  have q6b := Lib.hid (q5.out.up hb6)
  have B6 := below_then B5 hb6
  have r5 := r5.below hb6
  have r2 := r2.below hb6
  have qe6 := Lib.hid (rw_up qe5.out hb6)
  go_wp2_with (first | (refine wpList_unguard (by rfl) (rc_load rfl _ rfl rfl q6a.out HRD.out ?_)) | (refine wpList_unguard (by rfl) (rc_load rfl _ rfl rfl q6b.out HRD.out ?_)))
  refine (H5.out _ _ _ _ _ _ w6 r2 r5).mono ?_
  rintro e w7 ⟨rfl, hb7⟩
  have q7 := Lib.hid (q6a.out.up hb7)
  have B7 := below_then B6 hb7
  have r2 := r2.below hb7
  have qe7 := Lib.hid (rw_up qe6.out hb7)
  have k3 := q7.out.c3
  have k4 := q7.out.c4
  have k5 := q7.out.c5
  have k6 := q7.out.c6
  rw [HRT.out] at k3
  rw [HRK.out] at k4
  rw [HRC.out] at k5
  have e0 := (cell_of_row w7 _ 0 _ _ _ qe7.out).trans (show (#[.int .u64 (t : Int), .int .i64 k, .int .u64 (cl : Int), .slice A n c] : Array Value)[0]? = some (.int .u64 (t : Int)) from rfl)
  have e1 := (cell_of_row w7 _ 1 _ _ _ qe7.out).trans (show (#[.int .u64 (t : Int), .int .i64 k, .int .u64 (cl : Int), .slice A n c] : Array Value)[1]? = some (.int .i64 k) from rfl)
  have e2 := (cell_of_row w7 _ 2 _ _ _ qe7.out).trans (show (#[.int .u64 (t : Int), .int .i64 k, .int .u64 (cl : Int), .slice A n c] : Array Value)[2]? = some (.int .u64 (cl : Int)) from rfl)
  have e3 := (cell_of_row w7 _ 3 _ _ _ qe7.out).trans (show (#[.int .u64 (t : Int), .int .i64 k, .int .u64 (cl : Int), .slice A n c] : Array Value)[3]? = some (.slice A n c) from rfl)
  go_wp2_with fail
  refine (H6.out _ _ _ w7 (HRB.out ▸ r2) (hr.below B7)).mono ?_
  rintro e w8 ⟨rfl, hb8⟩
  have q8 := Lib.hid (q7.out.up hb8)
  have B8 := below_then B7 hb8
  have hy8 := hy.below B8
  have k0 := q8.out.c0
  have k1 := q8.out.c1
  have k2 := q8.out.c2
  rw [HRG.out] at k0
  rw [HRS.out] at k1
  rw [HRM.out] at k2
  clear k3 k4 k5 k6 e0 e1 e2 e3
  go_wp2_with (first
    | (at_builtin; refine wp_appZ rfl _ _ rfl hbA (Nat.le_refl _) hbA.size AA m cA ys rfl hoA 252 .i64 252 rfl (by omega) (by omega) (m + 252) (ys ++ List.replicate 252 0) rfl rfl ?_; intro AB cB wB hoB hbB hgB; have h1 := hoB.rd; have h2 := h1.2.2.1; have h3 := h1.c63)
    | (at_builtin; refine wp_appB rfl _ _ rfl ((below_self w8).alloc (Nat.le_refl _) _) (Nat.le_refl _) (by simp) (some ⟨w8.heap.size, 0, none⟩) 0 0 [] rfl (own0 w8) B m d ys rfl (hy8.alloc _) (by omega) m ys (by omega) (by simp) ?_; intro AA cA wA hoA hbA hgA))
  refine (H7.out AB cB wB (h1.take 252 (by omega))).mono ?_
  rintro e w10 ⟨A10, n10, c10, rfl, ho10, hb10⟩
  have hn10 : n10 = 256 := by rw [← ho10.len, HCL.out]
  subst hn10
  have r10 := ho10.rd
  have B10 := below_then B8 (below_then hbB hb10)
  clear hoA hoB ho10 h1 h2 h3 k0 k1 k2
  go_wp2_with fail
  refine (H8.out _ _ w10 r10).mono ?_
  rintro e w11 ⟨A11, n11, c11, rfl, r11, _, hb11⟩
  rcases HWAY.out with ⟨hE, hZ⟩ | ⟨hE, hZL, hZE⟩
  · have hE1 : (E == 0) = false := by simpa using hE
    have hE2 : (E != 0) = true := by simpa using hE
    subst hZ
    have H5Z := Lib.hid (fun A n c W (h1 : RdB W A n c rcZ.b) => refSame12_self rcZ A n c none 0 0 W HZD.out h1 (RdB.nilB W))
    rw [← zeroRc] at H5Z
    go_wp2_with (first | (refine rc_fresh rfl _ _ rfl rfl rfl w11 rfl rfl HZD.out ?_; intro X11 q11 x11) | (refine rc_load rfl _ rfl rfl q11.out HZD.out ?_))
    have B11 := below_then (below_then B10 hb11) x11
    refine (H5Z.out _ _ _ X11 (r11.below x11)).mono ?_
    rintro e w12 ⟨rfl, hb12⟩
    go_wp2_with fail
    refine (heads12 _).mono ?_
    rintro e w9 ⟨rfl, hb9⟩
    go_wp2
    go_ret
    exact ⟨rfl, below_then (below_then B11 hb12) hb9⟩
  · subst hE
    rw [hZL, hZE] at H9
    go_wp2_with (first | (refine rc_fresh rfl _ _ rfl rfl rfl w11 rfl rfl HZD.out ?_; intro X11 q11 x11) | (refine rc_load rfl _ rfl rfl q11.out HZD.out ?_))
    have B11 := below_then (below_then B10 hb11) x11
    have r10 := (r10.below hb11).below x11
    refine (H9.out _ _ _ X11 (r11.below x11)).mono ?_
    rintro e w12 ⟨A12, n12, c12, rfl, ho12, hb12⟩
    have r12 := ho12.rd
    have r10 := r10.below hb12
    have H10 := Lib.hid (bytes_any A10 A12 256 c10 n12 c12 C C w12 r10 r12)
    rw [decide_eq_true rfl] at H10
    clear ho12
    go_wp2_with fail
    refine H10.out.mono ?_
    rintro e w13 ⟨rfl, rfl⟩
    go_wp2_with fail
    refine (heads12 _).mono ?_
    rintro e w9 ⟨rfl, hb9⟩
    go_wp2
    go_ret
    exact ⟨rfl, below_then (below_then B11 hb12) hb9⟩
theorem recBack_law (t : Nat) (k : Int) (cl : Nat) (A : Option Addr) (n c : Nat) (b : List UInt8) (P : List UInt8) (g s sm : Nat) (B : Option Addr) (m d : Nat) (ys : List UInt8) (w : World) (ht : t < 18446744073709551616) (hk : -9223372036854775808 ≤ k ∧ k ≤ 9223372036854775807) (hcl : cl < 18446744073709551616) (hr : RdB w A n c b) (hP : P.length = 32) (hg : g < 4294967296) (hs : s < 4294967296) (hsm : sm < 4294967296) (hy : RdB w B m d ys) :
    Calls Try.prog 8 #[.agg #[.int .u64 (t : Int), .int .i64 k, .int .u64 (cl : Int), .slice A n c], .agg (dgA P), .int .u32 (g : Int), .int .u32 (s : Int), .int .u32 (sm : Int), .slice B m d] w (RetV w (.bool true)) := by
  cases hc : rcChk k cl n with
  | false => exact recBack_no t k cl A n c b P g s sm B m d ys w ht hk hcl hr hP hg hs hsm hy hc
  | true =>
    by_cases h4 : m ≤ 252
    · exact recBack_main t k cl A n c b P g s sm B m d ys w ht hk hcl hr hP hg hs hsm hy hc h4
    · exact recBack_long t k cl A n c b P g s sm B m d ys w ht hk hcl hr hP hg hs hsm hy hc (by omega)
end Go.Proofs.Ytnfepikgbdeomaa
