/-
 Proved here, for the statement JournalTells:
 Layer 12: records: Follow.
 Layer 14: journal: words for stores into the middle, appends onto what is clippe
-/
import Derived.Test.YtpahicfnhhhifaaGreatGt08
import Derived.Test.YtpahicfnhhhifaaGreatGt14
set_option linter.unusedVariables false
set_option linter.unusedSimpArgs false
namespace Go.Proofs.YtpahicfnhhhifaaGreat
set_option maxRecDepth 20000
open Go.RowKit
set_option maxHeartbeats 4000000
theorem rdig_eq (P Q : List UInt8) (hP : P.length = 32) (hQ : Q.length = 32) (W : World) : (Op.equalIn 10000 30 (.agg (dgA P)) (.agg (dgA Q))).run Tryz.prog W = .ok (decide (P = Q)) W := run_eqIn_digest 9996 W P Q hP hQ
theorem mid_dig {w : World} {h : Nat} {r : Rc} {A : Option Addr} {n c : Nat} (q : RcAt w h r A n c) (hD : r.D.length = 32) : (loadVar 30 ⟨h, 7, none⟩).run Tryz.prog w = .ok (.agg (dgA r.D)) w :=
 run_loadVar_mid w h 7 30 (r.D.map vB) _ (rd_range (q.dig hD)) Tryz.underlying30 rfl (by rw [List.length_map, hD]; kernel_rfl)
theorem recFollow_err (P : List UInt8) (hP : P.length = 32) (g s : Nat) (A : Option Addr) (n c : Nat) (xs : List UInt8) (w : World) (hr : RdB w A n c xs) (hE0 : rcGetE xs ≠ 0) :
  Calls Tryz.prog 116 #[.agg (dgA P), .int .u32 (g : Int), .int .u32 (s : Int), .slice A n c] w (RetRc w rcZ (rcGetE xs)) := by
 have hn := hr.n63
 have hL := hr.2.1
 have hc := hr.2.2.1
 obtain ⟨V, hV⟩ : ∃ V, V = (w.alloc (.cells (dgA P) 30)).alloc (.cells zz3 90) := ⟨_, rfl⟩
 have bV : Below w.heap.size w V := by rw [hV]; exact ((below_self w).alloc (Nat.le_refl _) _).alloc (by simp) _
 have zV : V.heap.size = w.heap.size + 2 := by rw [hV]; simp
 have QP : Hid (V.heap[w.heap.size]? = some (.cells (dgA P) 30 (0, 0))) := by rw [hV]; exact Lib.hid (rw_old _ (rw_at _ rfl))
 have Q : Hid (RcAt V (w.heap.size + 1) rcZ none 0 0) := by rw [hV]; exact Lib.hid (zeroAt (by simp))
 have HV := Lib.hid hV
 have hG := recGet_any A n c xs V (hr.below bV)
 obtain ⟨hok9, hb9⟩ := rcGet_okk xs
 obtain ⟨E, hE⟩ : ∃ E, rcGetE xs = E := ⟨_, rfl⟩
 obtain ⟨R, hR⟩ : ∃ R, rcGet xs = R := ⟨_, rfl⟩
 rw [hE, hR] at hG
 rw [hR] at hok9
 have n0 : ¬ (E = 0) := by rw [← hE]; exact hE0
 have n1 : (E != 0) = true := bne_iff_ne.2 n0
 have HG := Lib.hid hG
 have HE := Lib.hid hE
 have HR := Lib.hid hR
 have HRD := Lib.hid hok9.2.2.2.2.2.2
 have HP := Lib.hid hP
 have ZV := Lib.hid zV
 have HB9 := Lib.hid hb9
 clear hV hG hE hR hP zV hb9
 go_enter Tryz.func116, Tryz.ntmps116
 go_wp2_with fail
 rw [← HV.out]
 refine HG.out.mono ?_
 rintro e w3 ⟨A4, n4, c4, rfl, hRb, hRf, hb3⟩
 have Q3 := Lib.hid (Q.out.up hb3)
 obtain ⟨Z3, hZ3⟩ : ∃ W, W = w3.alloc (.cells zz3 90) := ⟨_, rfl⟩
 have QZ : Hid (RcAt Z3 w3.heap.size rcZ none 0 0) := by rw [hZ3]; exact Lib.hid (zeroAt rfl)
 have bZ : Below w3.heap.size w3 Z3 := by rw [hZ3]; exact (below_self _).alloc (Nat.le_refl _) _
 obtain ⟨X, hX⟩ : ∃ W, W = Z3.setRow w3.heap.size (rcV R A4 n4 c4).toArray := ⟨_, rfl⟩
 have bX : Below w3.heap.size w3 X := by rw [hX]; exact below_setRow bZ (Nat.le_refl _) _
 have QX : Hid (RcAt X w3.heap.size R A4 n4 c4) := by rw [hX]; exact Lib.hid QZ.out.setRow
 have QR : Hid (RcAt X (w.heap.size + 1) rcZ none 0 0) := Lib.hid (Q3.out.up bX)
 have QP := Lib.hid (rw_up QP.out (below_then hb3 bX))
 have B := below_then (below_then bV hb3) bX
 have hrX := hr.below B
 have hRbX := hRb.below bX
 have z3 := hb3.size
 have k0 := RcAt.c0 QX.out
 have k1 := RcAt.c1 QX.out
 rw [hX] at k0 k1
 have HX3 := Lib.hid hX
 have HZ3 := Lib.hid hZ3
 clear hX hZ3
 clear hE0
 go_wp2_with (first | (rw [← HZ3.out]; refine rc_store rfl _ _ rfl rfl rfl QZ.out HRD.out rcZD ?_) | (rw [← HX3.out]; refine rc_store rfl _ _ rfl rfl (r := rcZ) (A := none) (n := 0) (c := 0) (congrArg Value.agg zeroRc) QR.out rcZD rcZD ?_))
 refine bodyPost_ret (rresults_row_tmp Tryz.results116 _ _ (w.heap.size + 1) 90 _ (0, 0) _ rfl (RcAt.setRow (r' := rcZ) (A' := none) (n' := 0) (c' := 0) QR.out) Tryz.underlying90 rfl (rcInfo rcZ none 0 0 rcZD)) rfl ?_
 exact ⟨none, 0, 0, by rw [HE.out]; rfl, RdB.nilB _, fun h => absurd h (Nat.lt_irrefl 0), below_setRow (B) (by omega) _⟩
theorem recFollow_gen (P : List UInt8) (hP : P.length = 32) (g s : Nat) (A : Option Addr) (n c : Nat) (xs : List UInt8) (w : World) (hr : RdB w A n c xs) (hE0 : rcGetE xs = 0) (hne : (rcGet xs).g ≠ g) :
  Calls Tryz.prog 116 #[.agg (dgA P), .int .u32 (g : Int), .int .u32 (s : Int), .slice A n c] w (RetRc w rcZ 120) := by
 have hn := hr.n63
 have hL := hr.2.1
 have hc := hr.2.2.1
 obtain ⟨V, hV⟩ : ∃ V, V = (w.alloc (.cells (dgA P) 30)).alloc (.cells zz3 90) := ⟨_, rfl⟩
 have bV : Below w.heap.size w V := by rw [hV]; exact ((below_self w).alloc (Nat.le_refl _) _).alloc (by simp) _
 have zV : V.heap.size = w.heap.size + 2 := by rw [hV]; simp
 have QP : Hid (V.heap[w.heap.size]? = some (.cells (dgA P) 30 (0, 0))) := by rw [hV]; exact Lib.hid (rw_old _ (rw_at _ rfl))
 have Q : Hid (RcAt V (w.heap.size + 1) rcZ none 0 0) := by rw [hV]; exact Lib.hid (zeroAt (by simp))
 have HV := Lib.hid hV
 have hG := recGet_any A n c xs V (hr.below bV)
 obtain ⟨hok9, hb9⟩ := rcGet_okk xs
 obtain ⟨E, hE⟩ : ∃ E, rcGetE xs = E := ⟨_, rfl⟩
 obtain ⟨R, hR⟩ : ∃ R, rcGet xs = R := ⟨_, rfl⟩
 rw [hE, hR] at hG
 rw [hR] at hok9
 have hE1 : E = 0 := by rw [← hE]; exact hE0
 subst hE1
 have n0 : ¬ ((R.g : Int) = (g : Int)) := by rw [← hR]; omega
 have n1 : ((R.g : Int) != (g : Int)) = true := bne_iff_ne.2 n0
 have HG := Lib.hid hG
 have HE := Lib.hid hE
 have HR := Lib.hid hR
 have HRD := Lib.hid hok9.2.2.2.2.2.2
 have HP := Lib.hid hP
 have ZV := Lib.hid zV
 have HB9 := Lib.hid hb9
 clear hV hG hE hR hP zV hb9
 go_enter Tryz.func116, Tryz.ntmps116
 go_wp2_with fail
 rw [← HV.out]
 refine HG.out.mono ?_
 rintro e w3 ⟨A4, n4, c4, rfl, hRb, hRf, hb3⟩
 have Q3 := Lib.hid (Q.out.up hb3)
 obtain ⟨Z3, hZ3⟩ : ∃ W, W = w3.alloc (.cells zz3 90) := ⟨_, rfl⟩
 have QZ : Hid (RcAt Z3 w3.heap.size rcZ none 0 0) := by rw [hZ3]; exact Lib.hid (zeroAt rfl)
 have bZ : Below w3.heap.size w3 Z3 := by rw [hZ3]; exact (below_self _).alloc (Nat.le_refl _) _
 obtain ⟨X, hX⟩ : ∃ W, W = Z3.setRow w3.heap.size (rcV R A4 n4 c4).toArray := ⟨_, rfl⟩
 have bX : Below w3.heap.size w3 X := by rw [hX]; exact below_setRow bZ (Nat.le_refl _) _
 have QX : Hid (RcAt X w3.heap.size R A4 n4 c4) := by rw [hX]; exact Lib.hid QZ.out.setRow
 have QR : Hid (RcAt X (w.heap.size + 1) rcZ none 0 0) := Lib.hid (Q3.out.up bX)
 have QP := Lib.hid (rw_up QP.out (below_then hb3 bX))
 have B := below_then (below_then bV hb3) bX
 have hrX := hr.below B
 have hRbX := hRb.below bX
 have z3 := hb3.size
 have k0 := RcAt.c0 QX.out
 have k1 := RcAt.c1 QX.out
 rw [hX] at k0 k1
 have HX3 := Lib.hid hX
 have HZ3 := Lib.hid hZ3
 clear hX hZ3
 clear hE0 hne
 go_wp2_with (first | (rw [← HZ3.out]; refine rc_store rfl _ _ rfl rfl rfl QZ.out HRD.out rcZD ?_) | (rw [← HX3.out]; refine rc_store rfl _ _ rfl rfl (r := rcZ) (A := none) (n := 0) (c := 0) (congrArg Value.agg zeroRc) QR.out rcZD rcZD ?_))
 refine bodyPost_ret (rresults_row_tmp Tryz.results116 _ _ (w.heap.size + 1) 90 _ (0, 0) _ rfl (RcAt.setRow (r' := rcZ) (A' := none) (n' := 0) (c' := 0) QR.out) Tryz.underlying90 rfl (rcInfo rcZ none 0 0 rcZD)) rfl ?_
 exact ⟨none, 0, 0, rfl, RdB.nilB _, fun h => absurd h (Nat.lt_irrefl 0), below_setRow (B) (by omega) _⟩
theorem recFollow_seq (P : List UInt8) (hP : P.length = 32) (g s : Nat) (A : Option Addr) (n c : Nat) (xs : List UInt8) (w : World) (hr : RdB w A n c xs) (hE0 : rcGetE xs = 0) (hg : (rcGet xs).g = g) (hne : (rcGet xs).s ≠ s) :
  Calls Tryz.prog 116 #[.agg (dgA P), .int .u32 (g : Int), .int .u32 (s : Int), .slice A n c] w (RetRc w rcZ 121) := by
 have hn := hr.n63
 have hL := hr.2.1
 have hc := hr.2.2.1
 obtain ⟨V, hV⟩ : ∃ V, V = (w.alloc (.cells (dgA P) 30)).alloc (.cells zz3 90) := ⟨_, rfl⟩
 have bV : Below w.heap.size w V := by rw [hV]; exact ((below_self w).alloc (Nat.le_refl _) _).alloc (by simp) _
 have zV : V.heap.size = w.heap.size + 2 := by rw [hV]; simp
 have QP : Hid (V.heap[w.heap.size]? = some (.cells (dgA P) 30 (0, 0))) := by rw [hV]; exact Lib.hid (rw_old _ (rw_at _ rfl))
 have Q : Hid (RcAt V (w.heap.size + 1) rcZ none 0 0) := by rw [hV]; exact Lib.hid (zeroAt (by simp))
 have HV := Lib.hid hV
 have hG := recGet_any A n c xs V (hr.below bV)
 obtain ⟨hok9, hb9⟩ := rcGet_okk xs
 obtain ⟨E, hE⟩ : ∃ E, rcGetE xs = E := ⟨_, rfl⟩
 obtain ⟨R, hR⟩ : ∃ R, rcGet xs = R := ⟨_, rfl⟩
 rw [hE, hR] at hG
 rw [hR] at hok9
 have hE1 : E = 0 := by rw [← hE]; exact hE0
 subst hE1
 have m0 : R.g = g := by rw [← hR]; exact hg
 subst m0
 have n0 : ¬ ((R.s : Int) = (s : Int)) := by rw [← hR]; omega
 have n1 : ((R.s : Int) != (s : Int)) = true := bne_iff_ne.2 n0
 have HG := Lib.hid hG
 have HE := Lib.hid hE
 have HR := Lib.hid hR
 have HRD := Lib.hid hok9.2.2.2.2.2.2
 have HP := Lib.hid hP
 have ZV := Lib.hid zV
 have HB9 := Lib.hid hb9
 clear hV hG hE hR hP zV hb9
 go_enter Tryz.func116, Tryz.ntmps116
 go_wp2_with fail
 rw [← HV.out]
 refine HG.out.mono ?_
 rintro e w3 ⟨A4, n4, c4, rfl, hRb, hRf, hb3⟩
 have Q3 := Lib.hid (Q.out.up hb3)
 obtain ⟨Z3, hZ3⟩ : ∃ W, W = w3.alloc (.cells zz3 90) := ⟨_, rfl⟩
 have QZ : Hid (RcAt Z3 w3.heap.size rcZ none 0 0) := by rw [hZ3]; exact Lib.hid (zeroAt rfl)
 have bZ : Below w3.heap.size w3 Z3 := by rw [hZ3]; exact (below_self _).alloc (Nat.le_refl _) _
 obtain ⟨X, hX⟩ : ∃ W, W = Z3.setRow w3.heap.size (rcV R A4 n4 c4).toArray := ⟨_, rfl⟩
 have bX : Below w3.heap.size w3 X := by rw [hX]; exact below_setRow bZ (Nat.le_refl _) _
 have QX : Hid (RcAt X w3.heap.size R A4 n4 c4) := by rw [hX]; exact Lib.hid QZ.out.setRow
 have QR : Hid (RcAt X (w.heap.size + 1) rcZ none 0 0) := Lib.hid (Q3.out.up bX)
 have QP := Lib.hid (rw_up QP.out (below_then hb3 bX))
 have B := below_then (below_then bV hb3) bX
 have hrX := hr.below B
 have hRbX := hRb.below bX
 have z3 := hb3.size
 have k0 := RcAt.c0 QX.out
 have k1 := RcAt.c1 QX.out
 rw [hX] at k0 k1
 have HX3 := Lib.hid hX
 have HZ3 := Lib.hid hZ3
 clear hX hZ3
 clear hE0 hne hg
 go_wp2_with (first | (rw [← HZ3.out]; refine rc_store rfl _ _ rfl rfl rfl QZ.out HRD.out rcZD ?_) | (rw [← HX3.out]; refine rc_store rfl _ _ rfl rfl (r := rcZ) (A := none) (n := 0) (c := 0) (congrArg Value.agg zeroRc) QR.out rcZD rcZD ?_))
 refine bodyPost_ret (rresults_row_tmp Tryz.results116 _ _ (w.heap.size + 1) 90 _ (0, 0) _ rfl (RcAt.setRow (r' := rcZ) (A' := none) (n' := 0) (c' := 0) QR.out) Tryz.underlying90 rfl (rcInfo rcZ none 0 0 rcZD)) rfl ?_
 exact ⟨none, 0, 0, rfl, RdB.nilB _, fun h => absurd h (Nat.lt_irrefl 0), below_setRow (B) (by omega) _⟩
theorem recFollow_chain (P : List UInt8) (hP : P.length = 32) (g s : Nat) (A : Option Addr) (n c : Nat) (xs : List UInt8) (w : World) (hr : RdB w A n c xs) (hE0 : rcGetE xs = 0) (hg : (rcGet xs).g = g) (hs : (rcGet xs).s = s) (hch : (rcGet xs).D ≠ shLink P (rcBody (rcGet xs))) :
  Calls Tryz.prog 116 #[.agg (dgA P), .int .u32 (g : Int), .int .u32 (s : Int), .slice A n c] w (RetRc w rcZ 122) := by
 have hn := hr.n63
 have hL := hr.2.1
 have hc := hr.2.2.1
 obtain ⟨V, hV⟩ : ∃ V, V = (w.alloc (.cells (dgA P) 30)).alloc (.cells zz3 90) := ⟨_, rfl⟩
 have bV : Below w.heap.size w V := by rw [hV]; exact ((below_self w).alloc (Nat.le_refl _) _).alloc (by simp) _
 have zV : V.heap.size = w.heap.size + 2 := by rw [hV]; simp
 have QP : Hid (V.heap[w.heap.size]? = some (.cells (dgA P) 30 (0, 0))) := by rw [hV]; exact Lib.hid (rw_old _ (rw_at _ rfl))
 have Q : Hid (RcAt V (w.heap.size + 1) rcZ none 0 0) := by rw [hV]; exact Lib.hid (zeroAt (by simp))
 have HV := Lib.hid hV
 have hG := recGet_any A n c xs V (hr.below bV)
 obtain ⟨hok9, hb9⟩ := rcGet_okk xs
 obtain ⟨E, hE⟩ : ∃ E, rcGetE xs = E := ⟨_, rfl⟩
 obtain ⟨R, hR⟩ : ∃ R, rcGet xs = R := ⟨_, rfl⟩
 rw [hE, hR] at hG
 rw [hR] at hok9
 have hE1 : E = 0 := by rw [← hE]; exact hE0
 subst hE1
 have m0 : R.g = g := by rw [← hR]; exact hg
 subst m0
 have m1 : R.s = s := by rw [← hR]; exact hs
 subst m1
 obtain ⟨t1, t2, t3, t4, t5, t6, t7⟩ := rcGet_ok xs hE0
 have hn256 : n = 256 := by rw [← hL]; exact t2
 subst hn256
 have htk : xs.take 220 = rcBody R := by rw [← hR]; exact rcGet_take xs hE0
 obtain ⟨LK, hLK⟩ : ∃ d, d = shLink P (rcBody R) := ⟨_, rfl⟩
 have hLKl : LK.length = 32 := by rw [hLK]; exact shLink_len _ _
 have hq : decide (R.D = LK) = false := by rw [hLK, ← hR]; exact decide_eq_false hch
 have KQ := Lib.hid (fun W => hq ▸ rdig_eq R.D LK hok9.2.2.2.2.2.2 hLKl W)
 have HTK := Lib.hid htk
 have HLK := Lib.hid hLK
 have ci : (220 : Int) ≤ (c : Int) := by omega
 clear t1 t2 t3 t4 t5 t6 t7 hch htk hLK hLKl hq hL
 have HG := Lib.hid hG
 have HE := Lib.hid hE
 have HR := Lib.hid hR
 have HRD := Lib.hid hok9.2.2.2.2.2.2
 have HP := Lib.hid hP
 have ZV := Lib.hid zV
 have HB9 := Lib.hid hb9
 clear hV hG hE hR hP zV hb9
 go_enter Tryz.func116, Tryz.ntmps116
 go_wp2_with fail
 rw [← HV.out]
 refine HG.out.mono ?_
 rintro e w3 ⟨A4, n4, c4, rfl, hRb, hRf, hb3⟩
 have Q3 := Lib.hid (Q.out.up hb3)
 obtain ⟨Z3, hZ3⟩ : ∃ W, W = w3.alloc (.cells zz3 90) := ⟨_, rfl⟩
 have QZ : Hid (RcAt Z3 w3.heap.size rcZ none 0 0) := by rw [hZ3]; exact Lib.hid (zeroAt rfl)
 have bZ : Below w3.heap.size w3 Z3 := by rw [hZ3]; exact (below_self _).alloc (Nat.le_refl _) _
 obtain ⟨X, hX⟩ : ∃ W, W = Z3.setRow w3.heap.size (rcV R A4 n4 c4).toArray := ⟨_, rfl⟩
 have bX : Below w3.heap.size w3 X := by rw [hX]; exact below_setRow bZ (Nat.le_refl _) _
 have QX : Hid (RcAt X w3.heap.size R A4 n4 c4) := by rw [hX]; exact Lib.hid QZ.out.setRow
 have QR : Hid (RcAt X (w.heap.size + 1) rcZ none 0 0) := Lib.hid (Q3.out.up bX)
 have QP := Lib.hid (rw_up QP.out (below_then hb3 bX))
 have B := below_then (below_then bV hb3) bX
 have hrX := hr.below B
 have hRbX := hRb.below bX
 have z3 := hb3.size
 have k0 := RcAt.c0 QX.out
 have k1 := RcAt.c1 QX.out
 rw [hX] at k0 k1
 have HX3 := Lib.hid hX
 have HZ3 := Lib.hid hZ3
 clear hX hZ3
 clear hE0 hg hs
 rw [HX3.out.symm] at k0 k1
 have k0' := k0
 have k1' := k1
 rw [HX3.out] at k0 k1
 go_wp2_with (rw [← HZ3.out]; refine rc_store rfl _ _ rfl rfl rfl QZ.out HRD.out rcZD ?_)
 try rw [← HX3.out]
 have lP := rw_lt QP.out
 refine wp_region_seg (S := fun w' => Below X.heap.size X w') 0 (brw9 8 255) [(0, true), (1, true), (2, true), (3, true), (4, true), (5, false), (6, true), (7, true)] (by kernel_rfl) (by kernel_rfl) (fun _ _ d _ _ h => by first | (cases d <;> exact h) | cases h.1) ((Below.refl X.heap.size X).drew) ?_
 have HB := (Below.refl X.heap.size X).drew
 iterate 1 (refine seg_take (v := ?_) rfl (Or.inl ⟨by rfl, ?_⟩) ?_; rotate_left; (focus (intro w' hw'; go_simp <;> with_reducible rfl)); try simp only [Act.put, pst3])
 refine seg_take (v := .agg (dgA R.D)) rfl (Or.inl ⟨by rfl, fun w' hw' => ?_⟩) ?_
 focus (exact rex_load rfl rfl (mid_dig (QX.out.up hw') HRD.out))
 try simp only [Act.put, pst3]
 refine seg_take (v := .agg (dgA P)) rfl (Or.inl ⟨by rfl, fun w' hw' => ?_⟩) ?_
 focus (exact rex_load rfl rfl (run_loadVar_row w' w.heap.size _ 30 _ _ _ (rw_up QP.out hw') Tryz.underlying30 rfl (infoD P HP.out)))
 try simp only [Act.put, pst3]
 iterate 2 (refine seg_take (v := ?_) rfl (Or.inl ⟨by rfl, ?_⟩) ?_; rotate_left; (focus (intro w' hw'; go_simp <;> with_reducible rfl)); try simp only [Act.put, pst3])
 refine seg_run rfl (fun K hK => ?_)
 go_simp
 refine (shaLink_any P HP.out _ 220 _ (xs.take 220) _ ((hrX.below HB).take 220 (by omega)) (by omega)).mono ?_
 rintro e_ w7 ⟨rfl, hb7⟩
 rw [HTK.out, ← HLK.out]
 have HB := below_then HB hb7
 refine hK.out _ _ (HB) ?_
 clear hK
 try simp only [Act.put, pst3]
 refine seg_take (v := .bool true) rfl (Or.inl ⟨by rfl, fun w' hw' => ?_⟩) ?_
 focus ((have jj := KQ.out w'; go_simp))
 try simp only [Act.put, pst3]
 iterate 1 (refine seg_take (v := ?_) rfl (Or.inl ⟨by rfl, ?_⟩) ?_; rotate_left; (focus (intro w' hw'; go_simp <;> with_reducible rfl)); try simp only [Act.put, pst3])
 refine seg_done (fun _ => ?_)
 refine wpAnyH_done (by kernel_rfl) ?_ _
 have QX7 := Lib.hid (QX.out.up HB)
 have QR7 := Lib.hid (QR.out.up HB)
 have B7 := below_then B HB
 go_wp2_with (refine rc_store rfl _ _ rfl rfl (r := rcZ) (A := none) (n := 0) (c := 0) (congrArg Value.agg zeroRc) QR7.out rcZD rcZD ?_)
 refine bodyPost_ret (rresults_row_tmp Tryz.results116 _ _ (w.heap.size + 1) 90 _ (0, 0) _ rfl (RcAt.setRow (r' := rcZ) (A' := none) (n' := 0) (c' := 0) QR7.out) Tryz.underlying90 rfl (rcInfo rcZ none 0 0 rcZD)) rfl ?_
 exact ⟨none, 0, 0, rfl, RdB.nilB _, fun h => absurd h (Nat.lt_irrefl 0), below_setRow (B7) (by omega) _⟩
theorem recFollow_yes (P : List UInt8) (hP : P.length = 32) (g s : Nat) (A : Option Addr) (n c : Nat) (xs : List UInt8) (w : World) (hr : RdB w A n c xs) (hE0 : rcGetE xs = 0) (hg : (rcGet xs).g = g) (hs : (rcGet xs).s = s) (hch : (rcGet xs).D = shLink P (rcBody (rcGet xs))) :
  Calls Tryz.prog 116 #[.agg (dgA P), .int .u32 (g : Int), .int .u32 (s : Int), .slice A n c] w (RetRc w (rcGet xs) 0) := by
 have hn := hr.n63
 have hL := hr.2.1
 have hc := hr.2.2.1
 obtain ⟨V, hV⟩ : ∃ V, V = (w.alloc (.cells (dgA P) 30)).alloc (.cells zz3 90) := ⟨_, rfl⟩
 have bV : Below w.heap.size w V := by rw [hV]; exact ((below_self w).alloc (Nat.le_refl _) _).alloc (by simp) _
 have zV : V.heap.size = w.heap.size + 2 := by rw [hV]; simp
 have QP : Hid (V.heap[w.heap.size]? = some (.cells (dgA P) 30 (0, 0))) := by rw [hV]; exact Lib.hid (rw_old _ (rw_at _ rfl))
 have Q : Hid (RcAt V (w.heap.size + 1) rcZ none 0 0) := by rw [hV]; exact Lib.hid (zeroAt (by simp))
 have HV := Lib.hid hV
 have hG := recGet_any A n c xs V (hr.below bV)
 obtain ⟨hok9, hb9⟩ := rcGet_okk xs
 obtain ⟨E, hE⟩ : ∃ E, rcGetE xs = E := ⟨_, rfl⟩
 obtain ⟨R, hR⟩ : ∃ R, rcGet xs = R := ⟨_, rfl⟩
 rw [hE, hR] at hG
 rw [hR] at hok9
 have hE1 : E = 0 := by rw [← hE]; exact hE0
 subst hE1
 have m0 : R.g = g := by rw [← hR]; exact hg
 subst m0
 have m1 : R.s = s := by rw [← hR]; exact hs
 subst m1
 obtain ⟨t1, t2, t3, t4, t5, t6, t7⟩ := rcGet_ok xs hE0
 have hn256 : n = 256 := by rw [← hL]; exact t2
 subst hn256
 have htk : xs.take 220 = rcBody R := by rw [← hR]; exact rcGet_take xs hE0
 obtain ⟨LK, hLK⟩ : ∃ d, d = shLink P (rcBody R) := ⟨_, rfl⟩
 have hLKl : LK.length = 32 := by rw [hLK]; exact shLink_len _ _
 have hq : decide (R.D = LK) = true := by rw [hLK, ← hR]; exact decide_eq_true hch
 have KQ := Lib.hid (fun W => hq ▸ rdig_eq R.D LK hok9.2.2.2.2.2.2 hLKl W)
 have HTK := Lib.hid htk
 have HLK := Lib.hid hLK
 have ci : (220 : Int) ≤ (c : Int) := by omega
 clear t1 t2 t3 t4 t5 t6 t7 hch htk hLK hLKl hq hL
 have HG := Lib.hid hG
 have HE := Lib.hid hE
 have HR := Lib.hid hR
 have HRD := Lib.hid hok9.2.2.2.2.2.2
 have HP := Lib.hid hP
 have ZV := Lib.hid zV
 have HB9 := Lib.hid hb9
 clear hV hG hE hR hP zV hb9
 go_enter Tryz.func116, Tryz.ntmps116
 go_wp2_with fail
 rw [← HV.out]
 refine HG.out.mono ?_
 rintro e w3 ⟨A4, n4, c4, rfl, hRb, hRf, hb3⟩
 have Q3 := Lib.hid (Q.out.up hb3)
 obtain ⟨Z3, hZ3⟩ : ∃ W, W = w3.alloc (.cells zz3 90) := ⟨_, rfl⟩
 have QZ : Hid (RcAt Z3 w3.heap.size rcZ none 0 0) := by rw [hZ3]; exact Lib.hid (zeroAt rfl)
 have bZ : Below w3.heap.size w3 Z3 := by rw [hZ3]; exact (below_self _).alloc (Nat.le_refl _) _
 obtain ⟨X, hX⟩ : ∃ W, W = Z3.setRow w3.heap.size (rcV R A4 n4 c4).toArray := ⟨_, rfl⟩
 have bX : Below w3.heap.size w3 X := by rw [hX]; exact below_setRow bZ (Nat.le_refl _) _
 have QX : Hid (RcAt X w3.heap.size R A4 n4 c4) := by rw [hX]; exact Lib.hid QZ.out.setRow
 have QR : Hid (RcAt X (w.heap.size + 1) rcZ none 0 0) := Lib.hid (Q3.out.up bX)
 have QP := Lib.hid (rw_up QP.out (below_then hb3 bX))
 have B := below_then (below_then bV hb3) bX
 have hrX := hr.below B
 have hRbX := hRb.below bX
 have z3 := hb3.size
 have k0 := RcAt.c0 QX.out
 have k1 := RcAt.c1 QX.out
 rw [hX] at k0 k1
 have HX3 := Lib.hid hX
 have HZ3 := Lib.hid hZ3
 clear hX hZ3
 clear hE0 hg hs
 rw [HX3.out.symm] at k0 k1
 have k0' := k0
 have k1' := k1
 rw [HX3.out] at k0 k1
 go_wp2_with (rw [← HZ3.out]; refine rc_store rfl _ _ rfl rfl rfl QZ.out HRD.out rcZD ?_)
 try rw [← HX3.out]
 have lP := rw_lt QP.out
 refine wp_region_seg (S := fun w' => Below X.heap.size X w') 0 (brw9 8 255) [(0, true), (1, true), (2, true), (3, true), (4, true), (5, false), (6, true), (7, true)] (by kernel_rfl) (by kernel_rfl) (fun _ _ d _ _ h => by first | (cases d <;> exact h) | cases h.1) ((Below.refl X.heap.size X).drew) ?_
 have HB := (Below.refl X.heap.size X).drew
 iterate 1 (refine seg_take (v := ?_) rfl (Or.inl ⟨by rfl, ?_⟩) ?_; rotate_left; (focus (intro w' hw'; go_simp <;> with_reducible rfl)); try simp only [Act.put, pst3])
 refine seg_take (v := .agg (dgA R.D)) rfl (Or.inl ⟨by rfl, fun w' hw' => ?_⟩) ?_
 focus (exact rex_load rfl rfl (mid_dig (QX.out.up hw') HRD.out))
 try simp only [Act.put, pst3]
 refine seg_take (v := .agg (dgA P)) rfl (Or.inl ⟨by rfl, fun w' hw' => ?_⟩) ?_
 focus (exact rex_load rfl rfl (run_loadVar_row w' w.heap.size _ 30 _ _ _ (rw_up QP.out hw') Tryz.underlying30 rfl (infoD P HP.out)))
 try simp only [Act.put, pst3]
 iterate 2 (refine seg_take (v := ?_) rfl (Or.inl ⟨by rfl, ?_⟩) ?_; rotate_left; (focus (intro w' hw'; go_simp <;> with_reducible rfl)); try simp only [Act.put, pst3])
 refine seg_run rfl (fun K hK => ?_)
 go_simp
 refine (shaLink_any P HP.out _ 220 _ (xs.take 220) _ ((hrX.below HB).take 220 (by omega)) (by omega)).mono ?_
 rintro e_ w7 ⟨rfl, hb7⟩
 rw [HTK.out, ← HLK.out]
 have HB := below_then HB hb7
 refine hK.out _ _ (HB) ?_
 clear hK
 try simp only [Act.put, pst3]
 refine seg_take (v := .bool false) rfl (Or.inl ⟨by rfl, fun w' hw' => ?_⟩) ?_
 focus ((have jj := KQ.out w'; go_simp))
 try simp only [Act.put, pst3]
 iterate 1 (refine seg_take (v := ?_) rfl (Or.inl ⟨by rfl, ?_⟩) ?_; rotate_left; (focus (intro w' hw'; go_simp <;> with_reducible rfl)); try simp only [Act.put, pst3])
 refine seg_done (fun _ => ?_)
 refine wpAnyH_done (by kernel_rfl) ?_ _
 have QX7 := Lib.hid (QX.out.up HB)
 have QR7 := Lib.hid (QR.out.up HB)
 have B7 := below_then B HB
 go_wp2_with (first | (refine rc_load rfl _ rfl rfl QX7.out HRD.out ?_) | (refine rc_store rfl _ _ rfl rfl rfl QR7.out HRD.out rcZD ?_))
 rw [HR.out]
 refine bodyPost_ret (rresults_row_tmp Tryz.results116 _ _ (w.heap.size + 1) 90 _ (0, 0) _ rfl (RcAt.setRow (r' := R) (A' := A4) (n' := n4) (c' := c4) QR7.out) Tryz.underlying90 rfl (rcInfo R A4 n4 c4 HRD.out)) rfl ?_
 exact ⟨A4, n4, c4, rfl, rd_row (hRbX.below HB) (w.heap.size + 1) _ (fun h0 a e => by have := hRf h0 a e; have := ZV.out; omega), fun h0 a e => by have := hRf h0 a e; have := ZV.out; omega, below_setRow (B7) (by omega) _⟩
theorem recFollow_any (P : List UInt8) (hP : P.length = 32) (g s : Nat) (A : Option Addr) (n c : Nat) (xs : List UInt8) (w : World) (hr : RdB w A n c xs) :
  Calls Tryz.prog 116 #[.agg (dgA P), .int .u32 (g : Int), .int .u32 (s : Int), .slice A n c] w (RetRc w (rcFol P g s xs) (rcFolE P g s xs)) := by
 by_cases hE : rcGetE xs = 0
 ·by_cases hg : (rcGet xs).g = g
  ·by_cases hs : (rcGet xs).s = s
   ·by_cases hch : (rcGet xs).D = shLink P (rcBody (rcGet xs))
    ·have e : rcFolE P g s xs = 0 := by unfold rcFolE; rw [if_pos hE, if_neg (fun h => h hg), if_neg (fun h => h hs), if_neg (fun h => h hch)]
     have e2 : rcFol P g s xs = rcGet xs := by unfold rcFol; rw [if_pos e]
     rw [e, e2]; exact recFollow_yes P hP g s A n c xs w hr hE hg hs hch
    ·have e : rcFolE P g s xs = 122 := by unfold rcFolE; rw [if_pos hE, if_neg (fun h => h hg), if_neg (fun h => h hs), if_pos hch]
     have e2 : rcFol P g s xs = rcZ := by unfold rcFol; rw [if_neg (by rw [e]; decide)]
     rw [e, e2]; exact recFollow_chain P hP g s A n c xs w hr hE hg hs hch
   ·have e : rcFolE P g s xs = 121 := by unfold rcFolE; rw [if_pos hE, if_neg (fun h => h hg), if_pos hs]
    have e2 : rcFol P g s xs = rcZ := by unfold rcFol; rw [if_neg (by rw [e]; decide)]
    rw [e, e2]; exact recFollow_seq P hP g s A n c xs w hr hE hg hs
  ·have e : rcFolE P g s xs = 120 := by unfold rcFolE; rw [if_pos hE, if_pos hg]
   have e2 : rcFol P g s xs = rcZ := by unfold rcFol; rw [if_neg (by rw [e]; decide)]
   rw [e, e2]; exact recFollow_gen P hP g s A n c xs w hr hE hg
 ·have e : rcFolE P g s xs = rcGetE xs := by unfold rcFolE; rw [if_neg hE]
  have e2 : rcFol P g s xs = rcZ := by unfold rcFol; rw [if_neg (by rw [e]; exact hE)]
  rw [e, e2]; exact recFollow_err P hP g s A n c xs w hr hE
set_option maxHeartbeats 8000000
theorem setcs_row {g : Nat} {T : TypeId} : ∀ (vs : List Value) (o : Nat) (w : World) (pre olds post : List Value), pre.length = o → olds.length = vs.length → w.heap[g]? = some (.cells (pre ++ (olds ++ post)).toArray T (0, 0)) → (w.setCells g o vs).heap[g]? = some (.cells (pre ++ (vs ++ post)).toArray T (0, 0))
 | [], o, w, pre, olds, post, _, h2, h3 => by
  obtain rfl : olds = [] := List.eq_nil_of_length_eq_zero h2
  simpa [World.setCells] using h3
 | v :: r, o, w, pre, [], post, _, h2, h3 => by simp at h2
 | v :: r, o, w, pre, u :: us, post, h1, h2, h3 => by
  have h4 := setc_rowT (i := o) (v := v) h3
  rw [List.setIfInBounds_toArray, List.set_append_right _ _ (by omega), h1, Nat.sub_self] at h4
  have h5 := setcs_row (g := g) (T := T) r (o + 1) (w.setCell ⟨g, o, none⟩ v) (pre ++ [v]) us post (by simp [h1]) (by simpa using h2) (by simpa using h4)
  simpa [World.setCells] using h5
theorem JmAt.s5 {w : World} {g : Nat} {m : Jm} (q : JmAt w g m) (h : m.z) (D : List UInt8) (hD : D.length = 32) : JmAt (w.setCells g 5 (dgA D).toList) g { m with ch := D } := by
 unfold JmAt jmV at q ⊢
 refine setcs_row (dgA D).toList 5 w [.int .u32 (m.g : Int), .int .i64 m.slot, .int .u32 (m.next : Int), .int .u32 (m.done : Int), .int .u32 (m.will : Int)] (m.ch.map vB) _ rfl (by simp [dgA, h.1, hD]) q |>.trans ?_
 simp [dgA]
theorem JmAt.there5 {w : World} {g : Nat} {m : Jm} (q : JmAt w g m) (h : m.z) (k : Nat) (hk : k ≤ 32) : w.there g 5 k := fun j hj => ⟨by rw [q.cell, List.getElem?_eq_getElem (by rw [jmV_len h]; omega)]; rfl, q.fr _⟩
section
variable {ops : Array Oper} {rest : List Oper} {o : Oper} {a : Act} {w : World} {Q : Exit → Act → World → Prop} {h : Nat} {m : Jm}
theorem wp_growB (hgd : o.guard = none) (s x : Operand) (ho : o.op = .call { callee := .builtin .append, args := #[s, x], argTypes := #[47, 47] })
  (A : Option Addr) (n : Nat) (xs : List UInt8) (hs : a.eval s = .slice A n n) {c : Nat} (hr : RdB w A n c xs) (B : Option Addr) (k d : Nat) (ys : List UInt8) (hx : a.eval x = .slice B k d) (hy : RdB w B k d ys) (hk : 0 < k) (hm : n + k ≤ 70368744177664)
  (h : ∀ A' c' w', OwnB w' w.heap.size A' (n + k) c' (xs ++ ys) → Below w.heap.size w w' → wpList Tryz.prog ops Q rest (a.put o.dst (.slice A' (n + k) c')) w') : wpList Tryz.prog ops Q (o :: rest) a w := by
 obtain ⟨i, hi, hz, hsz, hby⟩ := info_parts elemB.info
 obtain ⟨ad, rfl, hc⟩ := rdB_src hy hk
 refine wpList_append_grows w hgd s x _ ho 5 i _ 1 1 Tryz.underlying47 hi hz hsz hby rfl (by decide) A n n (xs.map vB) hs ?_ (by simp [hr.2.1]) ?_ ad k d (ys.map vB) hx (by simp [hy.2.1]) hc (oneCell_vB _) (by omega) (by unfold maxLen; omega) (by omega) (fun v' w' h1 h2 => ?_)
 ·rintro rfl
  rcases hr.1 with h0 | ⟨b, o, he, _⟩
  ·have := hr.2.1; simp at h0; subst h0; simp at this; omega
  ·cases he
 ·rintro b rfl j u hj
  rcases hr.1 with h0 | ⟨b', o', he, _, hc'⟩
  ·rw [h0] at hj; simp at hj
  ·injection he with he; subst he; rw [Addr.add_lit]; exact hc' j u hj
 ·have hb : Below w.heap.size w w' := ⟨h2.os, h2.tape, h2.output, h2.size, fun j hj => h2.block j hj (by simp)⟩
  obtain ⟨A', c', rfl, _⟩ := own_form h1
  exact h A' c' w' (by unfold OwnB; rw [List.map_append]; exact h1) hb
end
theorem ws_app {P : Nat → Prop} {w w' : World} {base base2 : Nat} {e : TypeId} {A0 A' B : Option Addr} {n c0 c' k d : Nat} {us : List Value} {l : List Jb} {a : Int} {ys : List UInt8} (h : ∀ W, AgrP P w W → RdWs W A0 n c0 us l) (hb : Below w.heap.size w w') (ho : w'.ownsRow base e 2 (.slice A' (n + 1) c') (n + 1) (us ++ [.int .i64 a, .slice B k d])) (hs : ∀ j, P j → j < base) (hd : OwnB w' base2 B k d ys) (hs2 : ∀ j, P j → j < base2) (ha : -9223372036854775808 ≤ a ∧ a ≤ 9223372036854775807) : WsIn P w' A' (n + 1) c' (l ++ [(a, ys)]) :=
 ⟨_, fun W hW => by
  obtain ⟨f1, f2, f3, f4⟩ := own2_rd (own_agr0 ho hW hs)
  exact ⟨f1, f2, f3, f4, WParts.snoc ha (show OwnB W base2 B k d ys from own_agr0 hd hW hs2).rd (h W (hW.of hb)).2.2.2.2⟩⟩
theorem jinfo : ∃ i : TypeInfo, Tryz.prog.info? 60 = some i ∧ i.zero = some (.agg #[.int .i64 0, .slice none 0 0]) ∧ i.size = 2 ∧ i.bytes = 32 := by
 have h : (Tryz.prog.info? 60).map (fun i => (i.zero, i.size, i.bytes)) = some (some (.agg #[.int .i64 0, .slice none 0 0]), 2, 32) := by kernel_rfl
 obtain ⟨i, hi, he⟩ := Option.map_eq_some_iff.1 h
 injection he with e1 e2
 injection e2 with e2 e3
 exact ⟨i, hi, e1, e2, e3⟩
theorem clipB_any (A : Option Addr) (n c : Nat) (xs : List UInt8) (w : World) (hr : RdB w A n c xs) :
  Calls Tryz.prog 67 #[.slice A n c] w (fun e w' => e = .returned (.slice A n n) ∧ w = w') := by
 have h1 := hr.2.2.1
 have h2 := hr.2.2.2
 unfold maxLen at h2
 have h3 : (n : Int) ≤ (c : Int) := by omega
 rcases hr.1 with h0 | ⟨b, o, rfl, hb, _⟩
 ·have hk0 : n = 0 := by have := hr.2.1; simp at h0; rw [h0] at this; simp at this; omega
  subst hk0
  cases A with
  | none =>
   go_enter Tryz.func67, Tryz.ntmps67
   go_wp2_with fail
   go_ret
   exact ⟨rfl, rfl⟩
  | some a =>
   go_enter Tryz.func67, Tryz.ntmps67
   go_wp2_with fail
   go_ret
   exact ⟨rfl, rfl⟩
 ·go_enter Tryz.func67, Tryz.ntmps67
  go_wp2_with fail
  go_ret
  exact ⟨by simp, rfl⟩
theorem clipJ_any (K : Option Addr) (kn kc : Nat) (us : List Value) (l : List Jb) (w : World) (hr : RdWs w K kn kc us l) :
  Calls Tryz.prog 51 #[.slice K kn kc] w (fun e w' => e = .returned (.slice K kn kn) ∧ w = w') := by
 have h1 := hr.2.2.1
 have h2 := hr.2.2.2.1
 unfold maxLen at h2
 have h3 : (kn : Int) ≤ (kc : Int) := by omega
 rcases hr.1 with h0 | ⟨b, o, rfl, hb, _⟩
 ·have hk0 : kn = 0 := by have := hr.2.1; rw [h0] at this; simp at this; omega
  subst hk0
  cases K with
  | none =>
   go_enter Tryz.func51, Tryz.ntmps51
   go_wp2_with fail
   go_ret
   exact ⟨rfl, rfl⟩
  | some a =>
   go_enter Tryz.func51, Tryz.ntmps51
   go_wp2_with fail
   go_ret
   exact ⟨rfl, rfl⟩
 ·go_enter Tryz.func51, Tryz.ntmps51
  go_wp2_with fail
  go_ret
  exact ⟨by simp, rfl⟩
set_option maxRecDepth 100000 in
theorem jrnBase_any (A : Option Addr) (n c : Nat) (xs : List UInt8) (w : World) (hr : RdB w A n c xs) (hn : n ≤ 999000) :
  Calls Tryz.prog 28 #[.slice A n c] w (RetDg w (jnBase xs)) := by
 obtain ⟨D0, hD0⟩ : ∃ D0 : Array Value, #[.int .u8 0, .int .u8 0, .int .u8 0, .int .u8 0, .int .u8 0, .int .u8 0, .int .u8 0, .int .u8 0, .int .u8 0, .int .u8 0, .int .u8 0, .int .u8 0, .int .u8 0, .int .u8 0, .int .u8 0, .int .u8 0, .int .u8 0, .int .u8 0, .int .u8 0, .int .u8 0, .int .u8 0, .int .u8 0, .int .u8 0, .int .u8 0, .int .u8 0, .int .u8 0, .int .u8 0, .int .u8 0, .int .u8 0, .int .u8 0, .int .u8 0, .int .u8 0] = D0 := ⟨#[.int .u8 0, .int .u8 0, .int .u8 0, .int .u8 0, .int .u8 0, .int .u8 0, .int .u8 0, .int .u8 0, .int .u8 0, .int .u8 0, .int .u8 0, .int .u8 0, .int .u8 0, .int .u8 0, .int .u8 0, .int .u8 0, .int .u8 0, .int .u8 0, .int .u8 0, .int .u8 0, .int .u8 0, .int .u8 0, .int .u8 0, .int .u8 0, .int .u8 0, .int .u8 0, .int .u8 0, .int .u8 0, .int .u8 0, .int .u8 0, .int .u8 0, .int .u8 0], rfl⟩
 have hD0s : D0.size = 32 := by rw [← hD0]; rfl
 obtain ⟨W1, hW1⟩ : ∃ W1, W1 = w.alloc (.cells D0 30) := ⟨_, rfl⟩
 have b1 : Below w.heap.size w W1 := by rw [hW1]; exact (below_self w).alloc (Nat.le_refl _) _
 have r1 : W1.heap[w.heap.size]? = some (.cells D0 30 (0, 0)) := by rw [hW1]; exact drw_at _ rfl
 have z1 : W1.heap.size = w.heap.size + 1 := by rw [hW1]; simp
 obtain ⟨W2, hW2⟩ : ∃ W2, W2 = W1.alloc (.cells #[.int .u8 1] 5) := ⟨_, rfl⟩
 have b2 : Below W1.heap.size W1 W2 := by rw [hW2]; exact (below_self W1).alloc (Nat.le_refl _) _
 have d2 : RdB W2 (some ⟨W1.heap.size, 0, none⟩) 1 1 [1] := by
  rw [hW2]
  exact ⟨Rd.new W1 #[.int .u8 1] _, rfl, Nat.le_refl _, by simp [maxLen]⟩
 have C1 := Lib.hid (clipB_any A n c xs W1 (hr.below b1))
 have HD0 := Lib.hid hD0
 have HW1 := Lib.hid hW1
 have HW2 := Lib.hid hW2
 have R1 := Lib.hid r1
 have D2 := Lib.hid d2
 have Z1 := Lib.hid z1
 clear hD0 hW1 hW2 r1 d2 z1
 go_enter Tryz.func28, Tryz.ntmps28
 go_wp2_with fail
 rw [HD0.out, ← HW1.out]
 refine C1.out.mono ?_
 rintro e w2 ⟨rfl, rfl⟩
 go_wp2_with (at_builtin; go_loud (rw [← HW2.out]; refine wp_growB rfl _ _ rfl A n xs rfl (c := c) ((hr.below b1).below b2) (some ⟨W1.heap.size, 0, none⟩) 1 1 [1] rfl D2.out (by omega) (by omega) ?_; intro A3 c3 w3 ho3 hb3))
 refine (shaOf_any A3 (n + 1) c3 (xs ++ [1]) w3 ho3.rd (by omega)).mono ?_
 rintro e w4 ⟨rfl, hb4⟩
 obtain ⟨DG, hDG⟩ : ∃ DG, jnBase xs = DG := ⟨jnBase xs, rfl⟩
 rw [show shOf (xs ++ [1]) = DG from hDG, hDG]
 have hDl : DG.length = 32 := by rw [← hDG]; exact shOf_len _
 have R4 := Lib.hid ((hb4.block (w.heap.size) (by have := hb3.size; have := b2.size; have := Z1.out; omega)).trans ((hb3.block _ (by have := b2.size; have := Z1.out; omega)).trans ((b2.block _ (by have := Z1.out; omega)).trans R1.out)))
 have B4 : Below w.heap.size w w4 := below_then b1 (below_then b2 (below_then hb3 hb4))
 have HDG := Lib.hid hDG
 clear hDG
 go_wp2_with (refine dig_store rfl _ _ rfl (w.heap.size) rfl DG D0 rfl 30 R4.out hDl hD0s ?_)
 refine bodyPost_ret (results_cell_row Tryz.results28 _ _ (w.heap.size) 30 (dgA DG) (0, 0) _ rfl (setRow_heap _ _ _ (dgA DG) _ _ R4.out) Tryz.underlying30 rfl (infoD DG hDl)) rfl ?_
 exact ⟨by rw [HDG.out], below_setRow B4 (by omega) _⟩
def jmZ : Jm := ⟨0, 0, 0, 0, 0, List.replicate 32 0, none, 0, 0, 0, none, 0, 0, 0, suZ, 0, 0⟩
theorem jmZ_z : jmZ.z := ⟨by simp [jmZ], by simp [jmZ, suZ]⟩
theorem jmZ_zero : Tryz.zeroCells36 = (jmV jmZ).toArray := by kernel_rfl
theorem jm_new (w : World) {g : Nat} (h : w.heap.size = g) : JmAt (w.alloc (.cells (jmV jmZ).toArray 36)) g jmZ := drw_at _ h
theorem ws_nil (w : World) (P : Nat → Prop) : WsIn P w none 0 0 [] := ⟨[], fun W _ => ⟨.inl rfl, rfl, Nat.le_refl _, by simp [maxLen], trivial⟩⟩
theorem jnZ_ok : jnZ.ok := ⟨by decide, by decide, by decide, by decide, by decide, rfl, by decide, by decide, by decide, by decide, by decide, rfl, by decide, by decide⟩
theorem jin_z (P : Nat → Prop) (w : World) : JIn P w jmZ jnZ := ⟨⟨by decide, by decide, by decide, by decide, by decide, rfl, by decide, by decide, by decide, by decide, by decide, rfl, by decide, by decide⟩, rfl, ws_nil w P, ws_nil w P⟩
theorem list32 (D : List UInt8) (h : D.length = 32) : ∃ d0 d1 d2 d3 d4 d5 d6 d7 d8 d9 d10 d11 d12 d13 d14 d15 d16 d17 d18 d19 d20 d21 d22 d23 d24 d25 d26 d27 d28 d29 d30 d31 : UInt8, D = [d0, d1, d2, d3, d4, d5, d6, d7, d8, d9, d10, d11, d12, d13, d14, d15, d16, d17, d18, d19, d20, d21, d22, d23, d24, d25, d26, d27, d28, d29, d30, d31] := by
 match D, h with
 | [d0, d1, d2, d3, d4, d5, d6, d7, d8, d9, d10, d11, d12, d13, d14, d15, d16, d17, d18, d19, d20, d21, d22, d23, d24, d25, d26, d27, d28, d29, d30, d31], _ => exact ⟨d0, d1, d2, d3, d4, d5, d6, d7, d8, d9, d10, d11, d12, d13, d14, d15, d16, d17, d18, d19, d20, d21, d22, d23, d24, d25, d26, d27, d28, d29, d30, d31, rfl⟩
def RetJ (P : Nat → Prop) (w : World) (J : Jn) (er : Int) (e : Ending) (w' : World) : Prop := ∃ m, e = .returned (.tuple #[.agg (jmV m).toArray, .int .i64 er]) ∧ JIn P w' m J ∧ Below w.heap.size w w'
theorem jmBeginB (g : Nat) (slot room : Int) (D : List UInt8) (hD : D.length = 32) (w : World) : (Instr.build 36 #[(0, .int .u32 (g : Int)), (1, .int .i64 slot), (5, .agg (dgA D)), (11, .int .i64 room)]).run Tryz.prog w = .ok (.agg (jmV { jmZ with g := g, slot := slot, ch := D, room := room }).toArray) w := by
 obtain ⟨d0, d1, d2, d3, d4, d5, d6, d7, d8, d9, d10, d11, d12, d13, d14, d15, d16, d17, d18, d19, d20, d21, d22, d23, d24, d25, d26, d27, d28, d29, d30, d31, rfl⟩ := list32 D hD
 exact run_build w _ _ _ (by show Tryz.prog.built _ _ = some _; kernel_rfl)
theorem jmNoneB (w : World) : (Instr.build 36 #[]).run Tryz.prog w = .ok (.agg (jmV jmZ).toArray) w := run_build w _ _ _ (by show Tryz.prog.built _ _ = some _; kernel_rfl)
set_option maxRecDepth 100000 in
theorem jrnBegin_any (P : Nat → Prop) (g : Nat) (slot room : Int) (D : List UInt8) (w : World) (hg : g < 4294967296) (hs : -9223372036854775808 ≤ slot ∧ slot ≤ 9223372036854775807) (hR : -9223372036854775808 ≤ room ∧ room ≤ 9223372036854775807) (hD : D.length = 32) :
  Calls Tryz.prog 24 #[.int .u32 (g : Int), .int .i64 slot, .agg (dgA D), .int .i64 room] w (RetJ P w (jnBegin g slot D room) (jnBeginE slot room)) := by
 have hZe : Tryz.zeroCells36 = (jmV jmZ).toArray := jmZ_zero
 obtain ⟨V, hV⟩ : ∃ V, V = (w.alloc (.cells (dgA D) 30)).alloc (.cells Tryz.zeroCells36 36) := ⟨_, rfl⟩
 have bV : Below w.heap.size w V := by rw [hV]; exact ((below_self w).alloc (Nat.le_refl _) _).alloc (by simp) _
 have qV : JmAt V (w.heap.size + 1) jmZ := by rw [hV, hZe]; exact jm_new _ (by simp)
 have dV : V.heap[w.heap.size]? = some (.cells (dgA D) 30 (0, 0)) := by rw [hV]; exact drw_old _ (drw_at _ rfl)
 obtain ⟨m1, hm1⟩ : ∃ m, m = { jmZ with g := g, slot := slot, ch := D, room := room } := ⟨_, rfl⟩
 have hz1 : m1.z := by rw [hm1]; exact ⟨hD, jmZ_z.2⟩
 have hB := jmBeginB g slot room D hD
 rw [← hm1] at hB
 obtain ⟨DV, hDV⟩ : ∃ z, z = dgA D := ⟨_, rfl⟩
 obtain ⟨MV, hMV⟩ : ∃ z, z = (jmV m1).toArray := ⟨_, rfl⟩
 obtain ⟨NV, hNV⟩ : ∃ z, z = (jmV jmZ).toArray := ⟨_, rfl⟩
 have hN := jmNoneB
 rw [← hNV] at hN
 rw [← hDV, ← hMV] at hB
 rw [← hDV] at dV hV ⊢
 have fin : ∀ (m : Jm) (J : Jn) (X : World), JmAt X (w.heap.size + 1) m → m.z → Below w.heap.size w X → JIn P X m J → ∀ er : Int, RetJ P w J er (.returned (.tuple #[.agg (jmV m).toArray, .int .i64 er])) X := fun m J X h1 h2 h3 h4 er => ⟨m, rfl, h4, h3⟩
 have hDi : (Tryz.prog.info? 30).map (·.size) = some DV.size := by rw [hDV]; exact infoD D hD
 have HDI := Lib.hid hDi
 have HV := Lib.hid hV
 have QV := Lib.hid qV
 have DVr := Lib.hid dV
 have HB := Lib.hid hB
 have HN := Lib.hid hN
 have HMV := Lib.hid hMV
 have HNV := Lib.hid hNV
 have HM1 := Lib.hid hm1
 have HZ1 := Lib.hid hz1
 clear hZe hV qV dV hB hMV hNV hm1 hz1 hDV hN hDi
 by_cases h1 : slot = 0 ∨ slot = 1
 ·have e1 : slot / 2 = 0 := by rcases h1 with rfl | rfl <;> decide
  by_cases h2 : 0 ≤ room ∧ room ≤ 158
  ·have hE : jnBeginE slot room = 0 := by unfold jnBeginE; rw [if_pos ⟨h1, h2⟩]
   have d1 : decide (room < 0) = false := decide_eq_false (by omega)
   have d2 : decide (158 < room) = false := decide_eq_false (by omega)
   have hJ : jnBegin g slot D room = { jnZ with g := g, slot := slot, ch := D, room := room } := by unfold jnBegin; rw [if_pos hE]
   rw [hE, hJ]
   have hin : ∀ W, JIn P W m1 { jnZ with g := g, slot := slot, ch := D, room := room } := fun W => by
    rw [HM1.out]
    exact ⟨⟨hg, hs, jnZ_ok.next, jnZ_ok.done, jnZ_ok.will, hD, jnZ_ok.ph, jnZ_ok.out, jnZ_ok.sg, jnZ_ok.ss, jnZ_ok.sl, jnZ_ok.sD, hR, jnZ_ok.err⟩, rfl, ws_nil W P, ws_nil W P⟩
   have HIN := Lib.hid hin
   clear hin hE hJ h1
   go_enter Tryz.func24, Tryz.ntmps24
   go_wp2_with (first
    | (rw [← HV.out])
    | (refine wpList_load_row rfl 30 _ rfl w.heap.size rfl 30 DV (0, 0) _ DVr.out Tryz.underlying30 rfl HDI.out ?_)
    | (refine wpList_of_exec rfl (rex_build rfl #[(0, .int .u32 (g : Int)), (1, .int .i64 slot), (5, .agg DV), (11, .int .i64 room)] rfl (HB.out _)) ?_)
    | (refine jm_store (m := m1) (m' := jmZ) HZ1.out jmZ_z rfl _ _ rfl rfl (congrArg Value.agg HMV.out) QV.out ?_; intro X zX qX bX nX))
   refine bodyPost_ret (dresults_cell_tmp Tryz.results24 _ _ (w.heap.size + 1) 36 _ (0, 0) _ rfl qX Tryz.underlying36 rfl (jm_info HZ1.out)) rfl ?_
   exact fin m1 _ X qX HZ1.out (bV.trans (bX w.heap.size (by omega))) (HIN.out X) 0
  ·have hE : jnBeginE slot room = 2 := by unfold jnBeginE; rw [if_neg (fun h => h2 h.2)]
   have hJ : jnBegin g slot D room = jnZ := by unfold jnBegin; rw [hE]; rfl
   rw [hE, hJ]
   clear hE hJ
   have hh : decide (room < 0) = true ∨ (decide (room < 0) = false ∧ decide (158 < room) = true) := by
    simp only [decide_eq_true_eq, decide_eq_false_iff_not]
    omega
   clear h2
   rcases hh with d1 | ⟨d1, d2⟩
   ·go_enter Tryz.func24, Tryz.ntmps24
    go_wp2_with (first
     | (rw [← HV.out])
     | (refine wpList_of_exec rfl (rex_build rfl #[] rfl (HN.out _)) ?_)
     | (refine jm_store (m := jmZ) (m' := jmZ) jmZ_z jmZ_z rfl _ _ rfl rfl (congrArg Value.agg HNV.out) QV.out ?_; intro X zX qX bX nX))
    refine bodyPost_ret (dresults_cell_tmp Tryz.results24 _ _ (w.heap.size + 1) 36 _ (0, 0) _ rfl qX Tryz.underlying36 rfl (jm_info jmZ_z)) rfl ?_
    exact fin jmZ _ X qX jmZ_z (bV.trans (bX w.heap.size (by omega))) (jin_z P X) 2
   ·go_enter Tryz.func24, Tryz.ntmps24
    go_wp2_with (first
     | (rw [← HV.out])
     | (refine wpList_of_exec rfl (rex_build rfl #[] rfl (HN.out _)) ?_)
     | (refine jm_store (m := jmZ) (m' := jmZ) jmZ_z jmZ_z rfl _ _ rfl rfl (congrArg Value.agg HNV.out) QV.out ?_; intro X zX qX bX nX))
    refine bodyPost_ret (dresults_cell_tmp Tryz.results24 _ _ (w.heap.size + 1) 36 _ (0, 0) _ rfl qX Tryz.underlying36 rfl (jm_info jmZ_z)) rfl ?_
    exact fin jmZ _ X qX jmZ_z (bV.trans (bX w.heap.size (by omega))) (jin_z P X) 2
 ·have hE : jnBeginE slot room = 2 := by unfold jnBeginE; rw [if_neg (fun h => h1 h.1)]
  have hJ : jnBegin g slot D room = jnZ := by unfold jnBegin; rw [hE]; rfl
  rw [hE, hJ]
  clear hE hJ
  have e1 : ¬ slot / 2 = 0 := by omega
  clear h1
  go_enter Tryz.func24, Tryz.ntmps24
  go_wp2_with (first
   | (rw [← HV.out])
   | (refine wpList_of_exec rfl (rex_build rfl #[] rfl (HN.out _)) ?_)
   | (refine jm_store (m := jmZ) (m' := jmZ) jmZ_z jmZ_z rfl _ _ rfl rfl (congrArg Value.agg HNV.out) QV.out ?_; intro X zX qX bX nX))
  refine bodyPost_ret (dresults_cell_tmp Tryz.results24 _ _ (w.heap.size + 1) 36 _ (0, 0) _ rfl qX Tryz.underlying36 rfl (jm_info jmZ_z)) rfl ?_
  exact fin jmZ _ X qX jmZ_z (bV.trans (bX w.heap.size (by omega))) (jin_z P X) 2
set_option maxHeartbeats 8000000
theorem setc_rowO {w : World} {g h i : Nat} {v : Value} (hne : g ≠ h) : (w.setCell ⟨g, i, none⟩ v).heap[h]? = w.heap[h]? := by
 simp [World.setCell, Array.getElem?_modify, hne]
theorem JmAt.far {w : World} {r g i : Nat} {m : Jm} {v : Value} (q : JmAt w r m) (h : g ≠ r) : JmAt (w.setCell ⟨g, i, none⟩ v) r m := by
 unfold JmAt at q ⊢
 exact (setc_rowO h).trans q
structure JS (w : World) (h r : Nat) (m : Jm) (Y : World) : Prop where
 j : JmAt Y h m
 o : JmAt Y r jmZ
 b : Below w.heap.size w Y
 n : w.heap.size ≤ h ∧ w.heap.size ≤ r ∧ h ≠ r
 z : m.z
section
variable {w Y Y' : World} {h r : Nat} {m : Jm}
theorem JS.up (s : JS w h r m Y) (hb : Below Y.heap.size Y Y') : JS w h r m Y' := ⟨s.j.up hb, s.o.up hb, below_then s.b hb, s.n, s.z⟩
theorem JS.set (s : JS w h r m Y) {i : Nat} {v : Value} {m' : Jm} (q : JmAt (Y.setCell ⟨h, i, none⟩ v) h m') (z : m'.z) : JS w h r m' (Y.setCell ⟨h, i, none⟩ v) := ⟨q, s.o.far s.n.2.2, s.b.setCell s.n.1 _, s.n, z⟩
theorem JS.s2 (s : JS w h r m Y) (v : Nat) : JS w h r { m with next := v } (Y.setCell ⟨h, 2, none⟩ (.int .u32 (v : Int))) := s.set (s.j.s2 v) s.z
theorem JS.s3 (s : JS w h r m Y) (v : Nat) : JS w h r { m with done := v } (Y.setCell ⟨h, 3, none⟩ (.int .u32 (v : Int))) := s.set (s.j.s3 v) s.z
theorem JS.s4 (s : JS w h r m Y) (v : Nat) : JS w h r { m with will := v } (Y.setCell ⟨h, 4, none⟩ (.int .u32 (v : Int))) := s.set (s.j.s4 v) s.z
theorem JS.s37 (s : JS w h r m Y) (A : Option Addr) (n c : Nat) : JS w h r { m with wa := A, wn := n, wc := c } (Y.setCell ⟨h, 37, none⟩ (.slice A n c)) := s.set (s.j.s37 s.z A n c) s.z
theorem JS.s38 (s : JS w h r m Y) (v : Int) : JS w h r { m with ph := v } (Y.setCell ⟨h, 38, none⟩ (.int .i64 v)) := s.set (s.j.s38 s.z v) s.z
theorem JS.s39 (s : JS w h r m Y) (A : Option Addr) (n c : Nat) : JS w h r { m with ja := A, jn := n, jc := c } (Y.setCell ⟨h, 39, none⟩ (.slice A n c)) := s.set (s.j.s39 s.z A n c) s.z
theorem JS.s40 (s : JS w h r m Y) (v : Int) : JS w h r { m with out := v } (Y.setCell ⟨h, 40, none⟩ (.int .i64 v)) := s.set (s.j.s40 s.z v) s.z
theorem JS.s77 (s : JS w h r m Y) (v : Int) : JS w h r { m with err := v } (Y.setCell ⟨h, 77, none⟩ (.int .i64 v)) := s.set (s.j.s77 s.z v) s.z
end
theorem ws_one1 {P : Nat → Prop} {X : World} {g base : Nat} {a : Int} {A : Option Addr} {n c : Nat} {ys : List UInt8} {T : TypeId} (q : X.heap[g]? = some (.cells #[.int .i64 a, .slice A n c] T (0, 0))) (hg : ∀ j, P j → j < g) (ho : OwnB X base A n c ys) (hb : ∀ j, P j → j < base) (ha : -9223372036854775808 ≤ a ∧ a ≤ 9223372036854775807) : WsIn P X (some ⟨g, 0, none⟩) 1 1 [(a, ys)] :=
 ⟨[.int .i64 a, .slice A n c], fun W hW => by
  have q' : W.heap[g]? = some (.cells #[.int .i64 a, .slice A n c] T (0, 0)) := (hW.2 g (drw_lt q) (fun hp => by have := hg g hp; omega)).trans q
  refine ⟨.inr ⟨g, 0, rfl, drw_lt q', fun i v hv => ?_⟩, rfl, Nat.le_refl _, by simp [maxLen], rfl, ha, ⟨A, n, c, rfl, (ho.inn hb) W hW⟩, trivial⟩
  rw [cell_of_row W g (0 + i) _ _ _ q']
  simpa using hv⟩
theorem JIn.num {P : Nat → Prop} {w : World} {m m' : Jm} {wl jl : List Jb} (h : JIn P w m (m.of wl jl)) (hok : (m'.of wl jl).ok) (e : m'.wa = m.wa ∧ m'.wn = m.wn ∧ m'.wc = m.wc ∧ m'.ja = m.ja ∧ m'.jn = m.jn ∧ m'.jc = m.jc) : JIn P w m' (m'.of wl jl) := by
 obtain ⟨_, _, h3, h4⟩ := h
 obtain ⟨e1, e2, e3, e4, e5, e6⟩ := e
 refine ⟨hok, rfl, ?_, ?_⟩
 ·rw [e1, e2, e3]; exact h3
 ·rw [e4, e5, e6]; exact h4
theorem JIn.jb {P : Nat → Prop} {w : World} {m m' : Jm} {wl jl jl' : List Jb} (h : JIn P w m (m.of wl jl)) (hok : (m'.of wl jl').ok) (e : m'.wa = m.wa ∧ m'.wn = m.wn ∧ m'.wc = m.wc) (hj : WsIn P w m'.ja m'.jn m'.jc jl') : JIn P w m' (m'.of wl jl') := by
 obtain ⟨_, _, h3, h4⟩ := h
 obtain ⟨e1, e2, e3⟩ := e
 refine ⟨hok, rfl, ?_, hj⟩
 rw [e1, e2, e3]; exact h3
theorem jof {P : Nat → Prop} {w : World} {m : Jm} {J : Jn} (h : JIn P w m J) : J = m.of J.wait J.jobs := h.2.1.symm
theorem js_new {w V : World} {m : Jm} {P : Nat → Prop} {J : Jn} (h : JIn P w m J) (hV : V = (w.alloc (.cells (jmV m).toArray 36)).alloc (.cells Tryz.zeroCells36 36)) : JS w w.heap.size (w.heap.size + 1) m V := by
 refine ⟨?_, ?_, ?_, ⟨Nat.le_refl _, by omega, by omega⟩, h.z⟩
 ·rw [hV]; exact drw_old _ (drw_at _ rfl)
 ·rw [hV, jmZ_zero]; exact jm_new _ (by simp)
 ·rw [hV]; exact ((below_self w).alloc (Nat.le_refl _) _).alloc (by simp) _
end Go.Proofs.YtpahicfnhhhifaaGreat
