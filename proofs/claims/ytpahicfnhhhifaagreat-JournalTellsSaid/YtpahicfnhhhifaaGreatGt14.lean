/-
 Proved here, for the statement JournalTells:
 Layer 12: records: what a sector says.
 Layer 12: records: Get.
-/
import Derived.Test.YtpahicfnhhhifaaGreatGt13
set_option linter.unusedVariables false
set_option linter.unusedSimpArgs false
namespace Go.Proofs.YtpahicfnhhhifaaGreat
set_option maxRecDepth 20000
open Go.RowKit
set_option maxHeartbeats 4000000
section
variable {w : World} {h : Nat} {r : Rc} {A : Option Addr} {n c : Nat}
theorem RcAt.s0 (q : RcAt w h r A n c) (v : Nat) : RcAt (w.setCell ⟨h, 0, none⟩ (.int .u32 (v : Int))) h { r with g := v } A n c := (setc_rowT q).trans rfl
theorem RcAt.s1 (q : RcAt w h r A n c) (v : Nat) : RcAt (w.setCell ⟨h, 1, none⟩ (.int .u32 (v : Int))) h { r with s := v } A n c := (setc_rowT q).trans rfl
theorem RcAt.s2 (q : RcAt w h r A n c) (v : Nat) : RcAt (w.setCell ⟨h, 2, none⟩ (.int .u32 (v : Int))) h { r with m := v } A n c := (setc_rowT q).trans rfl
theorem RcAt.s3 (q : RcAt w h r A n c) (v : Nat) : RcAt (w.setCell ⟨h, 3, none⟩ (.int .u64 (v : Int))) h { r with t := v } A n c := (setc_rowT q).trans rfl
theorem RcAt.s4 (q : RcAt w h r A n c) (v : Int) : RcAt (w.setCell ⟨h, 4, none⟩ (.int .i64 v)) h { r with k := v } A n c := (setc_rowT q).trans rfl
theorem RcAt.s5 (q : RcAt w h r A n c) (v : Nat) : RcAt (w.setCell ⟨h, 5, none⟩ (.int .u64 (v : Int))) h { r with c := v } A n c := (setc_rowT q).trans rfl
end
theorem rarr_dig (w : World) (A : Option Addr) (c : Nat) : (Instr.arrayAt 30 (.slice A 32 c)).run Tryz.prog w = .ok (.pointer A) w := by
 simp [Instr.arrayAt, run_underlying Tryz.underlying30]
theorem rd_range {w : World} {b o n c : Nat} {xs : List UInt8} (h : RdB w (some ⟨b, o, none⟩) n c xs) : w.rangeAt b o (xs.map vB) := fun j v hj => by
 rcases h.1 with h1 | ⟨b', o', he, _, hc⟩
 ·rw [h1] at hj; simp at hj
 ·injection he with he; injection he with e1 e2; subst e1 e2
  exact hc j v hj
theorem RdB.old_ {w w' : World} {b o n c B : Nat} {xs : List UInt8} (h : RdB w (some ⟨b, o, none⟩) n c xs) (hb : Below B w w') (ho : b < B) : RdB w' (some ⟨b, o, none⟩) n c xs := by
 refine ⟨?_, h.2⟩
 rcases h.1 with h0 | ⟨b', o', he, hl, hc⟩
 ·exact .inl h0
 ·injection he with he; injection he with e1 e2; subst e1 e2
  exact .inr ⟨b, o, rfl, Nat.lt_of_lt_of_le hl hb.size, fun i v hv => (hb.cell (p := ⟨b, o + i, none⟩) ho).trans (hc i v hv)⟩
def RetRd (w : World) (xs : List UInt8) (e : Ending) (w' : World) : Prop :=
 ∃ A n c R, e = .returned (.tuple #[.agg (rcV R A n c).toArray, .bool (decide ((xs.getD 25 0).toNat ≤ 180))]) ∧ R.D.length = 32 ∧ RdB w' A n c R.b ∧ ((xs.getD 25 0).toNat ≤ 180 → R = rcOf xs) ∧ (0 < n → ∀ a, A = some a → w.heap.size ≤ a.block) ∧ Below w.heap.size w w'
theorem lev_one (xs : List UInt8) (k : Nat) (h : k < xs.length) : lev ((xs.drop k).take 1) = (xs.getD k 0).toNat := by
 have e : (xs.drop k).take 1 = [xs[k]] := by rw [List.drop_eq_getElem_cons h]; rfl
 rw [e]; simp [lev, h]
theorem recRead_bad (bb oo c : Nat) (xs : List UInt8) (w : World) (hr : RdB w (some ⟨bb, oo, none⟩) 256 c xs) (hbb : bb < w.heap.size) (hbad : ¬ (xs.getD 25 0).toNat ≤ 180) :
  Calls Tryz.prog 157 #[.slice (some ⟨bb, oo, none⟩) 256 c] w (RetRd w xs) := by
 have hx := hr.2.1
 have hc := hr.2.2.1
 have hc63 := hr.c63
 obtain ⟨G, hG⟩ : ∃ v, lev ((xs.drop 4).take 4) = v := ⟨_, rfl⟩
 obtain ⟨S, hS⟩ : ∃ v, lev ((xs.drop 8).take 4) = v := ⟨_, rfl⟩
 obtain ⟨M, hM⟩ : ∃ v, lev ((xs.drop 12).take 4) = v := ⟨_, rfl⟩
 obtain ⟨T, hT⟩ : ∃ v, lev ((xs.drop 16).take 8) = v := ⟨_, rfl⟩
 obtain ⟨K, hK⟩ : ∃ v, lev ((xs.drop 24).take 1) = v := ⟨_, rfl⟩
 obtain ⟨N, hN⟩ : ∃ v, lev ((xs.drop 25).take 1) = v := ⟨_, rfl⟩
 obtain ⟨C, hC⟩ : ∃ v, lev ((xs.drop 26).take 8) = v := ⟨_, rfl⟩
 have l4 := hG ▸ rcLev xs 4 4
 have l8 := hS ▸ rcLev xs 8 4
 have l12 := hM ▸ rcLev xs 12 4
 have l16 := hT ▸ rcLev xs 16 8
 have l24 := hK ▸ rcLev xs 24 1
 have l25 := hN ▸ rcLev xs 25 1
 have l26 := hC ▸ rcLev xs 26 8
 have wG : IntKind.u32.wrap (G : Int) = (G : Int) := by rw [IntKind.wrap_u32]; omega
 have wS : IntKind.u32.wrap (S : Int) = (S : Int) := by rw [IntKind.wrap_u32]; omega
 have wM : IntKind.u32.wrap (M : Int) = (M : Int) := by rw [IntKind.wrap_u32]; omega
 have wK := wi64n (k := K) (by omega)
 have wN := wi64n (k := N) (by omega)
 have e24 : (xs.getD 24 0).toNat = K := by rw [← lev_one xs 24 (by omega), hK]
 have e25 : (xs.getD 25 0).toNat = N := by rw [← lev_one xs 25 (by omega), hN]
 obtain ⟨W0, hW0⟩ : ∃ W, W = ((w.alloc (.cells zz3 90)).alloc (.cells #[.slice (some ⟨bb, oo, none⟩) 256 c, .int .i64 4] 200)).alloc (.cells zz3 90) := ⟨_, rfl⟩
 have b0 : Below w.heap.size w W0 := by rw [hW0]; exact (((below_self w).alloc (Nat.le_refl _) _).alloc (by simp) _).alloc (by simp; omega) _
 have z0 : W0.heap.size = w.heap.size + 3 := by rw [hW0]; simp
 have qR : RcAt W0 w.heap.size rcZ none 0 0 := by
  have h0 := rw_old (.cells zz3 90) (rw_old (.cells #[.slice (some ⟨bb, oo, none⟩) 256 c, .int .i64 4] 200) (rw_at (w := w) (.cells zz3 90) rfl))
  rw [← hW0] at h0
  exact h0.trans (congrArg (fun z => some (Obj.cells z 90 (0, 0))) zeroRc)
 have qx : RcAt W0 (w.heap.size + 2) rcZ none 0 0 := by
  have h0 := rw_at (w := (w.alloc (.cells zz3 90)).alloc (.cells #[.slice (some ⟨bb, oo, none⟩) 256 c, .int .i64 4] 200)) (k := w.heap.size + 2) (.cells zz3 90) (by simp)
  rw [← hW0] at h0
  exact h0.trans (congrArg (fun z => some (Obj.cells z 90 (0, 0))) zeroRc)
 have qr : RrAt W0 (w.heap.size + 1) (some ⟨bb, oo, none⟩) c 4 := by rw [hW0]; exact rw_old _ (rw_at _ (by simp))
 have rx := hr.below b0
 have HW0 := Lib.hid hW0
 have HG := Lib.hid hG
 have HS := Lib.hid hS
 have HM := Lib.hid hM
 have HT := Lib.hid hT
 have HK := Lib.hid hK
 have HN := Lib.hid hN
 have HC := Lib.hid hC
 have E24 := Lib.hid e24
 have E25 := Lib.hid e25
 have HX := Lib.hid hx
 have QR := Lib.hid qR
 have QX := Lib.hid qx
 have QRD := Lib.hid qr
 have ZW := Lib.hid z0
 clear hW0 hG hS hM hT hK hN hC e24 e25 hx qR qx qr z0
 have ho : bb < w.heap.size + 1 := by omega
 go_enter Tryz.func157, Tryz.ntmps157
 go_wp2_with fail
 rw [← HW0.out]
 have z0 : w.heap.size + 3 ≤ W0.heap.size := by have := ZW.out; omega
 have hh := recRNumber_any (w.heap.size + 1) bb oo c xs 4 4 W0 QRD.out rx ho (by omega) (by omega)
 rw [HG.out] at hh
 refine hh.mono ?_
 clear hh
 rintro e y1 ⟨rfl, qr, hy, sy⟩
 have b0 := b0.trans (hy.mono (by omega))
 have rx := rx.old_ hy ho
 have qx2 := sy.row QX.out (by omega)
 have QX : Hid (RcAt y1 (w.heap.size + 2) _ none 0 0) := Lib.hid qx2
 have QR : Hid (RcAt y1 w.heap.size rcZ none 0 0) := Lib.hid ((hy.block _ (by omega)).trans QR.out)
 have QRD := Lib.hid qr
 have zz := sy.size
 have z0 : w.heap.size + 3 ≤ y1.heap.size := by omega
 clear qr hy sy qx2 zz
 go_wp2_with fail
 have hh := recRNumber_any (w.heap.size + 1) bb oo c xs 8 4 y1 QRD.out rx ho (by omega) (by omega)
 rw [HS.out] at hh
 refine hh.mono ?_
 clear hh
 rintro e y2 ⟨rfl, qr, hy, sy⟩
 have b0 := b0.trans (hy.mono (by omega))
 have rx := rx.old_ hy ho
 have qx2 := sy.row QX.out (by omega)
 have QX : Hid (RcAt y2 (w.heap.size + 2) _ none 0 0) := Lib.hid qx2
 have QR : Hid (RcAt y2 w.heap.size rcZ none 0 0) := Lib.hid ((hy.block _ (by omega)).trans QR.out)
 have QRD := Lib.hid qr
 have zz := sy.size
 have z0 : w.heap.size + 3 ≤ y2.heap.size := by omega
 clear qr hy sy qx2 zz
 go_wp2_with fail
 have hh := recRNumber_any (w.heap.size + 1) bb oo c xs 12 4 y2 QRD.out rx ho (by omega) (by omega)
 rw [HM.out] at hh
 refine hh.mono ?_
 clear hh
 rintro e y3 ⟨rfl, qr, hy, sy⟩
 have b0 := b0.trans (hy.mono (by omega))
 have rx := rx.old_ hy ho
 have qx2 := sy.row QX.out (by omega)
 have QX : Hid (RcAt y3 (w.heap.size + 2) _ none 0 0) := Lib.hid qx2
 have QR : Hid (RcAt y3 w.heap.size rcZ none 0 0) := Lib.hid ((hy.block _ (by omega)).trans QR.out)
 have QRD := Lib.hid qr
 have zz := sy.size
 have z0 : w.heap.size + 3 ≤ y3.heap.size := by omega
 clear qr hy sy qx2 zz
 have kx0 := RcAt.c0 QX.out
 have fx0 := RcAt.fr QX.out 0
 have kx1 := RcAt.c1 QX.out
 have fx1 := RcAt.fr QX.out 1
 have kx2 := RcAt.c2 QX.out
 have fx2 := RcAt.fr QX.out 2
 have qx2 := (RcAt.s2 (RcAt.s1 (RcAt.s0 QX.out G) S) M)
 obtain ⟨U3, hU3⟩ : ∃ U, U = (((y3.setCell ⟨w.heap.size + 2, 0, none⟩ (.int .u32 (G : Int))).setCell ⟨w.heap.size + 2, 1, none⟩ (.int .u32 (S : Int))).setCell ⟨w.heap.size + 2, 2, none⟩ (.int .u32 (M : Int))) := ⟨_, rfl⟩
 have bU : Below (w.heap.size + 2) y3 U3 := by rw [hU3]; exact ((((Below.refl (w.heap.size + 2) y3).setCell (p := ⟨w.heap.size + 2, 0, none⟩) (Nat.le_refl _) _).setCell (p := ⟨w.heap.size + 2, 1, none⟩) (Nat.le_refl _) _).setCell (p := ⟨w.heap.size + 2, 2, none⟩) (Nat.le_refl _) _)
 rw [← hU3] at qx2
 have zz := bU.size
 have QRD : Hid (RrAt U3 (w.heap.size + 1) _ c _) := Lib.hid ((bU.block _ (by omega)).trans QRD.out)
 have b0 := b0.trans (bU.mono (by omega))
 have rx := rx.old_ bU (show bb < w.heap.size + 2 by omega)
 have QR : Hid (RcAt U3 w.heap.size rcZ none 0 0) := Lib.hid ((bU.block _ (by omega)).trans QR.out)
 have QX := Lib.hid qx2
 have HU3 := Lib.hid hU3
 have z0 : w.heap.size + 3 ≤ U3.heap.size := by omega
 clear hU3 qx2 bU zz
 go_wp2_with fail
 rw [← HU3.out]
 clear kx0 fx0 kx1 fx1 kx2 fx2
 have hh := recRNumber_any (w.heap.size + 1) bb oo c xs 16 8 U3 QRD.out rx ho (by omega) (by omega)
 rw [HT.out] at hh
 refine hh.mono ?_
 clear hh
 rintro e y4 ⟨rfl, qr, hy, sy⟩
 have b0 := b0.trans (hy.mono (by omega))
 have rx := rx.old_ hy ho
 have qx2 := sy.row QX.out (by omega)
 have QX : Hid (RcAt y4 (w.heap.size + 2) _ none 0 0) := Lib.hid qx2
 have QR : Hid (RcAt y4 w.heap.size rcZ none 0 0) := Lib.hid ((hy.block _ (by omega)).trans QR.out)
 have QRD := Lib.hid qr
 have zz := sy.size
 have z0 : w.heap.size + 3 ≤ y4.heap.size := by omega
 clear qr hy sy qx2 zz
 have kx3 := RcAt.c3 QX.out
 have fx3 := RcAt.fr QX.out 3
 have qx2 := (RcAt.s3 QX.out T)
 obtain ⟨U4, hU4⟩ : ∃ U, U = (y4.setCell ⟨w.heap.size + 2, 3, none⟩ (.int .u64 (T : Int))) := ⟨_, rfl⟩
 have bU : Below (w.heap.size + 2) y4 U4 := by rw [hU4]; exact ((Below.refl (w.heap.size + 2) y4).setCell (p := ⟨w.heap.size + 2, 3, none⟩) (Nat.le_refl _) _)
 rw [← hU4] at qx2
 have zz := bU.size
 have QRD : Hid (RrAt U4 (w.heap.size + 1) _ c _) := Lib.hid ((bU.block _ (by omega)).trans QRD.out)
 have b0 := b0.trans (bU.mono (by omega))
 have rx := rx.old_ bU (show bb < w.heap.size + 2 by omega)
 have QR : Hid (RcAt U4 w.heap.size rcZ none 0 0) := Lib.hid ((bU.block _ (by omega)).trans QR.out)
 have QX := Lib.hid qx2
 have HU4 := Lib.hid hU4
 have z0 : w.heap.size + 3 ≤ U4.heap.size := by omega
 clear hU4 qx2 bU zz
 go_wp2_with fail
 rw [← HU4.out]
 clear kx3 fx3
 have hh := recRNumber_any (w.heap.size + 1) bb oo c xs 24 1 U4 QRD.out rx ho (by omega) (by omega)
 rw [HK.out] at hh
 refine hh.mono ?_
 clear hh
 rintro e y5 ⟨rfl, qr, hy, sy⟩
 have b0 := b0.trans (hy.mono (by omega))
 have rx := rx.old_ hy ho
 have qx2 := sy.row QX.out (by omega)
 have QX : Hid (RcAt y5 (w.heap.size + 2) _ none 0 0) := Lib.hid qx2
 have QR : Hid (RcAt y5 w.heap.size rcZ none 0 0) := Lib.hid ((hy.block _ (by omega)).trans QR.out)
 have QRD := Lib.hid qr
 have zz := sy.size
 have z0 : w.heap.size + 3 ≤ y5.heap.size := by omega
 clear qr hy sy qx2 zz
 have kx4 := RcAt.c4 QX.out
 have fx4 := RcAt.fr QX.out 4
 have qx2 := (RcAt.s4 QX.out (K : Int))
 obtain ⟨U5, hU5⟩ : ∃ U, U = (y5.setCell ⟨w.heap.size + 2, 4, none⟩ (.int .i64 (K : Int))) := ⟨_, rfl⟩
 have bU : Below (w.heap.size + 2) y5 U5 := by rw [hU5]; exact ((Below.refl (w.heap.size + 2) y5).setCell (p := ⟨w.heap.size + 2, 4, none⟩) (Nat.le_refl _) _)
 rw [← hU5] at qx2
 have zz := bU.size
 have QRD : Hid (RrAt U5 (w.heap.size + 1) _ c _) := Lib.hid ((bU.block _ (by omega)).trans QRD.out)
 have b0 := b0.trans (bU.mono (by omega))
 have rx := rx.old_ bU (show bb < w.heap.size + 2 by omega)
 have QR : Hid (RcAt U5 w.heap.size rcZ none 0 0) := Lib.hid ((bU.block _ (by omega)).trans QR.out)
 have QX := Lib.hid qx2
 have HU5 := Lib.hid hU5
 have z0 : w.heap.size + 3 ≤ U5.heap.size := by omega
 clear hU5 qx2 bU zz
 go_wp2_with fail
 rw [← HU5.out]
 clear kx4 fx4
 have hh := recRNumber_any (w.heap.size + 1) bb oo c xs 25 1 U5 QRD.out rx ho (by omega) (by omega)
 rw [HN.out] at hh
 refine hh.mono ?_
 clear hh
 rintro e y6 ⟨rfl, qr, hy, sy⟩
 have b0 := b0.trans (hy.mono (by omega))
 have rx := rx.old_ hy ho
 have qx2 := sy.row QX.out (by omega)
 have QX : Hid (RcAt y6 (w.heap.size + 2) _ none 0 0) := Lib.hid qx2
 have QR : Hid (RcAt y6 w.heap.size rcZ none 0 0) := Lib.hid ((hy.block _ (by omega)).trans QR.out)
 have QRD := Lib.hid qr
 have zz := sy.size
 have z0 : w.heap.size + 3 ≤ y6.heap.size := by omega
 clear qr hy sy qx2 zz
 go_wp2_with fail
 have hh := recRNumber_any (w.heap.size + 1) bb oo c xs 26 8 y6 QRD.out rx ho (by omega) (by omega)
 rw [HC.out] at hh
 refine hh.mono ?_
 clear hh
 rintro e y7 ⟨rfl, qr, hy, sy⟩
 have b0 := b0.trans (hy.mono (by omega))
 have rx := rx.old_ hy ho
 have qx2 := sy.row QX.out (by omega)
 have QX : Hid (RcAt y7 (w.heap.size + 2) _ none 0 0) := Lib.hid qx2
 have QR : Hid (RcAt y7 w.heap.size rcZ none 0 0) := Lib.hid ((hy.block _ (by omega)).trans QR.out)
 have QRD := Lib.hid qr
 have zz := sy.size
 have z0 : w.heap.size + 3 ≤ y7.heap.size := by omega
 clear qr hy sy qx2 zz
 have d1 : decide ((180 : Int) < (N : Int)) = true := decide_eq_true (by have := E25.out; omega)
 have kx5 := RcAt.c5 QX.out
 have fx5 := RcAt.fr QX.out 5
 have qx2 := (RcAt.s5 QX.out C)
 obtain ⟨U7, hU7⟩ : ∃ U, U = (y7.setCell ⟨w.heap.size + 2, 5, none⟩ (.int .u64 (C : Int))) := ⟨_, rfl⟩
 have bU : Below (w.heap.size + 2) y7 U7 := by rw [hU7]; exact ((Below.refl (w.heap.size + 2) y7).setCell (p := ⟨w.heap.size + 2, 5, none⟩) (Nat.le_refl _) _)
 rw [← hU7] at qx2
 have zz := bU.size
 have QRD : Hid (RrAt U7 (w.heap.size + 1) _ c _) := Lib.hid ((bU.block _ (by omega)).trans QRD.out)
 have b0 := b0.trans (bU.mono (by omega))
 have rx := rx.old_ bU (show bb < w.heap.size + 2 by omega)
 have QR : Hid (RcAt U7 w.heap.size rcZ none 0 0) := Lib.hid ((bU.block _ (by omega)).trans QR.out)
 have QX := Lib.hid qx2
 have HU7 := Lib.hid hU7
 have z0 : w.heap.size + 3 ≤ U7.heap.size := by omega
 clear hU7 qx2 bU zz
 go_wp2_with (first
  | (rw [← HU7.out]; refine rc_load rfl _ rfl rfl QX.out rcZ_ok.2.2.2.2.2.2 ?_)
  | (refine rc_load rfl _ rfl rfl QX.out rcZ_ok.2.2.2.2.2.2 ?_)
  | (refine rc_store rfl _ _ rfl rfl rfl QR.out rcZ_ok.2.2.2.2.2.2 rcZ_ok.2.2.2.2.2.2 ?_))
 refine bodyPost_ret (rresults_row_tmp Tryz.results157 _ _ w.heap.size 90 _ (0, 0) _ rfl (RcAt.setRow (r' := ⟨G, S, M, T, K, C, rcZ.b, rcZ.D⟩) (A' := none) (n' := 0) (c' := 0) QR.out) Tryz.underlying90 rfl (rcInfo ⟨G, S, M, T, K, C, rcZ.b, rcZ.D⟩ none 0 0 rcZ_ok.2.2.2.2.2.2)) rfl ?_
 exact ⟨none, 0, 0, ⟨G, S, M, T, K, C, rcZ.b, rcZ.D⟩, by rw [decide_eq_false hbad]; rfl, rcZ_ok.2.2.2.2.2.2, RdB.nilB _, fun h => absurd h hbad, fun h => absurd h (Nat.lt_irrefl 0), below_setRow b0 (Nat.le_refl _) _⟩
theorem recRead_good (bb oo c : Nat) (xs : List UInt8) (w : World) (hr : RdB w (some ⟨bb, oo, none⟩) 256 c xs) (hbb : bb < w.heap.size) (hgood : (xs.getD 25 0).toNat ≤ 180) :
  Calls Tryz.prog 157 #[.slice (some ⟨bb, oo, none⟩) 256 c] w (RetRd w xs) := by
 have hx := hr.2.1
 have hc := hr.2.2.1
 have hc63 := hr.c63
 obtain ⟨G, hG⟩ : ∃ v, lev ((xs.drop 4).take 4) = v := ⟨_, rfl⟩
 obtain ⟨S, hS⟩ : ∃ v, lev ((xs.drop 8).take 4) = v := ⟨_, rfl⟩
 obtain ⟨M, hM⟩ : ∃ v, lev ((xs.drop 12).take 4) = v := ⟨_, rfl⟩
 obtain ⟨T, hT⟩ : ∃ v, lev ((xs.drop 16).take 8) = v := ⟨_, rfl⟩
 obtain ⟨K, hK⟩ : ∃ v, lev ((xs.drop 24).take 1) = v := ⟨_, rfl⟩
 obtain ⟨N, hN⟩ : ∃ v, lev ((xs.drop 25).take 1) = v := ⟨_, rfl⟩
 obtain ⟨C, hC⟩ : ∃ v, lev ((xs.drop 26).take 8) = v := ⟨_, rfl⟩
 have l4 := hG ▸ rcLev xs 4 4
 have l8 := hS ▸ rcLev xs 8 4
 have l12 := hM ▸ rcLev xs 12 4
 have l16 := hT ▸ rcLev xs 16 8
 have l24 := hK ▸ rcLev xs 24 1
 have l25 := hN ▸ rcLev xs 25 1
 have l26 := hC ▸ rcLev xs 26 8
 have wG : IntKind.u32.wrap (G : Int) = (G : Int) := by rw [IntKind.wrap_u32]; omega
 have wS : IntKind.u32.wrap (S : Int) = (S : Int) := by rw [IntKind.wrap_u32]; omega
 have wM : IntKind.u32.wrap (M : Int) = (M : Int) := by rw [IntKind.wrap_u32]; omega
 have wK := wi64n (k := K) (by omega)
 have wN := wi64n (k := N) (by omega)
 have e24 : (xs.getD 24 0).toNat = K := by rw [← lev_one xs 24 (by omega), hK]
 have e25 : (xs.getD 25 0).toNat = N := by rw [← lev_one xs 25 (by omega), hN]
 obtain ⟨W0, hW0⟩ : ∃ W, W = ((w.alloc (.cells zz3 90)).alloc (.cells #[.slice (some ⟨bb, oo, none⟩) 256 c, .int .i64 4] 200)).alloc (.cells zz3 90) := ⟨_, rfl⟩
 have b0 : Below w.heap.size w W0 := by rw [hW0]; exact (((below_self w).alloc (Nat.le_refl _) _).alloc (by simp) _).alloc (by simp; omega) _
 have z0 : W0.heap.size = w.heap.size + 3 := by rw [hW0]; simp
 have qR : RcAt W0 w.heap.size rcZ none 0 0 := by
  have h0 := rw_old (.cells zz3 90) (rw_old (.cells #[.slice (some ⟨bb, oo, none⟩) 256 c, .int .i64 4] 200) (rw_at (w := w) (.cells zz3 90) rfl))
  rw [← hW0] at h0
  exact h0.trans (congrArg (fun z => some (Obj.cells z 90 (0, 0))) zeroRc)
 have qx : RcAt W0 (w.heap.size + 2) rcZ none 0 0 := by
  have h0 := rw_at (w := (w.alloc (.cells zz3 90)).alloc (.cells #[.slice (some ⟨bb, oo, none⟩) 256 c, .int .i64 4] 200)) (k := w.heap.size + 2) (.cells zz3 90) (by simp)
  rw [← hW0] at h0
  exact h0.trans (congrArg (fun z => some (Obj.cells z 90 (0, 0))) zeroRc)
 have qr : RrAt W0 (w.heap.size + 1) (some ⟨bb, oo, none⟩) c 4 := by rw [hW0]; exact rw_old _ (rw_at _ (by simp))
 have rx := hr.below b0
 have HW0 := Lib.hid hW0
 have HG := Lib.hid hG
 have HS := Lib.hid hS
 have HM := Lib.hid hM
 have HT := Lib.hid hT
 have HK := Lib.hid hK
 have HN := Lib.hid hN
 have HC := Lib.hid hC
 have E24 := Lib.hid e24
 have E25 := Lib.hid e25
 have HX := Lib.hid hx
 have QR := Lib.hid qR
 have QX := Lib.hid qx
 have QRD := Lib.hid qr
 have ZW := Lib.hid z0
 clear hW0 hG hS hM hT hK hN hC e24 e25 hx qR qx qr z0
 have ho : bb < w.heap.size + 1 := by omega
 go_enter Tryz.func157, Tryz.ntmps157
 go_wp2_with fail
 rw [← HW0.out]
 have z0 : w.heap.size + 3 ≤ W0.heap.size := by have := ZW.out; omega
 have hh := recRNumber_any (w.heap.size + 1) bb oo c xs 4 4 W0 QRD.out rx ho (by omega) (by omega)
 rw [HG.out] at hh
 refine hh.mono ?_
 clear hh
 rintro e y1 ⟨rfl, qr, hy, sy⟩
 have b0 := b0.trans (hy.mono (by omega))
 have rx := rx.old_ hy ho
 have qx2 := sy.row QX.out (by omega)
 have QX : Hid (RcAt y1 (w.heap.size + 2) _ none 0 0) := Lib.hid qx2
 have QR : Hid (RcAt y1 w.heap.size rcZ none 0 0) := Lib.hid ((hy.block _ (by omega)).trans QR.out)
 have QRD := Lib.hid qr
 have zz := sy.size
 have z0 : w.heap.size + 3 ≤ y1.heap.size := by omega
 clear qr hy sy qx2 zz
 go_wp2_with fail
 have hh := recRNumber_any (w.heap.size + 1) bb oo c xs 8 4 y1 QRD.out rx ho (by omega) (by omega)
 rw [HS.out] at hh
 refine hh.mono ?_
 clear hh
 rintro e y2 ⟨rfl, qr, hy, sy⟩
 have b0 := b0.trans (hy.mono (by omega))
 have rx := rx.old_ hy ho
 have qx2 := sy.row QX.out (by omega)
 have QX : Hid (RcAt y2 (w.heap.size + 2) _ none 0 0) := Lib.hid qx2
 have QR : Hid (RcAt y2 w.heap.size rcZ none 0 0) := Lib.hid ((hy.block _ (by omega)).trans QR.out)
 have QRD := Lib.hid qr
 have zz := sy.size
 have z0 : w.heap.size + 3 ≤ y2.heap.size := by omega
 clear qr hy sy qx2 zz
 go_wp2_with fail
 have hh := recRNumber_any (w.heap.size + 1) bb oo c xs 12 4 y2 QRD.out rx ho (by omega) (by omega)
 rw [HM.out] at hh
 refine hh.mono ?_
 clear hh
 rintro e y3 ⟨rfl, qr, hy, sy⟩
 have b0 := b0.trans (hy.mono (by omega))
 have rx := rx.old_ hy ho
 have qx2 := sy.row QX.out (by omega)
 have QX : Hid (RcAt y3 (w.heap.size + 2) _ none 0 0) := Lib.hid qx2
 have QR : Hid (RcAt y3 w.heap.size rcZ none 0 0) := Lib.hid ((hy.block _ (by omega)).trans QR.out)
 have QRD := Lib.hid qr
 have zz := sy.size
 have z0 : w.heap.size + 3 ≤ y3.heap.size := by omega
 clear qr hy sy qx2 zz
 have kx0 := RcAt.c0 QX.out
 have fx0 := RcAt.fr QX.out 0
 have kx1 := RcAt.c1 QX.out
 have fx1 := RcAt.fr QX.out 1
 have kx2 := RcAt.c2 QX.out
 have fx2 := RcAt.fr QX.out 2
 have qx2 := (RcAt.s2 (RcAt.s1 (RcAt.s0 QX.out G) S) M)
 obtain ⟨U3, hU3⟩ : ∃ U, U = (((y3.setCell ⟨w.heap.size + 2, 0, none⟩ (.int .u32 (G : Int))).setCell ⟨w.heap.size + 2, 1, none⟩ (.int .u32 (S : Int))).setCell ⟨w.heap.size + 2, 2, none⟩ (.int .u32 (M : Int))) := ⟨_, rfl⟩
 have bU : Below (w.heap.size + 2) y3 U3 := by rw [hU3]; exact ((((Below.refl (w.heap.size + 2) y3).setCell (p := ⟨w.heap.size + 2, 0, none⟩) (Nat.le_refl _) _).setCell (p := ⟨w.heap.size + 2, 1, none⟩) (Nat.le_refl _) _).setCell (p := ⟨w.heap.size + 2, 2, none⟩) (Nat.le_refl _) _)
 rw [← hU3] at qx2
 have zz := bU.size
 have QRD : Hid (RrAt U3 (w.heap.size + 1) _ c _) := Lib.hid ((bU.block _ (by omega)).trans QRD.out)
 have b0 := b0.trans (bU.mono (by omega))
 have rx := rx.old_ bU (show bb < w.heap.size + 2 by omega)
 have QR : Hid (RcAt U3 w.heap.size rcZ none 0 0) := Lib.hid ((bU.block _ (by omega)).trans QR.out)
 have QX := Lib.hid qx2
 have HU3 := Lib.hid hU3
 have z0 : w.heap.size + 3 ≤ U3.heap.size := by omega
 clear hU3 qx2 bU zz
 go_wp2_with fail
 rw [← HU3.out]
 clear kx0 fx0 kx1 fx1 kx2 fx2
 have hh := recRNumber_any (w.heap.size + 1) bb oo c xs 16 8 U3 QRD.out rx ho (by omega) (by omega)
 rw [HT.out] at hh
 refine hh.mono ?_
 clear hh
 rintro e y4 ⟨rfl, qr, hy, sy⟩
 have b0 := b0.trans (hy.mono (by omega))
 have rx := rx.old_ hy ho
 have qx2 := sy.row QX.out (by omega)
 have QX : Hid (RcAt y4 (w.heap.size + 2) _ none 0 0) := Lib.hid qx2
 have QR : Hid (RcAt y4 w.heap.size rcZ none 0 0) := Lib.hid ((hy.block _ (by omega)).trans QR.out)
 have QRD := Lib.hid qr
 have zz := sy.size
 have z0 : w.heap.size + 3 ≤ y4.heap.size := by omega
 clear qr hy sy qx2 zz
 have kx3 := RcAt.c3 QX.out
 have fx3 := RcAt.fr QX.out 3
 have qx2 := (RcAt.s3 QX.out T)
 obtain ⟨U4, hU4⟩ : ∃ U, U = (y4.setCell ⟨w.heap.size + 2, 3, none⟩ (.int .u64 (T : Int))) := ⟨_, rfl⟩
 have bU : Below (w.heap.size + 2) y4 U4 := by rw [hU4]; exact ((Below.refl (w.heap.size + 2) y4).setCell (p := ⟨w.heap.size + 2, 3, none⟩) (Nat.le_refl _) _)
 rw [← hU4] at qx2
 have zz := bU.size
 have QRD : Hid (RrAt U4 (w.heap.size + 1) _ c _) := Lib.hid ((bU.block _ (by omega)).trans QRD.out)
 have b0 := b0.trans (bU.mono (by omega))
 have rx := rx.old_ bU (show bb < w.heap.size + 2 by omega)
 have QR : Hid (RcAt U4 w.heap.size rcZ none 0 0) := Lib.hid ((bU.block _ (by omega)).trans QR.out)
 have QX := Lib.hid qx2
 have HU4 := Lib.hid hU4
 have z0 : w.heap.size + 3 ≤ U4.heap.size := by omega
 clear hU4 qx2 bU zz
 go_wp2_with fail
 rw [← HU4.out]
 clear kx3 fx3
 have hh := recRNumber_any (w.heap.size + 1) bb oo c xs 24 1 U4 QRD.out rx ho (by omega) (by omega)
 rw [HK.out] at hh
 refine hh.mono ?_
 clear hh
 rintro e y5 ⟨rfl, qr, hy, sy⟩
 have b0 := b0.trans (hy.mono (by omega))
 have rx := rx.old_ hy ho
 have qx2 := sy.row QX.out (by omega)
 have QX : Hid (RcAt y5 (w.heap.size + 2) _ none 0 0) := Lib.hid qx2
 have QR : Hid (RcAt y5 w.heap.size rcZ none 0 0) := Lib.hid ((hy.block _ (by omega)).trans QR.out)
 have QRD := Lib.hid qr
 have zz := sy.size
 have z0 : w.heap.size + 3 ≤ y5.heap.size := by omega
 clear qr hy sy qx2 zz
 have kx4 := RcAt.c4 QX.out
 have fx4 := RcAt.fr QX.out 4
 have qx2 := (RcAt.s4 QX.out (K : Int))
 obtain ⟨U5, hU5⟩ : ∃ U, U = (y5.setCell ⟨w.heap.size + 2, 4, none⟩ (.int .i64 (K : Int))) := ⟨_, rfl⟩
 have bU : Below (w.heap.size + 2) y5 U5 := by rw [hU5]; exact ((Below.refl (w.heap.size + 2) y5).setCell (p := ⟨w.heap.size + 2, 4, none⟩) (Nat.le_refl _) _)
 rw [← hU5] at qx2
 have zz := bU.size
 have QRD : Hid (RrAt U5 (w.heap.size + 1) _ c _) := Lib.hid ((bU.block _ (by omega)).trans QRD.out)
 have b0 := b0.trans (bU.mono (by omega))
 have rx := rx.old_ bU (show bb < w.heap.size + 2 by omega)
 have QR : Hid (RcAt U5 w.heap.size rcZ none 0 0) := Lib.hid ((bU.block _ (by omega)).trans QR.out)
 have QX := Lib.hid qx2
 have HU5 := Lib.hid hU5
 have z0 : w.heap.size + 3 ≤ U5.heap.size := by omega
 clear hU5 qx2 bU zz
 go_wp2_with fail
 rw [← HU5.out]
 clear kx4 fx4
 have hh := recRNumber_any (w.heap.size + 1) bb oo c xs 25 1 U5 QRD.out rx ho (by omega) (by omega)
 rw [HN.out] at hh
 refine hh.mono ?_
 clear hh
 rintro e y6 ⟨rfl, qr, hy, sy⟩
 have b0 := b0.trans (hy.mono (by omega))
 have rx := rx.old_ hy ho
 have qx2 := sy.row QX.out (by omega)
 have QX : Hid (RcAt y6 (w.heap.size + 2) _ none 0 0) := Lib.hid qx2
 have QR : Hid (RcAt y6 w.heap.size rcZ none 0 0) := Lib.hid ((hy.block _ (by omega)).trans QR.out)
 have QRD := Lib.hid qr
 have zz := sy.size
 have z0 : w.heap.size + 3 ≤ y6.heap.size := by omega
 clear qr hy sy qx2 zz
 go_wp2_with fail
 have hh := recRNumber_any (w.heap.size + 1) bb oo c xs 26 8 y6 QRD.out rx ho (by omega) (by omega)
 rw [HC.out] at hh
 refine hh.mono ?_
 clear hh
 rintro e y7 ⟨rfl, qr, hy, sy⟩
 have b0 := b0.trans (hy.mono (by omega))
 have rx := rx.old_ hy ho
 have qx2 := sy.row QX.out (by omega)
 have QX : Hid (RcAt y7 (w.heap.size + 2) _ none 0 0) := Lib.hid qx2
 have QR : Hid (RcAt y7 w.heap.size rcZ none 0 0) := Lib.hid ((hy.block _ (by omega)).trans QR.out)
 have QRD := Lib.hid qr
 have zz := sy.size
 have z0 : w.heap.size + 3 ≤ y7.heap.size := by omega
 clear qr hy sy qx2 zz
 have d1 : decide ((180 : Int) < (N : Int)) = false := decide_eq_false (by have := E25.out; omega)
 have kx5 := RcAt.c5 QX.out
 have fx5 := RcAt.fr QX.out 5
 have qx2 := (RcAt.s5 QX.out C)
 obtain ⟨U7, hU7⟩ : ∃ U, U = (y7.setCell ⟨w.heap.size + 2, 5, none⟩ (.int .u64 (C : Int))) := ⟨_, rfl⟩
 have bU : Below (w.heap.size + 2) y7 U7 := by rw [hU7]; exact ((Below.refl (w.heap.size + 2) y7).setCell (p := ⟨w.heap.size + 2, 5, none⟩) (Nat.le_refl _) _)
 rw [← hU7] at qx2
 have zz := bU.size
 have QRD : Hid (RrAt U7 (w.heap.size + 1) _ c _) := Lib.hid ((bU.block _ (by omega)).trans QRD.out)
 have b0 := b0.trans (bU.mono (by omega))
 have rx := rx.old_ bU (show bb < w.heap.size + 2 by omega)
 have QR : Hid (RcAt U7 w.heap.size rcZ none 0 0) := Lib.hid ((bU.block _ (by omega)).trans QR.out)
 have QX := Lib.hid qx2
 have HU7 := Lib.hid hU7
 have z0 : w.heap.size + 3 ≤ U7.heap.size := by omega
 clear hU7 qx2 bU zz
 go_wp2_with fail
 rw [← HU7.out]
 clear kx5 fx5
 have hN : N ≤ 180 := by have := E25.out; omega
 refine (recPart_any (w.heap.size + 1) bb oo c xs 34 N U7 QRD.out rx ho (by omega)).mono ?_
 rintro e y8 ⟨B, rfl, rB, qr, hy, sy⟩
 have b0 := b0.trans (hy.mono (by omega))
 have rx := rx.old_ hy ho
 have qx2 := sy.row QX.out (by omega)
 have QX : Hid (RcAt y8 (w.heap.size + 2) _ none 0 0) := Lib.hid qx2
 have QR : Hid (RcAt y8 w.heap.size rcZ none 0 0) := Lib.hid ((hy.block _ (by omega)).trans QR.out)
 have zz := sy.size
 have z0 : w.heap.size + 3 ≤ y8.heap.size := by omega
 clear qr hy sy qx2 zz QRD
 go_wp2_with fail
 refine (clone_any B N N _ y8 rB (by omega)).mono ?_
 rintro e y9 ⟨A4, n4, c4, rfl, ho4, hb4⟩
 have hn4 : n4 = N := by rw [← ho4.len, rB.2.1]
 subst hn4
 have b0 := below_then b0 hb4
 have rx := rx.below hb4
 have q9 := QX.out.up hb4
 have QR : Hid (RcAt y9 w.heap.size rcZ none 0 0) := Lib.hid (QR.out.up hb4)
 have k6 := q9.c6
 have f6 := q9.fr 6
 have o4 : 0 < n4 → ∀ a, A4 = some a → y8.heap.size ≤ a.block := fun h0 a e => by
  obtain ⟨g', he, h1, h2⟩ := ho4.addr h0
  rw [e] at he; injection he with he; subst he; exact h1
 have q10 := q9.setB (A' := A4) (n' := n4) (c' := c4) ((xs.drop 34).take n4)
 have r5 := rd_far ho4.rd ⟨w.heap.size + 2, 6, none⟩ (.slice A4 n4 c4) (fun h0 a e => by have := o4 h0 a e; show a.block ≠ w.heap.size + 2; omega)
 obtain ⟨V9, hV9⟩ : ∃ W, W = y9.setCell ⟨w.heap.size + 2, 6, none⟩ (.slice A4 n4 c4) := ⟨_, rfl⟩
 have bV : Below (w.heap.size + 2) y9 V9 := by rw [hV9]; exact (Below.refl _ y9).setCell (p := ⟨w.heap.size + 2, 6, none⟩) (Nat.le_refl _) _
 rw [← hV9] at q10 r5
 have z9 := hb4.size
 have b0 := b0.trans (bV.mono (by omega))
 have rx := rx.old_ bV (by omega)
 have QR : Hid (RcAt V9 w.heap.size rcZ none 0 0) := Lib.hid ((bV.block _ (by omega)).trans QR.out)
 have Q10 := Lib.hid q10
 have HV9 := Lib.hid hV9
 obtain ⟨D9, hD9⟩ : ∃ d, d = (xs.drop 220).take 32 := ⟨_, rfl⟩
 have hD9l : D9.length = 32 := by rw [hD9, List.length_take, List.length_drop, HX.out]; rfl
 have rD : RdB V9 (some ⟨bb, oo + 220, none⟩) 32 (c - 220) D9 := by rw [hD9]; exact (rx.cutS 220 36 (by omega) (by omega)).take 32 (by omega)
 have hD9z : (Tryz.prog.info? 30).map (·.size) = some (D9.map vB).length := by rw [List.length_map, hD9l]; kernel_rfl
 have cb : ¬ (c = 220) := by omega
 have ci : (252 : Int) ≤ (c : Int) := by omega
 have ka := rarr_dig
 have RD := Lib.hid rD
 have HDZ := Lib.hid hD9z
 have HDL := Lib.hid hD9l
 have HD9 := Lib.hid hD9
 have hRD : ((({ g := G, s := S, m := M, t := T, k := (K : Int), c := C, b := (xs.drop 34).take n4, D := rcZ.D } : Rc)).D.length = 32) := rcZ_ok.2.2.2.2.2.2
 obtain ⟨RX, hRX⟩ : ∃ R, R = (⟨G, S, M, T, (K : Int), C, (xs.drop 34).take n4, rcZ.D⟩ : Rc) := ⟨_, rfl⟩
 have Q10 : Hid (RcAt V9 (w.heap.size + 2) RX A4 n4 c4) := by rw [hRX]; exact Q10
 have hRXD : RX.D.length = 32 := by rw [hRX]; exact hRD
 have hthere := Q10.out.there hRXD
 have Q11 := Q10.out.setD hRXD D9 hD9l
 have HTH := Lib.hid hthere
 have HRX := Lib.hid hRX
 clear hV9 q9 q10 hD9 hD9l rD hD9z hRX hRD hRXD hthere QX
 obtain ⟨X, hX⟩ : ∃ X, X = V9.setCells (w.heap.size + 2) 7 (D9.map vB) := ⟨_, rfl⟩
 have bX : Below (w.heap.size + 2) V9 X := by rw [hX]; exact setCells_below (Nat.le_refl _) _ _ _ _ (Below.refl _ _)
 have QX : Hid (RcAt X (w.heap.size + 2) { RX with D := D9 } A4 n4 c4) := by rw [hX]; exact Lib.hid Q11
 have QRX : Hid (RcAt X w.heap.size rcZ none 0 0) := Lib.hid ((bX.block _ (by omega)).trans QR.out)
 have hrX : RdB X A4 n4 c4 ((xs.drop 34).take n4) := by
  rw [hX]
  refine ⟨?_, r5.2⟩
  by_cases h0 : 0 < n4
  ·rcases r5.1 with h1 | ⟨b1, o1, rfl, hl, hcc⟩
   ·exact .inl h1
   ·have hne := o4 h0 _ rfl
    refine .inr ⟨b1, o1, rfl, by rw [setCells_size]; exact hl, fun i v hv => ?_⟩
    rw [World.cell?_setCells_out _ _ _ _ _ (fun hb _ => absurd hb (by show b1 ≠ w.heap.size + 2; have : y8.heap.size ≤ b1 := hne; omega))]
    exact hcc i v hv
  ·left
   have := r5.2.1
   rw [List.eq_nil_of_length_eq_zero (show ((xs.drop 34).take n4).length = 0 by omega)]; rfl
 have b0 := b0.trans (bX.mono (by omega))
 have hst : (storeCells ⟨w.heap.size + 1 + 1, 7, none⟩ (D9.map vB)).run Tryz.prog V9 = .ok () X := by
  have := run_storeCells_cells (P := Tryz.prog) (w.heap.size + 2) 7 (D9.map vB) 0 V9 (fun j hj => by simpa using (HTH.out j (by rw [List.length_map, HDL.out] at hj; exact hj)).1) (fun j hj => by simpa using (HTH.out j (by rw [List.length_map, HDL.out] at hj; exact hj)).2) (oneCell_vB D9)
  rw [hX]
  simpa using this
 have HXX := Lib.hid hX
 have hDD : ({ RX with D := D9 } : Rc).D.length = 32 := HDL.out
 clear hX Q11
 go_wp2_with (first
  | (rw [← HV9.out]; refine wpList_load_mid rfl 30 _ rfl bb (oo + 220) rfl (D9.map vB) _ (rd_range RD.out) Tryz.underlying30 rfl HDZ.out ?_)
  | (refine rc_load rfl _ rfl rfl QX.out hDD ?_)
  | (refine rc_store rfl _ _ rfl rfl rfl QRX.out hDD rcZ_ok.2.2.2.2.2.2 ?_))
 refine bodyPost_ret (rresults_row_tmp Tryz.results157 _ _ w.heap.size 90 _ (0, 0) _ rfl (RcAt.setRow (r' := { RX with D := D9 }) (A' := A4) (n' := n4) (c' := c4) QRX.out) Tryz.underlying90 rfl (rcInfo { RX with D := D9 } _ _ _ hDD)) rfl ?_
 refine ⟨A4, n4, c4, { RX with D := D9 }, by rw [decide_eq_true hgood]; rfl, hDD, ?_, fun _ => ?_, fun h0 a e => by have := o4 h0 a e; omega, below_setRow b0 (Nat.le_refl _) _⟩
 ·rw [show ({ RX with D := D9 } : Rc).b = (xs.drop 34).take n4 by rw [HRX.out]]
  exact rd_row hrX w.heap.size _ (fun h0 a e => by have := o4 h0 a e; omega)
 ·rw [HRX.out, HD9.out]
  unfold rcOf
  rw [HG.out, HS.out, HM.out, HT.out, HC.out, E24.out, E25.out]
theorem recRead_any (bb oo c : Nat) (xs : List UInt8) (w : World) (hr : RdB w (some ⟨bb, oo, none⟩) 256 c xs) (hbb : bb < w.heap.size) :
  Calls Tryz.prog 157 #[.slice (some ⟨bb, oo, none⟩) 256 c] w (RetRd w xs) := by
 by_cases h : (xs.getD 25 0).toNat ≤ 180
 ·exact recRead_good bb oo c xs w hr hbb h
 ·exact recRead_bad bb oo c xs w hr hbb h
set_option maxHeartbeats 4000000
theorem rbeq_any (A1 A2 : Option Addr) (n c m d : Nat) (xs ys : List UInt8) (w : World) (h1 : RdB w A1 n c xs) (h2 : RdB w A2 m d ys) :
  Calls Tryz.prog 147 #[.slice A1 n c, .slice A2 m d] w fun e w' => e = .returned (.bool (decide (xs = ys))) ∧ w = w' := by
 have k1 := h1.str
 have k2 := h2.str
 have k3 := strOf_eq xs ys
 go_enter Tryz.func147, Tryz.ntmps147
 go_wp2
 go_ret
 exact ⟨rfl, rfl⟩
theorem zeroAt {w : World} {g : Nat} (h : w.heap.size = g) : RcAt (w.alloc (.cells zz3 90)) g rcZ none 0 0 := by
 have h0 := rw_at (w := w) (k := g) (.cells zz3 90) h
 exact h0.trans (congrArg (fun z => some (Obj.cells z 90 (0, 0))) zeroRc)
theorem rcZD : rcZ.D.length = 32 := rcZ_ok.2.2.2.2.2.2
theorem recGet_early (A : Option Addr) (n c : Nat) (xs : List UInt8) (w : World) (hr : RdB w A n c xs) (h : n ≠ 256) :
  Calls Tryz.prog 148 #[.slice A n c] w (RetRc w rcZ 2) := by
 have hn := hr.n63
 have d1 : ((n : Int) != 256) = true := by rw [bne_iff_ne]; omega
 obtain ⟨V, hV⟩ : ∃ V, V = w.alloc (.cells zz3 90) := ⟨_, rfl⟩
 have bV : Below w.heap.size w V := by rw [hV]; exact (below_self w).alloc (Nat.le_refl _) _
 have Q : Hid (RcAt V w.heap.size rcZ none 0 0) := by rw [hV]; exact Lib.hid (zeroAt rfl)
 have HV := Lib.hid hV
 clear hV h
 go_enter Tryz.func148, Tryz.ntmps148
 go_wp2_with (rw [← HV.out]; refine rc_store rfl _ _ rfl rfl (r := rcZ) (A := none) (n := 0) (c := 0) (congrArg Value.agg zeroRc) Q.out rcZD rcZD ?_)
 refine bodyPost_ret (rresults_row_tmp Tryz.results148 _ _ w.heap.size 90 _ (0, 0) _ rfl (RcAt.setRow (r' := rcZ) (A' := none) (n' := 0) (c' := 0) Q.out) Tryz.underlying90 rfl (rcInfo rcZ none 0 0 rcZD)) rfl ?_
 exact ⟨none, 0, 0, rfl, RdB.nilB _, fun h => absurd h (Nat.lt_irrefl 0), below_setRow bV (Nat.le_refl _) _⟩
theorem recGet_sum (A : Option Addr) (c : Nat) (xs : List UInt8) (w : World) (hr : RdB w A 256 c xs) (h : crcHolds xs = false) :
  Calls Tryz.prog 148 #[.slice A 256 c] w (RetRc w rcZ 6) := by
 have d1 : ((256 : Int) != 256) = false := by decide
 obtain ⟨V, hV⟩ : ∃ V, V = w.alloc (.cells zz3 90) := ⟨_, rfl⟩
 have bV : Below w.heap.size w V := by rw [hV]; exact (below_self w).alloc (Nat.le_refl _) _
 have Q : Hid (RcAt V w.heap.size rcZ none 0 0) := by rw [hV]; exact Lib.hid (zeroAt rfl)
 have HV := Lib.hid hV
 have hh := holds_any A 256 c xs V (hr.below bV) (by omega)
 rw [h] at hh
 have HH := Lib.hid hh
 clear hV h hh
 go_enter Tryz.func148, Tryz.ntmps148
 go_wp2_with fail
 rw [← HV.out]
 refine HH.out.mono ?_
 rintro e w2 ⟨rfl, hb2⟩
 have Q2 := Lib.hid (Q.out.up hb2)
 go_wp2_with (refine rc_store rfl _ _ rfl rfl (r := rcZ) (A := none) (n := 0) (c := 0) (congrArg Value.agg zeroRc) Q2.out rcZD rcZD ?_)
 refine bodyPost_ret (rresults_row_tmp Tryz.results148 _ _ w.heap.size 90 _ (0, 0) _ rfl (RcAt.setRow (r' := rcZ) (A' := none) (n' := 0) (c' := 0) Q2.out) Tryz.underlying90 rfl (rcInfo rcZ none 0 0 rcZD)) rfl ?_
 exact ⟨none, 0, 0, rfl, RdB.nilB _, fun h => absurd h (Nat.lt_irrefl 0), below_setRow (below_then bV hb2) (Nat.le_refl _) _⟩
theorem recGet_form (A : Option Addr) (c : Nat) (xs : List UInt8) (w : World) (hr : RdB w A 256 c xs) (h : crcHolds xs = true) (hbad : ¬ (xs.getD 25 0).toNat ≤ 180) :
  Calls Tryz.prog 148 #[.slice A 256 c] w (RetRc w rcZ 3) := by
 have d1 : ((256 : Int) != 256) = false := by decide
 obtain ⟨bb, oo, u0, rfl, hbl, _⟩ := hr.at_ 0 (by omega)
 obtain ⟨V, hV⟩ : ∃ V, V = w.alloc (.cells zz3 90) := ⟨_, rfl⟩
 have bV : Below w.heap.size w V := by rw [hV]; exact (below_self w).alloc (Nat.le_refl _) _
 have zV : V.heap.size = w.heap.size + 1 := by rw [hV]; simp
 have Q : Hid (RcAt V w.heap.size rcZ none 0 0) := by rw [hV]; exact Lib.hid (zeroAt rfl)
 have HV := Lib.hid hV
 have hh := holds_any _ 256 c xs V (hr.below bV) (by omega)
 rw [h] at hh
 have HH := Lib.hid hh
 have hdec : decide ((xs.getD 25 0).toNat ≤ 180) = false := decide_eq_false hbad
 have hrd := fun W (hW : Below V.heap.size V W) => recRead_any bb oo c xs W (hr.below (below_then bV hW)) (by have := hW.size; omega)
 unfold RetRd at hrd
 rw [hdec] at hrd
 have HRd := Lib.hid hrd
 have ZV := Lib.hid zV
 have HX := Lib.hid hr.2.1
 clear hV h hh hrd hdec zV
 go_enter Tryz.func148, Tryz.ntmps148
 go_wp2_with fail
 rw [← HV.out]
 refine HH.out.mono ?_
 rintro e w2 ⟨rfl, hb2⟩
 have Q2 := Lib.hid (Q.out.up hb2)
 go_wp2_with fail
 refine (HRd.out w2 hb2).mono ?_
 rintro e w3 ⟨A4, n4, c4, R, rfl, hRD, hRb, hRx, hRf, hb3⟩
 have Q3 := Lib.hid (Q2.out.up hb3)
 obtain ⟨Z3, hZ3⟩ : ∃ W, W = w3.alloc (.cells zz3 90) := ⟨_, rfl⟩
 have QZ : Hid (RcAt Z3 w3.heap.size rcZ none 0 0) := by rw [hZ3]; exact Lib.hid (zeroAt rfl)
 have bZ : Below w3.heap.size w3 Z3 := by rw [hZ3]; exact (below_self _).alloc (Nat.le_refl _) _
 obtain ⟨X, hX⟩ : ∃ W, W = Z3.setRow w3.heap.size (rcV R A4 n4 c4).toArray := ⟨_, rfl⟩
 have bX : Below w3.heap.size w3 X := by rw [hX]; exact below_setRow bZ (Nat.le_refl _) _
 have QX : Hid (RcAt X w3.heap.size R A4 n4 c4) := by rw [hX]; exact Lib.hid QZ.out.setRow
 have QR : Hid (RcAt X w.heap.size rcZ none 0 0) := Lib.hid (Q3.out.up bX)
 have B := below_then (below_then (below_then bV hb2) hb3) bX
 have hrX := hr.below B
 have hRbX := hRb.below bX
 have HX3 := Lib.hid hX
 have HZ3 := Lib.hid hZ3
 have HRX := Lib.hid hRx
 have HRD := Lib.hid hRD
 have z3 := hb3.size
 have z2 := hb2.size
 clear hX hZ3 hRx hRD
 go_wp2_with (first | (rw [← HZ3.out]; refine rc_store rfl _ _ rfl rfl rfl QZ.out HRD.out rcZD ?_) | (rw [← HX3.out]; refine rc_store rfl _ _ rfl rfl (r := rcZ) (A := none) (n := 0) (c := 0) (congrArg Value.agg zeroRc) QR.out rcZD rcZD ?_))
 refine bodyPost_ret (rresults_row_tmp Tryz.results148 _ _ w.heap.size 90 _ (0, 0) _ rfl (RcAt.setRow (r' := rcZ) (A' := none) (n' := 0) (c' := 0) QR.out) Tryz.underlying90 rfl (rcInfo rcZ none 0 0 rcZD)) rfl ?_
 exact ⟨none, 0, 0, rfl, RdB.nilB _, fun h => absurd h (Nat.lt_irrefl 0), below_setRow (B) (Nat.le_refl _) _⟩
theorem recGet_chk (A : Option Addr) (c : Nat) (xs : List UInt8) (w : World) (hr : RdB w A 256 c xs) (h : crcHolds xs = true) (hgood : (xs.getD 25 0).toNat ≤ 180) (hchk : (rcOf xs).chk = false) :
  Calls Tryz.prog 148 #[.slice A 256 c] w (RetRc w rcZ 3) := by
 have d1 : ((256 : Int) != 256) = false := by decide
 obtain ⟨bb, oo, u0, rfl, hbl, _⟩ := hr.at_ 0 (by omega)
 obtain ⟨V, hV⟩ : ∃ V, V = w.alloc (.cells zz3 90) := ⟨_, rfl⟩
 have bV : Below w.heap.size w V := by rw [hV]; exact (below_self w).alloc (Nat.le_refl _) _
 have zV : V.heap.size = w.heap.size + 1 := by rw [hV]; simp
 have Q : Hid (RcAt V w.heap.size rcZ none 0 0) := by rw [hV]; exact Lib.hid (zeroAt rfl)
 have HV := Lib.hid hV
 have hh := holds_any _ 256 c xs V (hr.below bV) (by omega)
 rw [h] at hh
 have HH := Lib.hid hh
 have hdec : decide ((xs.getD 25 0).toNat ≤ 180) = true := decide_eq_true hgood
 have hrd := fun W (hW : Below V.heap.size V W) => recRead_any bb oo c xs W (hr.below (below_then bV hW)) (by have := hW.size; omega)
 unfold RetRd at hrd
 rw [hdec] at hrd
 have HRd := Lib.hid hrd
 have ZV := Lib.hid zV
 have HX := Lib.hid hr.2.1
 clear hV h hh hrd hdec zV
 go_enter Tryz.func148, Tryz.ntmps148
 go_wp2_with fail
 rw [← HV.out]
 refine HH.out.mono ?_
 rintro e w2 ⟨rfl, hb2⟩
 have Q2 := Lib.hid (Q.out.up hb2)
 go_wp2_with fail
 refine (HRd.out w2 hb2).mono ?_
 rintro e w3 ⟨A4, n4, c4, R, rfl, hRD, hRb, hRx, hRf, hb3⟩
 have Q3 := Lib.hid (Q2.out.up hb3)
 obtain ⟨Z3, hZ3⟩ : ∃ W, W = w3.alloc (.cells zz3 90) := ⟨_, rfl⟩
 have QZ : Hid (RcAt Z3 w3.heap.size rcZ none 0 0) := by rw [hZ3]; exact Lib.hid (zeroAt rfl)
 have bZ : Below w3.heap.size w3 Z3 := by rw [hZ3]; exact (below_self _).alloc (Nat.le_refl _) _
 obtain ⟨X, hX⟩ : ∃ W, W = Z3.setRow w3.heap.size (rcV R A4 n4 c4).toArray := ⟨_, rfl⟩
 have bX : Below w3.heap.size w3 X := by rw [hX]; exact below_setRow bZ (Nat.le_refl _) _
 have QX : Hid (RcAt X w3.heap.size R A4 n4 c4) := by rw [hX]; exact Lib.hid QZ.out.setRow
 have QR : Hid (RcAt X w.heap.size rcZ none 0 0) := Lib.hid (Q3.out.up bX)
 have B := below_then (below_then (below_then bV hb2) hb3) bX
 have hrX := hr.below B
 have hRbX := hRb.below bX
 have HX3 := Lib.hid hX
 have HZ3 := Lib.hid hZ3
 have HRX := Lib.hid hRx
 have HRD := Lib.hid hRD
 have z3 := hb3.size
 have z2 := hb2.size
 clear hX hZ3 hRx hRD
 have hR := HRX.out hgood
 have hok : R.ok := by rw [hR]; exact rcOf_ok xs HX.out
 have hp := recPut_any R A4 n4 c4 X hok hRbX
 unfold rcPutL rcPutE at hp
 rw [show R.chk = false by rw [hR]; exact hchk] at hp
 rw [if_neg (by decide), if_neg (by decide)] at hp
 have HP := Lib.hid hp
 clear hp hok hR hchk
 go_wp2_with (first | (rw [← HZ3.out]; refine rc_store rfl _ _ rfl rfl rfl QZ.out HRD.out rcZD ?_) | (rw [← HX3.out]; refine rc_load rfl _ rfl rfl QX.out HRD.out ?_))
 refine HP.out.mono ?_
 rintro e w5 ⟨A5, n5, c5, rfl, ho5, hb5⟩
 have QR5 := Lib.hid (QR.out.up hb5)
 go_wp2_with (refine rc_store rfl _ _ rfl rfl (r := rcZ) (A := none) (n := 0) (c := 0) (congrArg Value.agg zeroRc) QR5.out rcZD rcZD ?_)
 refine bodyPost_ret (rresults_row_tmp Tryz.results148 _ _ w.heap.size 90 _ (0, 0) _ rfl (RcAt.setRow (r' := rcZ) (A' := none) (n' := 0) (c' := 0) QR5.out) Tryz.underlying90 rfl (rcInfo rcZ none 0 0 rcZD)) rfl ?_
 exact ⟨none, 0, 0, rfl, RdB.nilB _, fun h => absurd h (Nat.lt_irrefl 0), below_setRow (below_then B hb5) (Nat.le_refl _) _⟩
theorem recGet_neq (A : Option Addr) (c : Nat) (xs : List UInt8) (w : World) (hr : RdB w A 256 c xs) (h : crcHolds xs = true) (hgood : (xs.getD 25 0).toNat ≤ 180) (hchk : (rcOf xs).chk = true) (hne : rcL (rcOf xs) ≠ xs) :
  Calls Tryz.prog 148 #[.slice A 256 c] w (RetRc w rcZ 3) := by
 have d1 : ((256 : Int) != 256) = false := by decide
 obtain ⟨bb, oo, u0, rfl, hbl, _⟩ := hr.at_ 0 (by omega)
 obtain ⟨V, hV⟩ : ∃ V, V = w.alloc (.cells zz3 90) := ⟨_, rfl⟩
 have bV : Below w.heap.size w V := by rw [hV]; exact (below_self w).alloc (Nat.le_refl _) _
 have zV : V.heap.size = w.heap.size + 1 := by rw [hV]; simp
 have Q : Hid (RcAt V w.heap.size rcZ none 0 0) := by rw [hV]; exact Lib.hid (zeroAt rfl)
 have HV := Lib.hid hV
 have hh := holds_any _ 256 c xs V (hr.below bV) (by omega)
 rw [h] at hh
 have HH := Lib.hid hh
 have hdec : decide ((xs.getD 25 0).toNat ≤ 180) = true := decide_eq_true hgood
 have hrd := fun W (hW : Below V.heap.size V W) => recRead_any bb oo c xs W (hr.below (below_then bV hW)) (by have := hW.size; omega)
 unfold RetRd at hrd
 rw [hdec] at hrd
 have HRd := Lib.hid hrd
 have ZV := Lib.hid zV
 have HX := Lib.hid hr.2.1
 clear hV h hh hrd hdec zV
 go_enter Tryz.func148, Tryz.ntmps148
 go_wp2_with fail
 rw [← HV.out]
 refine HH.out.mono ?_
 rintro e w2 ⟨rfl, hb2⟩
 have Q2 := Lib.hid (Q.out.up hb2)
 go_wp2_with fail
 refine (HRd.out w2 hb2).mono ?_
 rintro e w3 ⟨A4, n4, c4, R, rfl, hRD, hRb, hRx, hRf, hb3⟩
 have Q3 := Lib.hid (Q2.out.up hb3)
 obtain ⟨Z3, hZ3⟩ : ∃ W, W = w3.alloc (.cells zz3 90) := ⟨_, rfl⟩
 have QZ : Hid (RcAt Z3 w3.heap.size rcZ none 0 0) := by rw [hZ3]; exact Lib.hid (zeroAt rfl)
 have bZ : Below w3.heap.size w3 Z3 := by rw [hZ3]; exact (below_self _).alloc (Nat.le_refl _) _
 obtain ⟨X, hX⟩ : ∃ W, W = Z3.setRow w3.heap.size (rcV R A4 n4 c4).toArray := ⟨_, rfl⟩
 have bX : Below w3.heap.size w3 X := by rw [hX]; exact below_setRow bZ (Nat.le_refl _) _
 have QX : Hid (RcAt X w3.heap.size R A4 n4 c4) := by rw [hX]; exact Lib.hid QZ.out.setRow
 have QR : Hid (RcAt X w.heap.size rcZ none 0 0) := Lib.hid (Q3.out.up bX)
 have B := below_then (below_then (below_then bV hb2) hb3) bX
 have hrX := hr.below B
 have hRbX := hRb.below bX
 have HX3 := Lib.hid hX
 have HZ3 := Lib.hid hZ3
 have HRX := Lib.hid hRx
 have HRD := Lib.hid hRD
 have z3 := hb3.size
 have z2 := hb2.size
 clear hX hZ3 hRx hRD
 have hR := HRX.out hgood
 have hok : R.ok := by rw [hR]; exact rcOf_ok xs HX.out
 have hp := recPut_any R A4 n4 c4 X hok hRbX
 unfold rcPutL rcPutE at hp
 rw [show R.chk = true by rw [hR]; exact hchk] at hp
 rw [if_pos rfl, if_pos rfl] at hp
 have HP := Lib.hid hp
 have HEQ := Lib.hid (show decide (rcL R = xs) = false from by rw [hR]; exact decide_eq_false hne)
 have HR := Lib.hid hR
 clear hp hok hR hchk hne
 go_wp2_with (first | (rw [← HZ3.out]; refine rc_store rfl _ _ rfl rfl rfl QZ.out HRD.out rcZD ?_) | (rw [← HX3.out]; refine rc_load rfl _ rfl rfl QX.out HRD.out ?_))
 refine HP.out.mono ?_
 rintro e w5 ⟨A5, n5, c5, rfl, ho5, hb5⟩
 have QR5 := Lib.hid (QR.out.up hb5)
 have QX5 := Lib.hid (QX.out.up hb5)
 go_wp2_with fail
 refine (rbeq_any _ _ _ _ _ _ (rcL R) xs w5 ho5.rd (hrX.below hb5)).mono ?_
 rintro e w6 ⟨rfl, rfl⟩
 rw [HEQ.out]
 go_wp2_with (refine rc_store rfl _ _ rfl rfl (r := rcZ) (A := none) (n := 0) (c := 0) (congrArg Value.agg zeroRc) QR5.out rcZD rcZD ?_)
 refine bodyPost_ret (rresults_row_tmp Tryz.results148 _ _ w.heap.size 90 _ (0, 0) _ rfl (RcAt.setRow (r' := rcZ) (A' := none) (n' := 0) (c' := 0) QR5.out) Tryz.underlying90 rfl (rcInfo rcZ none 0 0 rcZD)) rfl ?_
 exact ⟨none, 0, 0, rfl, RdB.nilB _, fun h => absurd h (Nat.lt_irrefl 0), below_setRow (below_then B hb5) (Nat.le_refl _) _⟩
theorem recGet_yes (A : Option Addr) (c : Nat) (xs : List UInt8) (w : World) (hr : RdB w A 256 c xs) (h : crcHolds xs = true) (hgood : (xs.getD 25 0).toNat ≤ 180) (hchk : (rcOf xs).chk = true) (hne : rcL (rcOf xs) = xs) :
  Calls Tryz.prog 148 #[.slice A 256 c] w (RetRc w (rcOf xs) 0) := by
 have d1 : ((256 : Int) != 256) = false := by decide
 obtain ⟨bb, oo, u0, rfl, hbl, _⟩ := hr.at_ 0 (by omega)
 obtain ⟨V, hV⟩ : ∃ V, V = w.alloc (.cells zz3 90) := ⟨_, rfl⟩
 have bV : Below w.heap.size w V := by rw [hV]; exact (below_self w).alloc (Nat.le_refl _) _
 have zV : V.heap.size = w.heap.size + 1 := by rw [hV]; simp
 have Q : Hid (RcAt V w.heap.size rcZ none 0 0) := by rw [hV]; exact Lib.hid (zeroAt rfl)
 have HV := Lib.hid hV
 have hh := holds_any _ 256 c xs V (hr.below bV) (by omega)
 rw [h] at hh
 have HH := Lib.hid hh
 have hdec : decide ((xs.getD 25 0).toNat ≤ 180) = true := decide_eq_true hgood
 have hrd := fun W (hW : Below V.heap.size V W) => recRead_any bb oo c xs W (hr.below (below_then bV hW)) (by have := hW.size; omega)
 unfold RetRd at hrd
 rw [hdec] at hrd
 have HRd := Lib.hid hrd
 have ZV := Lib.hid zV
 have HX := Lib.hid hr.2.1
 clear hV h hh hrd hdec zV
 go_enter Tryz.func148, Tryz.ntmps148
 go_wp2_with fail
 rw [← HV.out]
 refine HH.out.mono ?_
 rintro e w2 ⟨rfl, hb2⟩
 have Q2 := Lib.hid (Q.out.up hb2)
 go_wp2_with fail
 refine (HRd.out w2 hb2).mono ?_
 rintro e w3 ⟨A4, n4, c4, R, rfl, hRD, hRb, hRx, hRf, hb3⟩
 have Q3 := Lib.hid (Q2.out.up hb3)
 obtain ⟨Z3, hZ3⟩ : ∃ W, W = w3.alloc (.cells zz3 90) := ⟨_, rfl⟩
 have QZ : Hid (RcAt Z3 w3.heap.size rcZ none 0 0) := by rw [hZ3]; exact Lib.hid (zeroAt rfl)
 have bZ : Below w3.heap.size w3 Z3 := by rw [hZ3]; exact (below_self _).alloc (Nat.le_refl _) _
 obtain ⟨X, hX⟩ : ∃ W, W = Z3.setRow w3.heap.size (rcV R A4 n4 c4).toArray := ⟨_, rfl⟩
 have bX : Below w3.heap.size w3 X := by rw [hX]; exact below_setRow bZ (Nat.le_refl _) _
 have QX : Hid (RcAt X w3.heap.size R A4 n4 c4) := by rw [hX]; exact Lib.hid QZ.out.setRow
 have QR : Hid (RcAt X w.heap.size rcZ none 0 0) := Lib.hid (Q3.out.up bX)
 have B := below_then (below_then (below_then bV hb2) hb3) bX
 have hrX := hr.below B
 have hRbX := hRb.below bX
 have HX3 := Lib.hid hX
 have HZ3 := Lib.hid hZ3
 have HRX := Lib.hid hRx
 have HRD := Lib.hid hRD
 have z3 := hb3.size
 have z2 := hb2.size
 clear hX hZ3 hRx hRD
 have hR := HRX.out hgood
 have hok : R.ok := by rw [hR]; exact rcOf_ok xs HX.out
 have hp := recPut_any R A4 n4 c4 X hok hRbX
 unfold rcPutL rcPutE at hp
 rw [show R.chk = true by rw [hR]; exact hchk] at hp
 rw [if_pos rfl, if_pos rfl] at hp
 have HP := Lib.hid hp
 have HEQ := Lib.hid (show decide (rcL R = xs) = true from by rw [hR]; exact decide_eq_true hne)
 have HR := Lib.hid hR
 clear hp hok hR hchk hne
 go_wp2_with (first | (rw [← HZ3.out]; refine rc_store rfl _ _ rfl rfl rfl QZ.out HRD.out rcZD ?_) | (rw [← HX3.out]; refine rc_load rfl _ rfl rfl QX.out HRD.out ?_))
 refine HP.out.mono ?_
 rintro e w5 ⟨A5, n5, c5, rfl, ho5, hb5⟩
 have QR5 := Lib.hid (QR.out.up hb5)
 have QX5 := Lib.hid (QX.out.up hb5)
 go_wp2_with fail
 refine (rbeq_any _ _ _ _ _ _ (rcL R) xs w5 ho5.rd (hrX.below hb5)).mono ?_
 rintro e w6 ⟨rfl, rfl⟩
 rw [HEQ.out]
 go_wp2_with (first | (refine rc_load rfl _ rfl rfl QX5.out HRD.out ?_) | (refine rc_store rfl _ _ rfl rfl rfl QR5.out HRD.out rcZD ?_))
 rw [← HR.out]
 refine bodyPost_ret (rresults_row_tmp Tryz.results148 _ _ w.heap.size 90 _ (0, 0) _ rfl (RcAt.setRow (r' := R) (A' := A4) (n' := n4) (c' := c4) QR5.out) Tryz.underlying90 rfl (rcInfo R A4 n4 c4 HRD.out)) rfl ?_
 exact ⟨A4, n4, c4, rfl, rd_row (hRbX.below hb5) w.heap.size _ (fun h0 a e => by have := hRf h0 a e; have := ZV.out; omega), fun h0 a e => by have := hRf h0 a e; have := ZV.out; omega, below_setRow (below_then B hb5) (Nat.le_refl _) _⟩
theorem recGet_any (A : Option Addr) (n c : Nat) (xs : List UInt8) (w : World) (hr : RdB w A n c xs) :
  Calls Tryz.prog 148 #[.slice A n c] w (RetRc w (rcGet xs) (rcGetE xs)) := by
 by_cases hn : n = 256
 ·subst hn
  have hl := hr.2.1
  cases h : crcHolds xs with
  | false =>
   have e : rcGetE xs = 6 := by unfold rcGetE; rw [if_neg (by simp [hl]), if_pos h]
   have e2 : rcGet xs = rcZ := by unfold rcGet; rw [if_neg (by rw [e]; decide)]
   rw [e, e2]; exact recGet_sum A c xs w hr h
  | true =>
   by_cases hg : (xs.getD 25 0).toNat ≤ 180
   ·have eg : rcGetE xs = if (rcOf xs).chk = true ∧ rcL (rcOf xs) = xs then 0 else 3 := by unfold rcGetE; rw [if_neg (by simp [hl]), if_neg (by simp [h]), if_neg (by omega)]
    cases hc : (rcOf xs).chk with
    | false =>
     have e : rcGetE xs = 3 := by rw [eg, if_neg (by simp [hc])]
     have e2 : rcGet xs = rcZ := by unfold rcGet; rw [if_neg (by rw [e]; decide)]
     rw [e, e2]; exact recGet_chk A c xs w hr h hg hc
    | true =>
     by_cases hq : rcL (rcOf xs) = xs
     ·have e : rcGetE xs = 0 := by rw [eg, if_pos ⟨hc, hq⟩]
      have e2 : rcGet xs = rcOf xs := by unfold rcGet; rw [if_pos e]
      rw [e, e2]; exact recGet_yes A c xs w hr h hg hc hq
     ·have e : rcGetE xs = 3 := by rw [eg, if_neg (fun h => hq h.2)]
      have e2 : rcGet xs = rcZ := by unfold rcGet; rw [if_neg (by rw [e]; decide)]
      rw [e, e2]; exact recGet_neq A c xs w hr h hg hc hq
   ·have e : rcGetE xs = 3 := by unfold rcGetE; rw [if_neg (by simp [hl]), if_neg (by simp [h]), if_pos (by omega)]
    have e2 : rcGet xs = rcZ := by unfold rcGet; rw [if_neg (by rw [e]; decide)]
    rw [e, e2]; exact recGet_form A c xs w hr h hg
 ·have e : rcGetE xs = 2 := by unfold rcGetE; rw [if_pos (by rw [hr.2.1]; exact hn)]
  have e2 : rcGet xs = rcZ := by unfold rcGet; rw [if_neg (by rw [e]; decide)]
  rw [e, e2]; exact recGet_early A n c xs w hr hn
end Go.Proofs.YtpahicfnhhhifaaGreat
