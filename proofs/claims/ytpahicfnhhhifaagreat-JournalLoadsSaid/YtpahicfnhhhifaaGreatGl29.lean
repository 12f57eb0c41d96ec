/-
 Proved here, for the statement JournalLoads:
 Layer 12: records (the document): Get.
-/
import Derived.Test.YtpahicfnhhhifaaGreatGl28
set_option linter.unusedVariables false
set_option linter.unusedSimpArgs false
namespace Go.Proofs.YtpahicfnhhhifaaGreat
set_option maxRecDepth 20000
open Go.RowKit
set_option maxHeartbeats 8000000
def dgK (D : List UInt8) (k : Nat) : List UInt8 := D.take k ++ List.replicate (32 - k) 0
theorem dgK_zero (D : List UInt8) : dgK D 0 = List.replicate 32 0 := by simp [dgK]
theorem dgK_all (D : List UInt8) (h : D.length = 32) : dgK D 32 = D := by simp [dgK, List.take_of_length_le (show D.length ≤ 32 by omega)]
theorem dgK_at (D : List UInt8) (k : Nat) (h : k < 32) (hD : D.length = 32) : ((dgK D k).map vB)[k]? = some (.int .u8 0) := by
 have ht : (D.take k).length = k := by rw [List.length_take]; omega
 rw [List.getElem?_map, dgK, List.getElem?_append_right (by omega), ht, Nat.sub_self]
 simp [show 0 < 32 - k by omega, vB]
theorem dgK_set (R : Rc) (A : Option Addr) (n c : Nat) (D : List UInt8) (k : Nat) (h : k < 32) (hD : D.length = 32) : (rcV { R with D := dgK D k } A n c).toArray.setIfInBounds (7 + k) (.int .u8 ((D.getD k 0).toNat : Int)) = (rcV { R with D := dgK D (k + 1) } A n c).toArray := by
 have e : (dgK D k).set k (D.getD k 0) = dgK D (k + 1) := by
  unfold dgK
  have ht : (D.take k).length = k := by rw [List.length_take]; omega
  rw [List.set_append_right _ _ (by omega), ht, Nat.sub_self, show 32 - k = (32 - (k + 1)) + 1 by omega, List.replicate_succ, List.set_cons_zero, take_snoc D k (by omega)]
  rw [List.append_assoc]
  congr 1
  simp [List.getD, show k < D.length by omega]
 rw [← e, List.setIfInBounds_toArray]
 unfold rcV
 rw [List.set_append_right _ _ (by simp)]
 simp only [List.map_set, vB, List.length_cons, List.length_nil]
 rw [show 7 + k - (0 + 1 + 1 + 1 + 1 + 1 + 1 + 1) = k by omega]
theorem rcV7 (r : Rc) (A : Option Addr) (n c k : Nat) : (rcV r A n c).toArray[7 + k]? = (r.D.map vB)[k]? := by
 rw [List.getElem?_toArray]; unfold rcV
 rw [List.getElem?_append_right (by simp)]
 simp
set_option maxRecDepth 100000 in
theorem rcBuilt0 (g s m : Nat) (w : World) : (Instr.build 90 #[(0, .int .u32 (g : Int)), (1, .int .u32 (s : Int)), (2, .int .u32 (m : Int))]).run Tryz.prog w = .ok (.agg (rcV ⟨g, s, m, 0, 0, 0, [], List.replicate 32 0⟩ none 0 0).toArray) w :=
 run_build w _ _ _ (by show Tryz.prog.built _ _ = some _; kernel_rfl)
theorem evBuilt (t : Nat) (k : Int) (cl : Nat) (w : World) : (Instr.build 49 #[(0, .int .u64 (t : Int)), (1, .int .i64 k), (2, .int .u64 (cl : Int))]).run Tryz.prog w = .ok (.agg #[.int .u64 (t : Int), .int .i64 k, .int .u64 (cl : Int), .slice none 0 0]) w :=
 run_build w _ _ _ (by show Tryz.prog.built _ _ = some _; kernel_rfl)
theorem RcAt.thereK {w : World} {h : Nat} {r : Rc} {A : Option Addr} {n c : Nat} (q : RcAt w h r A n c) (hD : r.D.length = 32) (k j : Nat) (hk : k + j ≤ 39) : w.there h k j := fun i hi => by
 refine ⟨?_, q.fr _⟩
 rw [cell_of_row w h (k + i) _ _ _ q, List.getElem?_toArray, List.getElem?_eq_getElem (by rw [rcV_len _ _ _ _ hD]; omega)]
 rfl
theorem RcAt.setE {w : World} {h : Nat} {r : Rc} {A : Option Addr} {n c : Nat} (q : RcAt w h r A n c) (t : Nat) (k : Int) (cl : Nat) (A' : Option Addr) (n' c' : Nat) : RcAt (w.setCells h 3 [.int .u64 (t : Int), .int .i64 k, .int .u64 (cl : Int), .slice A' n' c']) h { r with t := t, k := k, c := cl } A' n' c' :=
 setCells_row _ 3 w (rcV r A n c) q
def Rg12 (W : World) (zz gL : Nat) (R : Rc) (A : Option Addr) (n c : Nat) (D : List UInt8) (v : Value) (wr : World) : Prop :=
 ∃ k : Nat, k ≤ 32 ∧ v = .int .i64 (k : Nat) ∧ RcAt wr gL { R with D := dgK D k } A n c ∧ RdB wr A n c R.b ∧ Below W.heap.size W wr ∧ zz ≤ wr.heap.size
theorem refGet12_early (A : Option Addr) (n c : Nat) (xs : List UInt8) (w : World) (hr : RdB w A n c xs) (h : n ≠ 256) :
  Calls Tryz.prog 118 #[.slice A n c] w (RetRc w rcZ 2) := by
 have hn := hr.n63
 have d1 : ((n : Int) != 256) = true := by rw [bne_iff_ne]; omega
 obtain ⟨V, hV⟩ : ∃ V, V = w.alloc (.cells zz3 90) := ⟨_, rfl⟩
 have bV : Below w.heap.size w V := by rw [hV]; exact (below_self w).alloc (Nat.le_refl _) _
 have Q : Hid (RcAt V w.heap.size rcZ none 0 0) := by rw [hV]; exact Lib.hid (zeroAt rfl)
 have HV := Lib.hid hV
 clear hV h
 go_enter Tryz.func118, Tryz.ntmps118
 go_wp2_with (rw [← HV.out]; refine rc_store rfl _ _ rfl rfl (r := rcZ) (A := none) (n := 0) (c := 0) (congrArg Value.agg zeroRc) Q.out rcZD rcZD ?_)
 refine bodyPost_ret (rresults_row_tmp Tryz.results118 _ _ w.heap.size 90 _ (0, 0) _ rfl (RcAt.setRow (r' := rcZ) (A' := none) (n' := 0) (c' := 0) Q.out) Tryz.underlying90 rfl (rcInfo rcZ none 0 0 rcZD)) rfl ?_
 exact ⟨none, 0, 0, rfl, RdB.nilB _, fun h => absurd h (Nat.lt_irrefl 0), below_setRow bV (Nat.le_refl _) _⟩
theorem refGet12_sum (A : Option Addr) (c : Nat) (xs : List UInt8) (w : World) (hr : RdB w A 256 c xs) (h : crcHolds xs = false) :
  Calls Tryz.prog 118 #[.slice A 256 c] w (RetRc w rcZ 6) := by
 have d1 : ((256 : Int) != 256) = false := by decide
 obtain ⟨V, hV⟩ : ∃ V, V = w.alloc (.cells zz3 90) := ⟨_, rfl⟩
 have bV : Below w.heap.size w V := by rw [hV]; exact (below_self w).alloc (Nat.le_refl _) _
 have Q : Hid (RcAt V w.heap.size rcZ none 0 0) := by rw [hV]; exact Lib.hid (zeroAt rfl)
 have HV := Lib.hid hV
 have hh := refHolds_any A 256 c xs V (hr.below bV) (by omega)
 rw [h] at hh
 have HH := Lib.hid hh
 clear hV h hh
 go_enter Tryz.func118, Tryz.ntmps118
 go_wp2_with fail
 rw [← HV.out]
 refine HH.out.mono ?_
 rintro e w2 ⟨rfl, hb2⟩
 have Q2 := Lib.hid (Q.out.up hb2)
 go_wp2_with (refine rc_store rfl _ _ rfl rfl (r := rcZ) (A := none) (n := 0) (c := 0) (congrArg Value.agg zeroRc) Q2.out rcZD rcZD ?_)
 refine bodyPost_ret (rresults_row_tmp Tryz.results118 _ _ w.heap.size 90 _ (0, 0) _ rfl (RcAt.setRow (r' := rcZ) (A' := none) (n' := 0) (c' := 0) Q2.out) Tryz.underlying90 rfl (rcInfo rcZ none 0 0 rcZD)) rfl ?_
 exact ⟨none, 0, 0, rfl, RdB.nilB _, fun h => absurd h (Nat.lt_irrefl 0), below_setRow (below_then bV hb2) (Nat.le_refl _) _⟩
theorem refGet12_form (A : Option Addr) (c : Nat) (xs : List UInt8) (w : World) (hr : RdB w A 256 c xs) (h : crcHolds xs = true) (hbad : ¬ (xs.getD 25 0).toNat ≤ 180) :
  Calls Tryz.prog 118 #[.slice A 256 c] w (RetRc w rcZ 3) := by
 have d1 : ((256 : Int) != 256) = false := by decide
 obtain ⟨bb, oo, u0, rfl, hbl, _⟩ := hr.at_ 0 (by omega)
 obtain ⟨V, hV⟩ : ∃ V, V = w.alloc (.cells zz3 90) := ⟨_, rfl⟩
 have bV : Below w.heap.size w V := by rw [hV]; exact (below_self w).alloc (Nat.le_refl _) _
 have zV : V.heap.size = w.heap.size + 1 := by rw [hV]; simp
 have Q : Hid (RcAt V w.heap.size rcZ none 0 0) := by rw [hV]; exact Lib.hid (zeroAt rfl)
 have HV := Lib.hid hV
 have hh := refHolds_any _ 256 c xs V (hr.below bV) (by omega)
 rw [h] at hh
 have HH := Lib.hid hh
 have hc := hr.2.2.1
 have hc63 := hr.c63
 obtain ⟨N, hN⟩ : ∃ N, (xs.getD 25 0).toNat = N := ⟨_, rfl⟩
 have hNb : N < 256 := by rw [← hN]; exact UInt8.toNat_lt _
 have c25 := (bV.cell (p := ⟨bb, oo + 25, none⟩) hbl).trans (hr.cellS 25 (by omega))
 rw [hN] at c25 hbad
 have wN := wi64n (k := N) (by omega)
 have d2 : decide ((180 : Int) < (N : Int)) = true := decide_eq_true (by omega)
 have hbV : bb < V.heap.size := by omega
 clear hN
 have ZV := Lib.hid zV
 have HX := Lib.hid hr.2.1
 clear hV h hh zV
 go_enter Tryz.func118, Tryz.ntmps118
 go_wp2_with fail
 rw [← HV.out]
 refine HH.out.mono ?_
 rintro e w2 ⟨rfl, hb2⟩
 have Q2 := Lib.hid (Q.out.up hb2)
 have j25 := (hb2.cell (p := ⟨bb, oo + 25, none⟩) hbV).trans c25
 clear c25
 go_wp2_with (refine rc_store rfl _ _ rfl rfl (r := rcZ) (A := none) (n := 0) (c := 0) (congrArg Value.agg zeroRc) Q2.out rcZD rcZD ?_)
 refine bodyPost_ret (rresults_row_tmp Tryz.results118 _ _ w.heap.size 90 _ (0, 0) _ rfl (RcAt.setRow (r' := rcZ) (A' := none) (n' := 0) (c' := 0) Q2.out) Tryz.underlying90 rfl (rcInfo rcZ none 0 0 rcZD)) rfl ?_
 exact ⟨none, 0, 0, rfl, RdB.nilB _, fun h => absurd h (Nat.lt_irrefl 0), below_setRow (below_then bV hb2) (Nat.le_refl _) _⟩
theorem refGet12_main (A : Option Addr) (c : Nat) (xs : List UInt8) (w : World) (hr : RdB w A 256 c xs) (h : crcHolds xs = true) (hgood : (xs.getD 25 0).toNat ≤ 180) :
  Calls Tryz.prog 118 #[.slice A 256 c] w (RetRc w (rcGet xs) (rcGetE xs)) := by
 have d1 : ((256 : Int) != 256) = false := by decide
 have hlen := hr.2.1
 have hc := hr.2.2.1
 have hc63 := hr.c63
 obtain ⟨b, o, u, rfl, hbl, _⟩ := hr.at_ 0 (by omega)
 have hcut : ∀ k j, k + j ≤ 256 → k < 256 → RdB w (some ⟨b, o + k, none⟩) j (c - k) ((xs.drop k).take j) := fun k j hkj hk => (hr.cutS k (256 - k) (by omega) (by omega)).take j (by omega)
 obtain ⟨N, hN⟩ : ∃ N, (xs.getD 25 0).toNat = N := ⟨_, rfl⟩
 rw [hN] at hgood
 have r4 := hcut 4 4 (by omega) (by omega)
 have r8 := hcut 8 4 (by omega) (by omega)
 have r12 := hcut 12 4 (by omega) (by omega)
 have r16 := hcut 16 8 (by omega) (by omega)
 have r26 := hcut 26 8 (by omega) (by omega)
 have r34 := hcut 34 N (by omega) (by omega)
 have r220 := hcut 220 32 (by omega) (by omega)
 have c24 := hr.cellS 24 (by omega)
 have c25 := hr.cellS 25 (by omega)
 obtain ⟨G, hG⟩ : ∃ v, lev ((xs.drop 4).take 4) = v := ⟨_, rfl⟩
 obtain ⟨S, hS⟩ : ∃ v, lev ((xs.drop 8).take 4) = v := ⟨_, rfl⟩
 obtain ⟨M, hM⟩ : ∃ v, lev ((xs.drop 12).take 4) = v := ⟨_, rfl⟩
 obtain ⟨T, hT⟩ : ∃ v, lev ((xs.drop 16).take 8) = v := ⟨_, rfl⟩
 obtain ⟨C, hC⟩ : ∃ v, lev ((xs.drop 26).take 8) = v := ⟨_, rfl⟩
 obtain ⟨Kd, hK⟩ : ∃ Kd, (xs.getD 24 0).toNat = Kd := ⟨_, rfl⟩
 obtain ⟨D, hD⟩ : ∃ D, (xs.drop 220).take 32 = D := ⟨_, rfl⟩
 obtain ⟨B, hB⟩ : ∃ B, (xs.drop 34).take N = B := ⟨_, rfl⟩
 have hDl : D.length = 32 := by rw [← hD, List.length_take, List.length_drop, hlen]; rfl
 have hBl : B.length = N := by rw [← hB, List.length_take, List.length_drop, hlen]; omega
 have hKb : Kd < 256 := by rw [← hK]; exact UInt8.toNat_lt _
 have l4 := hG ▸ rcLev xs 4 4
 have l8 := hS ▸ rcLev xs 8 4
 have l12 := hM ▸ rcLev xs 12 4
 have l16 := hT ▸ rcLev xs 16 8
 have l26 := hC ▸ rcLev xs 26 8
 have f8w : ∀ k, fromLe ((xs.drop k).take 8) = lev ((xs.drop k).take 8) := fun k => by unfold fromLe; rw [List.take_take, Nat.min_self]
 have f4w : ∀ k, fromLe ((xs.drop k).take 4) = lev ((xs.drop k).take 4) := fun k => by unfold fromLe; rw [List.take_take, Nat.min_eq_right (by omega)]
 have F4 := Lib.hid ((f4w 4).trans hG)
 have F8 := Lib.hid ((f4w 8).trans hS)
 have F12 := Lib.hid ((f4w 12).trans hM)
 have F16 := Lib.hid ((f8w 16).trans hT)
 have F26 := Lib.hid ((f8w 26).trans hC)
 obtain ⟨R, hRv⟩ : ∃ R : Rc, R = ⟨G, S, M, T, (Kd : Int), C, B, D⟩ := ⟨_, rfl⟩
 have hRof : rcOf xs = R := by rw [hRv]; unfold rcOf; rw [hG, hS, hM, hT, hC, hK, hN, hB, hD]
 have hE : rcGetE xs = if R.chk = true ∧ rcL R = xs then 0 else 3 := by unfold rcGetE; rw [if_neg (by simp [hlen]), if_neg (by simp [h]), if_neg (by rw [hN]; omega), hRof]
 have hGt : rcGet xs = if rcGetE xs = 0 then R else rcZ := by unfold rcGet; rw [hRof]
 have hok : R.ok := by rw [← hRof]; exact rcOf_ok xs hlen
 rw [hD] at r220
 rw [hB] at r34
 rw [hK] at c24
 rw [hN] at c25
 have wG : IntKind.u32.wrap (G : Int) = G := by rw [IntKind.wrap_u32]; omega
 have wS : IntKind.u32.wrap (S : Int) = S := by rw [IntKind.wrap_u32]; omega
 have wM : IntKind.u32.wrap (M : Int) = M := by rw [IntKind.wrap_u32]; omega
 have wN := wi64n (k := N) (by omega)
 have wK := wi64n (k := Kd) (by omega)
 have d2 : decide ((180 : Int) < (N : Int)) = false := decide_eq_false (by omega)
 have cb4 : ¬ (c = 4) := by omega
 have cb8 : ¬ (c = 8) := by omega
 have cb12 : ¬ (c = 12) := by omega
 have cb16 : ¬ (c = 16) := by omega
 have cb26 : ¬ (c = 26) := by omega
 have cb34 : ¬ (c = 34) := by omega
 have ci8 : (8 : Int) ≤ (c : Int) := by omega
 have ci12 : (12 : Int) ≤ (c : Int) := by omega
 have ci16 : (16 : Int) ≤ (c : Int) := by omega
 have ci24 : (24 : Int) ≤ (c : Int) := by omega
 have ci34 : (34 : Int) ≤ (c : Int) := by omega
 have H := Lib.hid h
 have HE := Lib.hid hE
 have HGt := Lib.hid hGt
 have HD := Lib.hid hDl
 have HBL := Lib.hid hBl
 have HRV := Lib.hid hRv
 have HOK := Lib.hid hok
 have HX := Lib.hid hlen
 obtain ⟨D0, hD0⟩ : ∃ Z : List UInt8, List.replicate 32 0 = Z := ⟨_, rfl⟩
 have HL0 := Lib.hid (show D0.length = 32 by rw [← hD0]; simp)
 have HD0 := Lib.hid hD0
 clear h hE hGt hDl hBl hRv hRof hok hlen hcut f8w f4w hG hS hM hT hC hK hD hB hN hD0
 obtain ⟨R1, hR1⟩ : ∃ R : Rc, R = ⟨G, S, M, 0, 0, 0, [], D0⟩ := ⟨_, rfl⟩
 have hR1D : R1.D.length = 32 := by rw [hR1]; exact HL0.out
 have KB := Lib.hid (fun W => hR1 ▸ HD0.out ▸ rcBuilt0 G S M W)
 have HR1 := Lib.hid hR1
 have HR1D := Lib.hid hR1D
 have KE := Lib.hid (fun W => evBuilt T (Kd : Int) C W)
 obtain ⟨EV, hEV⟩ : ∃ z : Array Value, z = #[.int .u64 (T : Int), .int .i64 (Kd : Int), .int .u64 (C : Int), .slice none 0 0] := ⟨_, rfl⟩
 rw [← hEV] at KE
 have HEV := Lib.hid hEV
 have HEI := Lib.hid (evInfo EV (by rw [hEV]; rfl))
 clear hR1 hR1D hEV
 go_enter Tryz.func118, Tryz.ntmps118
 go_wp2_with fail
 refine named ?_
 intro W0 hW0
 have bW0 : Below w.heap.size w W0 := by rw [hW0]; repeat' (first | exact Below.refl _ _ | (refine Below.alloc ?_ ?_ _; rotate_left; (simp <;> omega)) | refine Below.drew ?_)
 have zW0 := bW0.size
 have HW0 := Lib.hid hW0
 clear hW0
 have Q0 : Hid (RcAt W0 w.heap.size rcZ none 0 0) := by rw [HW0.out]; exact Lib.hid (zeroAt rfl)
 have hh := refHolds_any _ 256 c xs W0 (hr.below bW0) (by omega)
 rw [H.out] at hh
 refine hh.mono ?_
 clear hh
 rintro e W ⟨rfl, hb1⟩
 have bW := below_then bW0 hb1
 have QW := Lib.hid (Q0.out.up hb1)
 have xW := QW.out.lt
 have j24 := (bW.cell (p := ⟨b, o + 24, none⟩) hbl).trans c24
 have j25 := (bW.cell (p := ⟨b, o + 25, none⟩) hbl).trans c25
 have q4 := r4.below bW
 have q8 := r8.below bW
 have q12 := r12.below bW
 have hbW : b < W.heap.size := by have := bW.size; omega
 clear r4 r8 r12 c24 c25
 go_wp2_with fail
 refine wp_region_seg (S := fun w' => Below W.heap.size W w') 0 (brw9 15 32767) [(0, true), (1, true), (2, true), (3, true), (4, true), (5, true), (6, true), (7, true), (8, true), (9, true), (10, true), (11, true), (12, true), (13, false), (14, false)] (by kernel_rfl) (by kernel_rfl) (fun _ _ d _ _ h => by first | (cases d <;> exact h) | cases h.1) ((Below.refl W.heap.size W).drew) ?_
 have HB := (Below.refl W.heap.size W).drew
 iterate 2 (refine seg_take (v := ?_) rfl (Or.inl ⟨by rfl, ?_⟩) ?_; rotate_left; (focus (intro w' hw'; go_simp <;> with_reducible rfl)); try simp only [Act.put, pst3])
 refine seg_pure (v := .int .u64 (G : Int)) (f := ?_) (args := ?_) rfl (by rfl) (fun w' hw' => ?_) (fun w' hw' => ?_) ?_
 rotate_left 2
 focus (go_simp <;> first | (refine ⟨?_, ?_⟩ <;> with_reducible rfl) | with_reducible rfl)
 focus (exact (F4.out ▸ refFromLe_any _ _ _ _ w' (q4.below hw')))
 try simp only [Act.put, pst3]
 iterate 3 (refine seg_take (v := ?_) rfl (Or.inl ⟨by rfl, ?_⟩) ?_; rotate_left; (focus (intro w' hw'; go_simp <;> with_reducible rfl)); try simp only [Act.put, pst3])
 refine seg_pure (v := .int .u64 (S : Int)) (f := ?_) (args := ?_) rfl (by rfl) (fun w' hw' => ?_) (fun w' hw' => ?_) ?_
 rotate_left 2
 focus (go_simp <;> first | (refine ⟨?_, ?_⟩ <;> with_reducible rfl) | with_reducible rfl)
 focus (exact (F8.out ▸ refFromLe_any _ _ _ _ w' (q8.below hw')))
 try simp only [Act.put, pst3]
 iterate 3 (refine seg_take (v := ?_) rfl (Or.inl ⟨by rfl, ?_⟩) ?_; rotate_left; (focus (intro w' hw'; go_simp <;> with_reducible rfl)); try simp only [Act.put, pst3])
 refine seg_pure (v := .int .u64 (M : Int)) (f := ?_) (args := ?_) rfl (by rfl) (fun w' hw' => ?_) (fun w' hw' => ?_) ?_
 rotate_left 2
 focus (go_simp <;> first | (refine ⟨?_, ?_⟩ <;> with_reducible rfl) | with_reducible rfl)
 focus (exact (F12.out ▸ refFromLe_any _ _ _ _ w' (q12.below hw')))
 try simp only [Act.put, pst3]
 iterate 1 (refine seg_take (v := ?_) rfl (Or.inl ⟨by rfl, ?_⟩) ?_; rotate_left; (focus (intro w' hw'; go_simp <;> with_reducible rfl)); try simp only [Act.put, pst3])
 refine seg_take (v := .agg (rcV R1 none 0 0).toArray) rfl (Or.inl ⟨by rfl, fun w' hw' => ?_⟩) ?_
 focus (exact rex_build rfl #[(0, .int .u32 (G : Int)), (1, .int .u32 (S : Int)), (2, .int .u32 (M : Int))] rfl (KB.out w'))
 try simp only [Act.put, pst3]
 refine seg_run rfl (fun K hK => ?_)
 rw [if_pos (by rfl)]
 refine op_new #[.int .u32 0, .int .u32 0, .int .u32 0, .int .u64 0, .int .i64 0, .int .u64 0, .slice none 0 0, .int .u8 0, .int .u8 0, .int .u8 0, .int .u8 0, .int .u8 0, .int .u8 0, .int .u8 0, .int .u8 0, .int .u8 0, .int .u8 0, .int .u8 0, .int .u8 0, .int .u8 0, .int .u8 0, .int .u8 0, .int .u8 0, .int .u8 0, .int .u8 0, .int .u8 0, .int .u8 0, .int .u8 0, .int .u8 0, .int .u8 0, .int .u8 0, .int .u8 0, .int .u8 0, .int .u8 0, .int .u8 0, .int .u8 0, .int .u8 0, .int .u8 0, .int .u8 0] 90 (fun w => by go_simp) ?_
 intro gL wL eL hL HBl hLsz
 have HB0 := HB.size
 have HB := below_then HB HBl
 refine hK.out _ _ (HB) ?_
 clear hK
 try simp only [Act.put, pst3]
 refine seg_run rfl (fun K hK => ?_)
 rw [if_pos (by rfl)]
 have hLW : W.heap.size ≤ gL := by omega
 refine wp_store_row _ _ _ rfl gL (rcV R1 none 0 0).toArray rfl rfl _ _ hL (rcInfo R1 none 0 0 HR1D.out) (by rw [show (rcV R1 none 0 0).toArray.size = 39 by rw [List.size_toArray, rcV_len _ _ _ _ HR1D.out]]; rfl) (all_oneCell_toArray (rcV_one R1 none 0 0)) ?_
 have HB := below_setRow HB hLW (rcV R1 none 0 0).toArray
 refine hK.out _ _ (HB) ?_
 clear hK
 try simp only [Act.put, pst3]
 refine seg_done (fun _ => ?_)
 refine wpAnyH_done (by kernel_rfl) ?_ _
 have q1 := setRow_heap _ gL _ (rcV R1 none 0 0).toArray _ _ hL
 obtain ⟨V0, hV⟩ : ∃ V0, V0 = wL.setRow gL (rcV R1 none 0 0).toArray := ⟨_, rfl⟩
 rw [← hV] at q1 HB ⊢
 have xL0 : gL < V0.heap.size := by rw [hV]; simp; omega
 have Q1 : Hid (RcAt V0 gL R1 none 0 0) := Lib.hid q1
 have BV0 := below_then bW HB
 have hbV0 : b < V0.heap.size := by have := HB.size; omega
 have q16 := r16.below BV0
 have q26 := r26.below BV0
 have j24 := (HB.cell (p := ⟨b, o + 24, none⟩) hbW).trans j24
 clear hV hL HBl hLsz HB0 q4 q8 q12 eL q1 j25 r16 r26
 obtain ⟨HBW, hHBW⟩ : ∃ H : Below W.heap.size W V0, True := ⟨HB, trivial⟩
 clear HB hHBW
 go_wp2_with fail
 refine wp_region_last (S := fun w' => Below V0.heap.size V0 w') 12 (brw9 13 4095) [(0, true), (1, true), (3, true), (4, true), (5, true), (6, true), (7, true), (8, true), (2, false), (9, false), (10, true), (11, true)] (by kernel_rfl) (by kernel_rfl) (fun _ _ d _ _ h => by cases d <;> exact h) ((Below.refl _ V0).drew) ?_
 iterate 8 (refine seg_take (v := ?_) rfl (Or.inl ⟨by rfl, ?_⟩) ?_; rotate_left; (focus (intro w' hw'; have jj := (hw'.cell (p := ⟨b, o + 24, none⟩) hbV0).trans j24; go_simp <;> with_reducible rfl)); try simp only [Act.put, pst3])
 refine seg_run rfl (fun K hK => ?_)
 go_simp
 have HX6 := (Below.refl V0.heap.size V0).drew
 have hh := refFromLe_any _ _ _ _ V0.drew (q16.below HX6)
 rw [F16.out] at hh
 refine hh.mono ?_
 clear hh
 rintro e_ w6 ⟨rfl, rfl⟩
 refine hK.out _ _ (HX6) ?_
 clear hK
 try simp only [Act.put, pst3]
 refine seg_run rfl (fun K hK => ?_)
 go_simp
 have hh := refFromLe_any _ _ _ _ V0.drew (q26.below HX6)
 rw [F26.out] at hh
 refine hh.mono ?_
 clear hh
 rintro e_ w6 ⟨rfl, rfl⟩
 refine hK.out _ _ (HX6) ?_
 clear hK
 try simp only [Act.put, pst3]
 refine seg_take (v := .agg EV) rfl (Or.inl ⟨by rfl, fun w' hw' => ?_⟩) ?_
 focus (exact rex_build rfl #[(0, .int .u64 (T : Int)), (1, .int .i64 (Kd : Int)), (2, .int .u64 (C : Int))] rfl (KE.out w'))
 try simp only [Act.put, pst3]
 iterate 1 (refine seg_take (v := ?_) rfl (Or.inl ⟨by rfl, ?_⟩) ?_; rotate_left; (focus (intro w' hw'; have jj := (hw'.cell (p := ⟨b, o + 24, none⟩) hbV0).trans j24; go_simp <;> with_reducible rfl)); try simp only [Act.put, pst3])
 refine seg_done ?_
 refine last_run rfl (fun K hK => ?_)
 rw [if_pos (by rfl)]
 refine wp_store_mid 49 _ _ rfl gL 3 EV rfl rfl (by rw [HEV.out]; exact (Q1.out.up HX6).thereK HR1D.out 3 4 (by omega)) HEI.out (by rw [HEV.out]; simp [Value.oneCell']) ?_
 refine hK.out _ _ ?_
 clear hK
 try simp only [Act.put, pst3]
 have q2 : RcAt (V0.drew.setCells gL 3 EV.toList) gL { R1 with t := T, k := (Kd : Int), c := C } none 0 0 := by rw [HEV.out]; exact (Q1.out.up HX6).setE T (Kd : Int) C none 0 0
 obtain ⟨V1, hV1⟩ : ∃ V1, V1 = V0.drew.setCells gL 3 EV.toList := ⟨_, rfl⟩
 rw [← hV1] at q2 ⊢
 have b2 : Below gL V0 V1 := by rw [hV1]; exact setCells_below (Nat.le_refl _) _ _ _ _ (HX6.mono (by omega))
 obtain ⟨R2, hR2⟩ : ∃ R : Rc, R = ⟨G, S, M, T, (Kd : Int), C, [], D0⟩ := ⟨_, rfl⟩
 have q2 : RcAt V1 gL R2 none 0 0 := by rw [hR2]; rw [HR1.out] at q2; exact q2
 have hR2D : R2.D.length = 32 := by rw [hR2]; exact HL0.out
 have Q2 := Lib.hid q2
 have HR2 := Lib.hid hR2
 have HR2D := Lib.hid hR2D
 have xL1 : gL < V1.heap.size := Q2.out.lt
 have j6 := q2.c6
 have BV1 := bW.trans ((HBW.mono (by omega)).trans (b2.mono (by omega)))
 have q34 := r34.below BV1
 obtain ⟨Qs, hQs⟩ : ∃ Q : Nat, Q = 34 + N := ⟨_, rfl⟩
 have qw : IntKind.i64.wrap (34 + (N : Int)) = (Qs : Int) := by rw [IntKind.wrap_i64]; omega
 have qc : (Qs : Int) ≤ (c : Int) := by omega
 have qm : max (Qs : Int) 0 = (Qs : Int) := by omega
 have q34i : (34 : Int) ≤ (Qs : Int) := by omega
 have qN : Qs - 34 = N := by omega
 clear hV1 q2 hR2 hR2D q16 q26 j24 HX6 r34 hQs
 go_wp2_with fail
 refine wp_region_last (S := fun w' => Below V1.heap.size V1 w') 10 (brw9 11 1023) [(0, true), (1, true), (2, true), (3, true), (4, true), (5, true), (6, true), (7, false), (8, true), (9, true)] (by kernel_rfl) (by kernel_rfl) (fun _ _ d _ _ h => by cases d <;> exact h) ((Below.refl _ V1).drew) ?_
 iterate 7 (refine seg_take (v := ?_) rfl (Or.inl ⟨by rfl, ?_⟩) ?_; rotate_left; (focus (intro w' hw'; have jj := (hw'.cell (p := ⟨gL, 6, none⟩) xL1).trans j6; go_simp <;> with_reducible rfl)); try simp only [Act.put, pst3])
 refine seg_run rfl (fun K hK => ?_)
 rw [if_pos (by rfl)]
 have HB := (Below.refl V1.heap.size V1).drew
 refine op_appB _ _ rfl HB (Nat.le_refl _) HB.size none 0 0 [] rfl ⟨rfl, .inl ⟨rfl, rfl⟩⟩ (some ⟨b, o + 34, none⟩) N (c - 34) B rfl (q34.below HB) (by omega) N B (by omega) rfl ?_
 intro A4 c4 w4 ho4 hb4 hg4
 refine hK.out _ _ (hb4) ?_
 clear hK
 try simp only [Act.put, pst3]
 iterate 2 (refine seg_take (v := ?_) rfl (Or.inl ⟨by rfl, ?_⟩) ?_; rotate_left; (focus (intro w' hw'; have jj := (hw'.cell (p := ⟨gL, 6, none⟩) xL1).trans j6; go_simp <;> with_reducible rfl)); try simp only [Act.put, pst3])
 refine seg_done ?_
 refine last_run rfl (fun K hK => ?_)
 go_simp
 have e1 := (hb4.cell (p := ⟨gL, 6, none⟩) xL1).trans j6
 have e2 := (hb4.frozen (p := ⟨gL, 6, none⟩) xL1).trans (Q2.out.fr 6)
 go_simp
 refine hK.out _ _ ?_
 clear hK
 try simp only [Act.put, pst3]
 have q3 := (Q2.out.up hb4).setB (A' := A4) (n' := N) (c' := c4) B
 have r3 := ho4.rd
 have o4 : 0 < N → ∀ a, A4 = some a → V1.heap.size ≤ a.block := fun h0 a e => by
  obtain ⟨g', he, h1, h2⟩ := ho4.addr h0
  rw [e] at he; injection he with he; subst he; exact h1
 have r3 := rd_far r3 ⟨gL, 6, none⟩ (.slice A4 N c4) (fun h0 a e => by have := o4 h0 a e; show a.block ≠ gL; omega)
 obtain ⟨V2, hV2⟩ : ∃ V2, V2 = w4.setCell ⟨gL, 6, none⟩ (.slice A4 N c4) := ⟨_, rfl⟩
 have b3 : Below gL V1 V2 := by rw [hV2]; exact (hb4.mono (show gL ≤ V1.heap.size by omega)).setCell (p := ⟨gL, 6, none⟩) (Nat.le_refl gL) _
 rw [← hV2] at q3 r3 ⊢
 have q3 : RcAt V2 gL { R with D := dgK D 0 } A4 N c4 := by
  have e : ({ R with D := dgK D 0 } : Rc) = { R2 with b := B } := by rw [HR2.out, HRV.out, dgK_zero, HD0.out]
  rw [e]; exact q3
 have hRb3 : RdB V2 A4 N c4 R.b := by rw [show R.b = B by rw [HRV.out]]; exact r3
 have HB3 := HBW.trans ((b2.mono hLW).trans (b3.mono hLW))
 have O4 := Lib.hid o4
 have Q3 := Lib.hid q3
 have xL2 : gL < V2.heap.size := q3.lt
 clear hV2 q3 r3 o4 ho4 hg4 hb4 q34 j6 qw qc qm q34i qN
 go_wp2_with fail
 go_loopw [6] (Rg12 W V2.heap.size gL R A4 N c4 D) (fun v _ => 32 - (intOf v).toNat)
 case atStart => exact ⟨0, by omega, rfl, Q3.out, hRb3, HB3, Nat.le_refl _⟩
 case round =>
 obtain ⟨k, hk, rfl, hrowL, hRb, HB, xL9⟩ := hrel
 obtain ⟨V, rfl⟩ : ∃ V : World, V = wr := ⟨_, rfl⟩
 have xL : gL < V.heap.size := by omega
 clear hRb3 HB3
 by_cases hlt : k < 32
 ·have e1 := (r220.below (below_then bW HB)).cellS k (by omega)
  rw [Nat.add_assoc] at e1
  have g1 := (cell_of_row V gL (7 + k) _ _ _ hrowL).trans ((rcV7 { R with D := dgK D k } A4 N c4 k).trans (dgK_at D k hlt HD.out))
  have g3 : V.frozen? ⟨gL, 7 + k, none⟩ = false := frozen_of_row _ _ _ _ _ hrowL
  have l1 : (k : Int) < 32 := by omega
  have l2 : (220 : Int) + (k : Int) < 256 := by omega
  have hs := dgK_set R A4 N c4 D k hlt HD.out
  have hfar := fun v => rd_far hRb ⟨gL, 7 + k, none⟩ v (fun h0 a e => by have := O4.out h0 a e; show a.block ≠ gL; omega)
  generalize D.getD k 0 = u9 at e1 hs
  have HS := Lib.hid hs
  have HFar := Lib.hid hfar
  clear hs hfar hRb
  have HRL := Lib.hid hrowL
  clear hrowL
  go_wp2_with fail
  go_roundw
  case rel => exact ⟨k + 1, by omega, by go_num, by (unfold RcAt; rw [setc_rowT HRL.out, HS.out]), HFar.out _, HB.setCell hLW _, by simp [World.setCell]; omega⟩
  case measure => simp [intOf]; omega
 obtain rfl : k = 32 := by omega
 rw [dgK_all D HD.out, show ({ R with D := D } : Rc) = R by rw [HRV.out]] at hrowL
 have BV := below_then bW HB
 have QR := Lib.hid (QW.out.up HB)
 have QL := Lib.hid hrowL
 have HRD := Lib.hid HOK.out.2.2.2.2.2.2
 have hge := HE.out
 have hgt := HGt.out
 have oW : 0 < N → ∀ a, A4 = some a → w.heap.size < a.block := fun h0 a e => by have := O4.out h0 a e; have := bW.size; omega
 have OW := Lib.hid oW
 clear hrowL oW
 cases hchk : R.chk with
 | false =>
  rw [if_neg (by simp [hchk])] at hge
  rw [if_neg (by rw [hge]; decide)] at hgt
  have HGE2 := Lib.hid hge
  have HGT2 := Lib.hid hgt
  have hp := refPut12_any R A4 N c4 V HOK.out hRb
  unfold rcPutL rcPutE at hp
  rw [if_neg (by simp [hchk]), if_neg (by simp [hchk])] at hp
  have HP := Lib.hid hp
  clear hp hchk hge hgt
  go_wp2_with (refine rc_load rfl _ rfl rfl QL.out HRD.out ?_)
  refine HP.out.mono ?_
  rintro e w5 ⟨A5, n5, c5, rfl, ho5, hb5⟩
  have QR5 := Lib.hid (QR.out.up hb5)
  go_wp2_with (refine rc_store rfl _ _ rfl rfl (r := rcZ) (A := none) (n := 0) (c := 0) (congrArg Value.agg zeroRc) QR5.out rcZD rcZD ?_)
  refine bodyPost_ret (rresults_row_tmp Tryz.results118 _ _ w.heap.size 90 _ (0, 0) _ rfl (RcAt.setRow (r' := rcZ) (A' := none) (n' := 0) (c' := 0) QR5.out) Tryz.underlying90 rfl (rcInfo rcZ none 0 0 rcZD)) rfl ?_
  exact ⟨none, 0, 0, by rw [HGT2.out, HGE2.out]; rfl, by rw [HGT2.out]; exact RdB.nilB _, fun h => absurd h (Nat.lt_irrefl 0), below_setRow (below_then BV hb5) (Nat.le_refl _) _⟩
 | true =>
  have hp := refPut12_any R A4 N c4 V HOK.out hRb
  unfold rcPutL rcPutE at hp
  rw [if_pos hchk, if_pos hchk] at hp
  have HP := Lib.hid hp
  obtain ⟨Y, hY⟩ : ∃ Y, rcL R = Y := ⟨_, rfl⟩
  rw [hY] at HP hge
  by_cases heq : Y = xs
  ·rw [if_pos ⟨hchk, heq⟩] at hge
   rw [if_pos hge] at hgt
   have HGE2 := Lib.hid hge
   have HGT2 := Lib.hid hgt
   have HQ := Lib.hid heq
   clear hp hchk hge hgt hY heq
   go_wp2_with (refine rc_load rfl _ rfl rfl QL.out HRD.out ?_)
   refine HP.out.mono ?_
   rintro e w5 ⟨A5, n5, c5, rfl, ho5, hb5⟩
   have QR5 := Lib.hid (QR.out.up hb5)
   have QL5 := Lib.hid (QL.out.up hb5)
   have B5 := below_then BV hb5
   have hRb5 := hRb.below hb5
   go_wp2_with fail
   have hh := bytes_any _ _ _ _ _ _ xs Y w5 (hr.below B5) ho5.rd
   rw [decide_eq_true HQ.out.symm] at hh
   refine hh.mono ?_
   clear hh
   rintro e w6 ⟨rfl, rfl⟩
   go_wp2_with (first | (refine rc_load rfl _ rfl rfl QL5.out HRD.out ?_) | (refine rc_store rfl _ _ rfl rfl rfl QR5.out HRD.out rcZD ?_))
   refine bodyPost_ret (rresults_row_tmp Tryz.results118 _ _ w.heap.size 90 _ (0, 0) _ rfl (RcAt.setRow (r' := R) (A' := A4) (n' := N) (c' := c4) QR5.out) Tryz.underlying90 rfl (rcInfo R A4 N c4 HRD.out)) rfl ?_
   exact ⟨A4, N, c4, by rw [HGT2.out, HGE2.out]; rfl, by rw [HGT2.out]; exact rd_row hRb5 w.heap.size _ (fun h0 a e => by have := OW.out h0 a e; omega), fun h0 a e => Nat.le_of_lt (OW.out h0 a e), below_setRow B5 (Nat.le_refl _) _⟩
  ·rw [if_neg (fun h => heq h.2)] at hge
   rw [if_neg (by rw [hge]; decide)] at hgt
   have HGE2 := Lib.hid hge
   have HGT2 := Lib.hid hgt
   have HQ := Lib.hid heq
   clear hp hchk hge hgt hY heq
   go_wp2_with (refine rc_load rfl _ rfl rfl QL.out HRD.out ?_)
   refine HP.out.mono ?_
   rintro e w5 ⟨A5, n5, c5, rfl, ho5, hb5⟩
   have QR5 := Lib.hid (QR.out.up hb5)
   have B5 := below_then BV hb5
   go_wp2_with fail
   have hh := bytes_any _ _ _ _ _ _ xs Y w5 (hr.below B5) ho5.rd
   rw [decide_eq_false (fun h => HQ.out h.symm)] at hh
   refine hh.mono ?_
   clear hh
   rintro e w6 ⟨rfl, rfl⟩
   go_wp2_with (refine rc_store rfl _ _ rfl rfl (r := rcZ) (A := none) (n := 0) (c := 0) (congrArg Value.agg zeroRc) QR5.out rcZD rcZD ?_)
   refine bodyPost_ret (rresults_row_tmp Tryz.results118 _ _ w.heap.size 90 _ (0, 0) _ rfl (RcAt.setRow (r' := rcZ) (A' := none) (n' := 0) (c' := 0) QR5.out) Tryz.underlying90 rfl (rcInfo rcZ none 0 0 rcZD)) rfl ?_
   exact ⟨none, 0, 0, by rw [HGT2.out, HGE2.out]; rfl, by rw [HGT2.out]; exact RdB.nilB _, fun h => absurd h (Nat.lt_irrefl 0), below_setRow B5 (Nat.le_refl _) _⟩
theorem refGet12_any (A : Option Addr) (n c : Nat) (xs : List UInt8) (w : World) (hr : RdB w A n c xs) :
  Calls Tryz.prog 118 #[.slice A n c] w (RetRc w (rcGet xs) (rcGetE xs)) := by
 by_cases hn : n = 256
 ·subst hn
  have hl := hr.2.1
  cases h : crcHolds xs with
  | false =>
   have e : rcGetE xs = 6 := by unfold rcGetE; rw [if_neg (by simp [hl]), if_pos h]
   have e2 : rcGet xs = rcZ := by unfold rcGet; rw [if_neg (by rw [e]; decide)]
   rw [e, e2]; exact refGet12_sum A c xs w hr h
  | true =>
   by_cases hg : (xs.getD 25 0).toNat ≤ 180
   ·exact refGet12_main A c xs w hr h hg
   ·have e : rcGetE xs = 3 := by unfold rcGetE; rw [if_neg (by simp [hl]), if_neg (by simp [h]), if_pos (by omega)]
    have e2 : rcGet xs = rcZ := by unfold rcGet; rw [if_neg (by rw [e]; decide)]
    rw [e, e2]; exact refGet12_form A c xs w hr h hg
 ·have e : rcGetE xs = 2 := by unfold rcGetE; rw [if_pos (by rw [hr.2.1]; exact hn)]
  have e2 : rcGet xs = rcZ := by unfold rcGet; rw [if_neg (by rw [e]; decide)]
  rw [e, e2]; exact refGet12_early A n c xs w hr hn
end Go.Proofs.YtpahicfnhhhifaaGreat
