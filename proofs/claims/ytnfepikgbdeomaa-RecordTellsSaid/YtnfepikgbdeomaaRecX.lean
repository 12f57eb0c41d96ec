/-
  Layer 12: records (the document): body.
  Layer 12: records (the document): Put.
  Layer 12: records (the document): Make.
  Layer 12: records (the document): Follow.
  Layer 12: records (the document): Get.
-/
import Derived.Test.YtnfepikgbdeomaaRecI
import Derived.Test.YtnfepikgbdeomaaShaO
namespace Go.Proofs.Ytnfepikgbdeomaa
set_option maxRecDepth 20000
open Go.RowKit
set_option linter.unusedVariables false
set_option linter.unusedSimpArgs false
set_option maxRecDepth 20000
set_option maxHeartbeats 8000000

theorem rcBody_eq2 (r : Rc) (kn n : Nat) (hk : r.k = (kn : Int)) (hn : r.b.length = n) (M : Nat) (hM : M = 34 + n) :
    [80, 72, 82, 67] ++ leB r.g 4 ++ leB r.s 4 ++ leB r.m 4 ++ leB r.t 8 ++ [UInt8.ofNat kn, UInt8.ofNat n] ++ leB r.c 8 ++ r.b ++ List.replicate (220 - M) 0 = rcBody r := by
  subst hM
  unfold rcBody
  rw [hk, Int.toNat_natCast, hn, show 220 - (34 + n) = 186 - n by omega]
  simp only [List.append_assoc, List.cons_append, List.nil_append]
theorem refBody_any (r : Rc) (A : Option Addr) (n c : Nat) (w : World) (hok : r.ok) (hchk : r.chk = true) (hr : RdB w A n c r.b) :
    Calls Try.prog 90 #[.agg (rcV r A n c).toArray] w (RetB w (rcBody r)) := by
  have hn63 := hr.n63
  have hl := hr.2.1
  obtain ⟨hb_, hk1, hk3, hcc⟩ := rcChk_len hchk
  obtain ⟨kn, hkn⟩ : ∃ j : Nat, r.k = (j : Int) := ⟨r.k.toNat, by omega⟩
  obtain ⟨hgl, hsl, hml, htl, -, hcl, hD⟩ := hok
  have hn180 : n ≤ 180 := by omega
  have hfin := rcBody_eq2 r kn n hkn hl (34 + n) rfl
  have wk : IntKind.u8.wrap (kn : Int) = ((UInt8.ofNat kn).toNat : Int) := by rw [UInt8.toNat_ofNat', IntKind.wrap_u8]; omega
  have wn : IntKind.u8.wrap (n : Int) = ((UInt8.ofNat n).toNat : Int) := by rw [UInt8.toNat_ofNat', IntKind.wrap_u8]; omega
  have wg := w64n (k := r.g) (by omega)
  have ws := w64n (k := r.s) (by omega)
  have wm := w64n (k := r.m) (by omega)
  obtain ⟨V, hV⟩ : ∃ V, V = w.alloc (.cells (rcV r A n c).toArray 69) := ⟨_, rfl⟩
  have bV : Below w.heap.size w V := by rw [hV]; exact (below_self w).alloc (Nat.le_refl _) _
  have rV := hr.below bV
  have zV : V.heap.size = w.heap.size + 1 := by rw [hV]; simp
  have Q := Lib.hid (show RcAt V w.heap.size r A n c by rw [hV]; exact rw_at _ rfl)
  have k0 := (Q.out.up ((below_self V).alloc (Nat.le_refl _) (.cells #[.int .u8 80, .int .u8 72, .int .u8 82, .int .u8 67] 5))).c0
  obtain ⟨R1, hR1⟩ : ∃ z, z = (rcV r A n c).toArray := ⟨_, rfl⟩
  rw [← hR1] at hV ⊢
  rw [hV] at k0
  have HV := Lib.hid hV
  have HFIN := Lib.hid hfin
  have HK := Lib.hid hkn
  clear hV hR1 hfin hkn hchk
  go_enter Try.func90, Try.ntmps90
  go_wp2_with fail
  rw [← HV.out]
  refine named ?_
  intro W1 hW1
  have bW1 : Below V.heap.size V W1 := by rw [hW1]; repeat' (first | exact Below.refl _ _ | (refine Below.alloc ?_ ?_ _; rotate_left; (simp <;> omega)) | refine Below.drew ?_)
  have zW1 := bW1.size
  have HW1 := Lib.hid hW1
  clear hW1
  have o1 : OwnB W1 V.heap.size (some ⟨w.heap.size + 1, 0, none⟩) 4 4 [80, 72, 82, 67] := by rw [HW1.out, ← zV]; exact OwnB.lit _ _ _ _ rfl rfl (by simp [maxLen])
  have b1 : Below V.heap.size V W1 := by rw [HW1.out]; exact (below_self V).alloc (Nat.le_refl _) _
  refine (refLe_any r.g 4 W1 (by omega)).mono ?_
  rw [show clamp 4 = 4 from rfl]
  rintro e u1 ⟨E1, n1, d1, rfl, le1, hb1⟩
  obtain rfl : n1 = 4 := by rw [← le1.len, leB_length]
  have B1 := below_then b1 hb1
  go_wp2_with (at_builtin; refine wp_appB rfl _ _ rfl B1 (Nat.le_refl _) B1.size (some ⟨w.heap.size + 1, 0, none⟩) 4 4 ([80, 72, 82, 67]) rfl (o1.below hb1) E1 4 d1 (leB r.g 4) rfl le1.rd (by omega) 8 ([80, 72, 82, 67] ++ leB r.g 4) rfl rfl ?_; intro X1 y1 z1 ao1 ab1 ag1; have jc1 := (Q.out.up ab1).c1)
  refine (refLe_any r.s 4 z1 (by omega)).mono ?_
  rw [show clamp 4 = 4 from rfl]
  rintro e u2 ⟨E2, n2, d2, rfl, le2, hb2⟩
  obtain rfl : n2 = 4 := by rw [← le2.len, leB_length]
  have B2 := below_then ab1 hb2
  go_wp2_with (at_builtin; refine wp_appB rfl _ _ rfl B2 (Nat.le_refl _) B2.size X1 8 y1 ([80, 72, 82, 67] ++ leB r.g 4) rfl (ao1.below hb2) E2 4 d2 (leB r.s 4) rfl le2.rd (by omega) 12 ([80, 72, 82, 67] ++ leB r.g 4 ++ leB r.s 4) rfl rfl ?_; intro X2 y2 z2 ao2 ab2 ag2; have jc2 := (Q.out.up ab2).c2)
  refine (refLe_any r.m 4 z2 (by omega)).mono ?_
  rw [show clamp 4 = 4 from rfl]
  rintro e u3 ⟨E3, n3, d3, rfl, le3, hb3⟩
  obtain rfl : n3 = 4 := by rw [← le3.len, leB_length]
  have B3 := below_then ab2 hb3
  go_wp2_with (at_builtin; refine wp_appB rfl _ _ rfl B3 (Nat.le_refl _) B3.size X2 12 y2 ([80, 72, 82, 67] ++ leB r.g 4 ++ leB r.s 4) rfl (ao2.below hb3) E3 4 d3 (leB r.m 4) rfl le3.rd (by omega) 16 ([80, 72, 82, 67] ++ leB r.g 4 ++ leB r.s 4 ++ leB r.m 4) rfl rfl ?_; intro X3 y3 z3 ao3 ab3 ag3; have jc3 := (Q.out.up ab3).c3)
  refine (refLe_any r.t 8 z3 (by omega)).mono ?_
  rw [show clamp 8 = 8 from rfl]
  rintro e u4 ⟨E4, n4, d4, rfl, le4, hb4⟩
  obtain rfl : n4 = 8 := by rw [← le4.len, leB_length]
  have B4 := below_then ab3 hb4
  go_wp2_with (first
    | (at_builtin; refine wp_appB rfl _ _ rfl (ab4.alloc ab4.size _) (Nat.le_refl _) (by have := ab4.size; simp; omega) X4 24 y4 ([80, 72, 82, 67] ++ leB r.g 4 ++ leB r.s 4 ++ leB r.m 4 ++ leB r.t 8) rfl (ao4.alloc _) (some ⟨z4.heap.size, 0, none⟩) 2 2 [UInt8.ofNat kn, UInt8.ofNat n] rfl (rdK rfl _ _ _ (by rfl) rfl (by simp [maxLen])) (by omega) 26 ([80, 72, 82, 67] ++ leB r.g 4 ++ leB r.s 4 ++ leB r.m 4 ++ leB r.t 8 ++ [UInt8.ofNat kn, UInt8.ofNat n]) rfl rfl ?_; intro X9 y9 z9 ao9 ab9 ag9; have jc5 := (Q.out.up ab9).c5)
    | (at_builtin; refine wp_appB rfl _ _ rfl B4 (Nat.le_refl _) B4.size X3 16 y3 ([80, 72, 82, 67] ++ leB r.g 4 ++ leB r.s 4 ++ leB r.m 4) rfl (ao3.below hb4) E4 8 d4 (leB r.t 8) rfl le4.rd (by omega) 24 ([80, 72, 82, 67] ++ leB r.g 4 ++ leB r.s 4 ++ leB r.m 4 ++ leB r.t 8) rfl rfl ?_; intro X4 y4 z4 ao4 ab4 ag4; have jc4 := (Q.out.up ab4).c4; have jc6 := (Q.out.up ab4).c6; rw [HK.out] at jc4))
  refine (refLe_any r.c 8 z9 (by omega)).mono ?_
  rw [show clamp 8 = 8 from rfl]
  rintro e u5 ⟨E5, n5, d5, rfl, le5, hb5⟩
  obtain rfl : n5 = 8 := by rw [← le5.len, leB_length]
  have B5 := below_then ab9 hb5
  go_wp2_with (first
    | (at_builtin; refine wp_appZ rfl _ _ rfl ab11 (Nat.le_refl _) ab11.size X11 (34 + n) y11 ([80, 72, 82, 67] ++ leB r.g 4 ++ leB r.s 4 ++ leB r.m 4 ++ leB r.t 8 ++ [UInt8.ofNat kn, UInt8.ofNat n] ++ leB r.c 8 ++ r.b) rfl ao11 (220 - (34 + n)) .i64 _ rfl (by omega) (by omega) 220 (rcBody r) (by omega) HFIN.out ?_; intro X12 y12 z12 ao12 ab12 ag12)
    | (at_builtin; refine wp_appB rfl _ _ rfl ab10 (Nat.le_refl _) ab10.size X10 34 y10 ([80, 72, 82, 67] ++ leB r.g 4 ++ leB r.s 4 ++ leB r.m 4 ++ leB r.t 8 ++ [UInt8.ofNat kn, UInt8.ofNat n] ++ leB r.c 8) rfl ao10 A n c r.b rfl (rV.below ab10) (by omega) (34 + n) ([80, 72, 82, 67] ++ leB r.g 4 ++ leB r.s 4 ++ leB r.m 4 ++ leB r.t 8 ++ [UInt8.ofNat kn, UInt8.ofNat n] ++ leB r.c 8 ++ r.b) rfl rfl ?_; intro X11 y11 z11 ao11 ab11 ag11)
    | (at_builtin; refine wp_appB rfl _ _ rfl B5 (Nat.le_refl _) B5.size X9 26 y9 ([80, 72, 82, 67] ++ leB r.g 4 ++ leB r.s 4 ++ leB r.m 4 ++ leB r.t 8 ++ [UInt8.ofNat kn, UInt8.ofNat n]) rfl (ao9.below hb5) E5 8 d5 (leB r.c 8) rfl le5.rd (by omega) 34 ([80, 72, 82, 67] ++ leB r.g 4 ++ leB r.s 4 ++ leB r.m 4 ++ leB r.t 8 ++ [UInt8.ofNat kn, UInt8.ofNat n] ++ leB r.c 8) rfl rfl ?_; intro X10 y10 z10 ao10 ab10 ag10; have jc6 := (Q.out.up ab10).c6))
  go_ret
  exact ⟨_, _, _, rfl, OwnB.mono ao12 bV.size, below_then bV ab12⟩
end Go.Proofs.Ytnfepikgbdeomaa

namespace Go.Proofs.Ytnfepikgbdeomaa
open Go.RowKit
set_option linter.unusedVariables false
set_option linter.unusedSimpArgs false
set_option maxRecDepth 20000
set_option maxHeartbeats 8000000

theorem refPut12_no (r : Rc) (A : Option Addr) (n c : Nat) (w : World) (hr : RdB w A n c r.b) (hchk : r.chk = false) :
    Calls Try.prog 40 #[.agg (rcV r A n c).toArray] w (RetBE w [] 2) := by
  have hn := hr.n63
  have hl := hr.2.1
  obtain ⟨V, hV⟩ : ∃ V, V = w.alloc (.cells (rcV r A n c).toArray 69) := ⟨_, rfl⟩
  have bV : Below w.heap.size w V := by rw [hV]; exact (below_self w).alloc (Nat.le_refl _) _
  have q : RcAt V w.heap.size r A n c := by rw [hV]; exact rw_at _ rfl
  have hc := refCheck12_any r.t r.k r.c A n c V hn
  rw [show rcChk r.k r.c n = false by rw [← hl]; exact hchk] at hc
  have a3 := q.c3
  have a4 := q.c4
  have a5 := q.c5
  have a6 := q.c6
  rw [hV] at a3 a4 a5 a6
  have HC := Lib.hid hc
  have HV := Lib.hid hV
  obtain ⟨RV, hRV⟩ : ∃ z, z = (rcV r A n c).toArray := ⟨_, rfl⟩
  rw [← hRV] at HV a3 a4 a5 a6 ⊢
  clear hV hc q hRV hchk
  go_enter Try.func40, Try.ntmps40
  go_wp2_with fail
  rw [← HV.out]
  refine HC.out.mono ?_
  rintro e w2 ⟨rfl, hb2⟩
  clear a3 a4 a5 a6
  go_wp2
  go_ret2
  exact ⟨none, 0, 0, rfl, OwnB.nilB _ _, below_then bV hb2⟩
theorem refPut12_yes (r : Rc) (A : Option Addr) (n c : Nat) (w : World) (hok : r.ok) (hr : RdB w A n c r.b) (hchk : r.chk = true) :
    Calls Try.prog 40 #[.agg (rcV r A n c).toArray] w (RetBE w (rcL r) 0) := by
  have hn := hr.n63
  have hl := hr.2.1
  have hD := hok.2.2.2.2.2.2
  have hb186 := (rcChk_len hchk).1
  obtain ⟨V, hV⟩ : ∃ V, V = w.alloc (.cells (rcV r A n c).toArray 69) := ⟨_, rfl⟩
  have bV : Below w.heap.size w V := by rw [hV]; exact (below_self w).alloc (Nat.le_refl _) _
  have q : RcAt V w.heap.size r A n c := by rw [hV]; exact rw_at _ rfl
  have hc := refCheck12_any r.t r.k r.c A n c V hn
  rw [show rcChk r.k r.c n = true by rw [← hl]; exact hchk] at hc
  have a3 := q.c3
  have a4 := q.c4
  have a5 := q.c5
  have a6 := q.c6
  rw [hV] at a3 a4 a5 a6
  have HC := Lib.hid hc
  have HV := Lib.hid hV
  have Q := Lib.hid q
  have HLn := Lib.hid (fun W (h : RdB W A n c r.b) => refBody_any r A n c W hok hchk h)
  have hb186' : r.b.length ≤ 186 := by omega
  have HBD := Lib.hid (rcBody_len r hb186')
  have HLD := Lib.hid hD
  obtain ⟨RV, hRV⟩ : ∃ z, z = (rcV r A n c).toArray := ⟨_, rfl⟩
  have HRV := Lib.hid hRV
  rw [← hRV] at HV a3 a4 a5 a6 HLn ⊢
  clear hV hc q hRV hchk hok hD
  go_enter Try.func40, Try.ntmps40
  go_wp2_with fail
  rw [← HV.out]
  refine HC.out.mono ?_
  rintro e w2 ⟨rfl, hb2⟩
  have B2 := below_then bV hb2
  have Q2 := Lib.hid (Q.out.up hb2)
  clear a3 a4 a5 a6
  go_wp2_with fail
  refine wp_region_seg (S := fun w' => Below w2.heap.size w2 w') 0 #[true, true, true, true, true, true, true, true] [(0, true), (2, true), (3, true), (1, false), (4, false), (5, false), (6, true), (7, true)] (by kernel_rfl) (by kernel_rfl) (fun _ _ d _ _ h => by first | (cases d <;> exact h) | cases h.1) ((Below.refl w2.heap.size w2).drew) ?_
  have HB := (Below.refl w2.heap.size w2).drew
  refine seg_take (v := .agg RV) rfl (Or.inl ⟨by rfl, fun w' hw' => ?_⟩) ?_
  focus (exact rex_load rfl rfl (HRV.out ▸ load_rc (rw_up Q2.out hw') HLD.out))
  try simp only [Act.put, List.setIfInBounds_toArray, List.set_cons_zero, List.set_cons_succ]
  iterate 2 (refine seg_take (v := ?_) rfl (Or.inl ⟨by rfl, ?_⟩) ?_; rotate_left; (focus (intro w' hw'; go_simp <;> with_reducible rfl)); try simp only [Act.put, List.setIfInBounds_toArray, List.set_cons_zero, List.set_cons_succ])
  refine seg_run rfl (fun K hK => ?_)
  go_simp
  refine (HLn.out _ (hr.below (below_then B2 HB))).mono ?_
  rintro e_ w3 ⟨gb, nb, db, rfl, rb, hb3⟩
  obtain rfl : nb = 220 := by rw [← rb.len, HBD.out]
  have HB0 := HB.size
  have HB := below_then HB hb3
  refine hK.out _ _ (HB) ?_
  clear hK
  try simp only [Act.put, List.setIfInBounds_toArray, List.set_cons_zero, List.set_cons_succ]
  refine seg_run rfl (fun K hK => ?_)
  rw [if_pos (by rfl)]
  refine op_appB _ _ rfl HB (Nat.le_refl _) HB.size gb 220 db (rcBody r) rfl (rb.mono HB0) (some ⟨w.heap.size, 7, none⟩) 32 32 r.D rfl ((Q2.out.dig HLD.out).below HB) (by omega) 252 (rcBody r ++ r.D) rfl rfl ?_
  intro AJ cJ wJ oJ HJb HJg
  have HB := HJb
  refine hK.out _ _ (HB) ?_
  clear hK
  try simp only [Act.put, List.setIfInBounds_toArray, List.set_cons_zero, List.set_cons_succ]
  refine seg_run rfl (fun K hK => ?_)
  go_simp
  refine (refClosed_any AJ 252 cJ _ _ oJ.rd (by omega)).mono ?_
  rintro e_ wC ⟨AC, nC, cC, rfl, oC, HCb⟩
  have HB0 := HB.size
  have HB := below_then HB HCb
  refine hK.out _ _ (HB) ?_
  clear hK
  try simp only [Act.put, List.setIfInBounds_toArray, List.set_cons_zero, List.set_cons_succ]
  iterate 2 (refine seg_take (v := ?_) rfl (Or.inl ⟨by rfl, ?_⟩) ?_; rotate_left; (focus (intro w' hw'; go_simp <;> with_reducible rfl)); try simp only [Act.put, List.setIfInBounds_toArray, List.set_cons_zero, List.set_cons_succ])
  refine seg_done (fun _ => ?_)
  refine wpAnyH_done (by kernel_rfl) ?_ _
  go_wp2
  go_ret2
  have zz := B2.size
  refine ⟨_, _, _, rfl, ?_, below_then B2 HB⟩
  show OwnB wC w.heap.size AC nC cC (crcClosed (rcBody r ++ r.D))
  exact OwnB.mono oC (by omega)
theorem refPut12_any (r : Rc) (A : Option Addr) (n c : Nat) (w : World) (hok : r.ok) (hr : RdB w A n c r.b) :
    Calls Try.prog 40 #[.agg (rcV r A n c).toArray] w (RetBE w (rcPutL r) (rcPutE r)) := by
  unfold rcPutL rcPutE
  cases h : r.chk with
  | false => rw [if_neg (by decide), if_neg (by decide)]; exact refPut12_no r A n c w hr h
  | true => rw [if_pos rfl, if_pos rfl]; exact refPut12_yes r A n c w hok hr h
end Go.Proofs.Ytnfepikgbdeomaa

namespace Go.Proofs.Ytnfepikgbdeomaa
open Go.RowKit Go.Shelf
set_option linter.unusedVariables false
set_option linter.unusedSimpArgs false
set_option maxRecDepth 20000
set_option maxHeartbeats 8000000
attribute [local go_sem] Oper.semAt_some

def RetRs (w : World) (R : Rc) (er : Int) (e : Ending) (w' : World) : Prop := ∃ A n c, e = .returned (.tuple #[.agg (rcV R A n c).toArray, .int .i64 er]) ∧ RdB w' A n c R.b ∧ Below w.heap.size w w'
theorem refMake12_no (P : List UInt8) (hP : P.length = 32) (g s m t : Nat) (k : Int) (cl : Nat) (A : Option Addr) (n c : Nat) (b : List UInt8) (w : World) (hr : RdB w A n c b) (hchk : rcChk k cl b.length = false) :
    Calls Try.prog 41 #[.agg (dgA P), .int .u32 (g : Int), .int .u32 (s : Int), .int .u32 (m : Int), .agg #[.int .u64 (t : Int), .int .i64 k, .int .u64 (cl : Int), .slice A n c]] w (RetRs w rcZ 2) := by
  have hn := hr.n63
  obtain ⟨V, hV⟩ : ∃ V, V = ((w.alloc (.cells (dgA P) 67)).alloc (.cells #[.int .u64 (t : Int), .int .i64 k, .int .u64 (cl : Int), .slice A n c] 65)).alloc (.cells #[.int .u32 0, .int .u32 0, .int .u32 0, .int .u64 0, .int .i64 0, .int .u64 0, .slice none 0 0, .int .u8 0, .int .u8 0, .int .u8 0, .int .u8 0, .int .u8 0, .int .u8 0, .int .u8 0, .int .u8 0, .int .u8 0, .int .u8 0, .int .u8 0, .int .u8 0, .int .u8 0, .int .u8 0, .int .u8 0, .int .u8 0, .int .u8 0, .int .u8 0, .int .u8 0, .int .u8 0, .int .u8 0, .int .u8 0, .int .u8 0, .int .u8 0, .int .u8 0, .int .u8 0, .int .u8 0, .int .u8 0, .int .u8 0, .int .u8 0, .int .u8 0, .int .u8 0] 69) := ⟨_, rfl⟩
  have bV : Below w.heap.size w V := by rw [hV]; exact (((below_self w).alloc (Nat.le_refl _) _).alloc (by simp) _).alloc (by simp; omega) _
  have q : RcAt V (w.heap.size + 2) rcZ none 0 0 := by
    have h0 := rw_at (w := (w.alloc (.cells (dgA P) 67)).alloc (.cells #[.int .u64 (t : Int), .int .i64 k, .int .u64 (cl : Int), .slice A n c] 65)) (k := w.heap.size + 2) (.cells #[.int .u32 0, .int .u32 0, .int .u32 0, .int .u64 0, .int .i64 0, .int .u64 0, .slice none 0 0, .int .u8 0, .int .u8 0, .int .u8 0, .int .u8 0, .int .u8 0, .int .u8 0, .int .u8 0, .int .u8 0, .int .u8 0, .int .u8 0, .int .u8 0, .int .u8 0, .int .u8 0, .int .u8 0, .int .u8 0, .int .u8 0, .int .u8 0, .int .u8 0, .int .u8 0, .int .u8 0, .int .u8 0, .int .u8 0, .int .u8 0, .int .u8 0, .int .u8 0, .int .u8 0, .int .u8 0, .int .u8 0, .int .u8 0, .int .u8 0, .int .u8 0, .int .u8 0] 69) (by simp)
    rw [← hV] at h0
    exact h0.trans (congrArg (fun z => some (Obj.cells z 69 (0, 0))) zeroRc)
  have hc := refCheck12_any t k cl A n c V hn
  rw [show rcChk k cl n = false by rw [← hr.2.1]; exact hchk] at hc
  have HC := Lib.hid hc
  have HV := Lib.hid hV
  have Q := Lib.hid q
  obtain ⟨DP, hDP⟩ : ∃ z, z = dgA P := ⟨_, rfl⟩
  rw [← hDP] at HV ⊢
  have HDP := Lib.hid hDP
  clear hV hc q hchk hDP
  go_enter Try.func41, Try.ntmps41
  go_wp2_with fail
  rw [← HV.out]
  refine HC.out.mono ?_
  rintro e w2 ⟨rfl, hb2⟩
  have Q2 := Lib.hid (Q.out.up hb2)
  go_wp2_with (refine rc_store rfl _ _ rfl rfl (r := rcZ) (A := none) (n := 0) (c := 0) (congrArg Value.agg zeroRc) Q2.out rcZ_ok.2.2.2.2.2.2 rcZ_ok.2.2.2.2.2.2 ?_)
  refine bodyPost_ret (rresults_row_tmp Try.results41 _ _ (w.heap.size + 2) 69 _ (0, 0) _ rfl (RcAt.setRow (r' := rcZ) (A' := none) (n' := 0) (c' := 0) Q2.out) Try.underlying69 rfl (rcInfo rcZ none 0 0 rcZ_ok.2.2.2.2.2.2)) rfl ?_
  exact ⟨none, 0, 0, rfl, RdB.nilB _, below_setRow (below_then bV hb2) (by omega) _⟩
theorem refMake12_yes (P : List UInt8) (hP : P.length = 32) (g s m t : Nat) (k : Int) (cl : Nat) (A : Option Addr) (n c : Nat) (b : List UInt8) (w : World) (hg : g < 4294967296) (hs : s < 4294967296) (hm : m < 4294967296) (ht : t < 18446744073709551616) (hk : -9223372036854775808 ≤ k ∧ k ≤ 9223372036854775807) (hcl : cl < 18446744073709551616) (hr : RdB w A n c b) (hchk : rcChk k cl b.length = true) :
    Calls Try.prog 41 #[.agg (dgA P), .int .u32 (g : Int), .int .u32 (s : Int), .int .u32 (m : Int), .agg #[.int .u64 (t : Int), .int .i64 k, .int .u64 (cl : Int), .slice A n c]] w (RetRs w (rcMk P ⟨g, s, m, t, k, cl, b, List.replicate 32 0⟩) 0) := by
  have hn := hr.n63
  have hn180 : n ≤ 180 := by have := (rcChk_len hchk).1; have := hr.2.1; omega
  obtain ⟨r0, hr0⟩ : ∃ r, r = (⟨g, s, m, t, k, cl, b, List.replicate 32 0⟩ : Rc) := ⟨_, rfl⟩
  have hok : r0.ok := by rw [hr0]; exact ⟨hg, hs, hm, ht, hk, hcl, by simp⟩
  have hck : r0.chk = true := by rw [hr0]; exact hchk
  have hb0 : r0.b = b := by rw [hr0]
  rw [← hr0]
  have hD := hok.2.2.2.2.2.2
  obtain ⟨V, hV⟩ : ∃ V, V = ((w.alloc (.cells (dgA P) 67)).alloc (.cells #[.int .u64 (t : Int), .int .i64 k, .int .u64 (cl : Int), .slice A n c] 65)).alloc (.cells #[.int .u32 0, .int .u32 0, .int .u32 0, .int .u64 0, .int .i64 0, .int .u64 0, .slice none 0 0, .int .u8 0, .int .u8 0, .int .u8 0, .int .u8 0, .int .u8 0, .int .u8 0, .int .u8 0, .int .u8 0, .int .u8 0, .int .u8 0, .int .u8 0, .int .u8 0, .int .u8 0, .int .u8 0, .int .u8 0, .int .u8 0, .int .u8 0, .int .u8 0, .int .u8 0, .int .u8 0, .int .u8 0, .int .u8 0, .int .u8 0, .int .u8 0, .int .u8 0, .int .u8 0, .int .u8 0, .int .u8 0, .int .u8 0, .int .u8 0, .int .u8 0, .int .u8 0] 69) := ⟨_, rfl⟩
  have bV : Below w.heap.size w V := by rw [hV]; exact (((below_self w).alloc (Nat.le_refl _) _).alloc (by simp) _).alloc (by simp; omega) _
  have zV : V.heap.size = w.heap.size + 3 := by rw [hV]; simp
  have qP : V.heap[w.heap.size]? = some (.cells (dgA P) 67 (0, 0)) := by rw [hV]; exact rw_old _ (rw_old _ (rw_at _ rfl))
  have qe : V.heap[w.heap.size + 1]? = some (.cells #[.int .u64 (t : Int), .int .i64 k, .int .u64 (cl : Int), .slice A n c] 65 (0, 0)) := by rw [hV]; exact rw_old _ (rw_at _ (by simp))
  have q : RcAt V (w.heap.size + 2) rcZ none 0 0 := by
    have h0 := rw_at (w := (w.alloc (.cells (dgA P) 67)).alloc (.cells #[.int .u64 (t : Int), .int .i64 k, .int .u64 (cl : Int), .slice A n c] 65)) (k := w.heap.size + 2) (.cells #[.int .u32 0, .int .u32 0, .int .u32 0, .int .u64 0, .int .i64 0, .int .u64 0, .slice none 0 0, .int .u8 0, .int .u8 0, .int .u8 0, .int .u8 0, .int .u8 0, .int .u8 0, .int .u8 0, .int .u8 0, .int .u8 0, .int .u8 0, .int .u8 0, .int .u8 0, .int .u8 0, .int .u8 0, .int .u8 0, .int .u8 0, .int .u8 0, .int .u8 0, .int .u8 0, .int .u8 0, .int .u8 0, .int .u8 0, .int .u8 0, .int .u8 0, .int .u8 0, .int .u8 0, .int .u8 0, .int .u8 0, .int .u8 0, .int .u8 0, .int .u8 0, .int .u8 0] 69) (by simp)
    rw [← hV] at h0
    exact h0.trans (congrArg (fun z => some (Obj.cells z 69 (0, 0))) zeroRc)
  have hc := refCheck12_any t k cl A n c V hn
  rw [show rcChk k cl n = true by rw [← hr.2.1]; exact hchk] at hc
  have q3V := (cell_of_row V _ 3 _ _ _ qe).trans (show (#[.int .u64 (t : Int), .int .i64 k, .int .u64 (cl : Int), .slice A n c] : Array Value)[3]? = some (.slice A n c) from rfl)
  have hl1 : w.heap.size + 1 < V.heap.size := by omega
  obtain ⟨EV, hEV⟩ : ∃ z : Array Value, z = #[.int .u64 (t : Int), .int .i64 k, .int .u64 (cl : Int), .slice A n c] := ⟨_, rfl⟩
  obtain ⟨DP, hDP⟩ : ∃ z, z = dgA P := ⟨_, rfl⟩
  obtain ⟨RV, hRV⟩ : ∃ z, z = (rcV r0 A n c).toArray := ⟨_, rfl⟩
  have kb : ∀ W : World, (Instr.build 69 #[(0, .int .u32 (g : Int)), (1, .int .u32 (s : Int)), (2, .int .u32 (m : Int)), (3, .agg EV)]).run Try.prog W = .ok (.agg RV) W := fun W => by rw [hRV, hr0, hEV]; exact rcBuilt g s m t k cl A n c b W
  have hsz : RV.size = 39 := by rw [hRV, List.size_toArray, rcV_len _ _ _ _ hD]
  have hez : EV.size = 4 := by rw [hEV]; rfl
  rw [← hEV] at hc hV qe ⊢
  rw [← hDP] at hV ⊢
  have qeR := qe
  rw [hV] at qeR
  have HC := Lib.hid hc
  have HV := Lib.hid hV
  have Q := Lib.hid q
  have QP := Lib.hid qP
  have QE := Lib.hid qe
  have QER := Lib.hid qeR
  have ZV := Lib.hid zV
  have HDP := Lib.hid hDP
  have HRV := Lib.hid hRV
  have HR0 := Lib.hid hr0
  have HD := Lib.hid hD
  have HOK := Lib.hid hok
  have HCK := Lib.hid hck
  have HB0 := Lib.hid hb0
  have HP := Lib.hid hP
  have HEI := Lib.hid (evInfo EV hez)
  have KB := Lib.hid kb
  clear hV hc q hchk hDP hRV hr0 qP qe qeR zV hD hok hck hb0 hP hEV hez kb
  go_enter Try.func41, Try.ntmps41
  go_wp2_with (refine wpList_load_row rfl 65 _ rfl (w.heap.size + 1) rfl 65 EV (0, 0) _ QER.out Try.underlying65 rfl HEI.out ?_)
  rw [← HV.out]
  refine HC.out.mono ?_
  rintro e w2 ⟨rfl, hb2⟩
  obtain ⟨Z3, hZ3⟩ : ∃ Z, Z = w2.alloc (.cells #[.int .u32 0, .int .u32 0, .int .u32 0, .int .u64 0, .int .i64 0, .int .u64 0, .slice none 0 0, .int .u8 0, .int .u8 0, .int .u8 0, .int .u8 0, .int .u8 0, .int .u8 0, .int .u8 0, .int .u8 0, .int .u8 0, .int .u8 0, .int .u8 0, .int .u8 0, .int .u8 0, .int .u8 0, .int .u8 0, .int .u8 0, .int .u8 0, .int .u8 0, .int .u8 0, .int .u8 0, .int .u8 0, .int .u8 0, .int .u8 0, .int .u8 0, .int .u8 0, .int .u8 0, .int .u8 0, .int .u8 0, .int .u8 0, .int .u8 0, .int .u8 0, .int .u8 0] 69) := ⟨_, rfl⟩
  have qz : RcAt Z3 w2.heap.size rcZ none 0 0 := by
    have h0 := rw_at (w := w2) (.cells #[.int .u32 0, .int .u32 0, .int .u32 0, .int .u64 0, .int .i64 0, .int .u64 0, .slice none 0 0, .int .u8 0, .int .u8 0, .int .u8 0, .int .u8 0, .int .u8 0, .int .u8 0, .int .u8 0, .int .u8 0, .int .u8 0, .int .u8 0, .int .u8 0, .int .u8 0, .int .u8 0, .int .u8 0, .int .u8 0, .int .u8 0, .int .u8 0, .int .u8 0, .int .u8 0, .int .u8 0, .int .u8 0, .int .u8 0, .int .u8 0, .int .u8 0, .int .u8 0, .int .u8 0, .int .u8 0, .int .u8 0, .int .u8 0, .int .u8 0, .int .u8 0, .int .u8 0] 69) rfl
    rw [← hZ3] at h0
    exact h0.trans (congrArg (fun z => some (Obj.cells z 69 (0, 0))) zeroRc)
  have bz : Below w2.heap.size w2 Z3 := by rw [hZ3]; exact (below_self _).alloc (Nat.le_refl _) _
  have qe2 := Lib.hid (rw_up QE.out hb2)
  have e3 := (hb2.cell (p := ⟨w.heap.size + 1, 3, none⟩) hl1).trans q3V
  obtain ⟨W3, hW3⟩ : ∃ W, W = Z3.setRow w2.heap.size (rcV r0 A n c).toArray := ⟨_, rfl⟩
  have b3 : Below w2.heap.size w2 W3 := by rw [hW3]; exact below_setRow bz (Nat.le_refl _) _
  have q3 : RcAt W3 w2.heap.size r0 A n c := by rw [hW3]; exact qz.setRow
  have zz := ZV.out
  have z2 := hb2.size
  have e3' : (Z3.setRow w2.heap.size (rcV r0 A n c).toArray).cell? ⟨w.heap.size + 1, 3, none⟩ = some (.slice A n c) := (cell_setRow_other Z3 w2.heap.size _ ⟨w.heap.size + 1, 3, none⟩ (by show w.heap.size + 1 ≠ w2.heap.size; omega)).trans ((bz.cell (p := ⟨w.heap.size + 1, 3, none⟩) (by show w.heap.size + 1 < _; omega)).trans e3)
  have B3 := below_then (below_then bV hb2) b3
  have HW3 := Lib.hid hW3
  have Q3 := Lib.hid q3
  have HZ3 := Lib.hid hZ3
  have QZ := Lib.hid qz
  clear hZ3 qz q3V hW3 q3
  go_wp2_with (first
    | (refine wpList_load_row rfl 65 _ rfl (w.heap.size + 1) rfl 65 EV (0, 0) _ qe2.out Try.underlying65 rfl HEI.out ?_)
    | (refine wpList_of_exec rfl (rex_build rfl #[(0, .int .u32 (g : Int)), (1, .int .u32 (s : Int)), (2, .int .u32 (m : Int)), (3, .agg EV)] rfl (KB.out _)) ?_)
    | (rw [← HZ3.out]; refine rc_store rfl _ _ rfl rfl (r := r0) (A := A) (n := n) (c := c) (congrArg Value.agg HRV.out) QZ.out HD.out rcZ_ok.2.2.2.2.2.2 ?_))
  rw [← HW3.out]
  clear e3 e3'
  have l2 : w2.heap.size < W3.heap.size := Q3.out.lt
  have o4 : 0 < n → ∀ a, A = some a → a.block < w.heap.size := fun h0 a e => by
    obtain ⟨b1, o1, u1, he, hlt, _⟩ := hr.at_ 0 h0
    rw [he] at e; injection e with e; subst e; exact hlt
  have r5 := hr.below B3
  have Q5 := Q3
  have b5 := b3
  have B5 := B3
  have QP5 := Lib.hid (rw_up (rw_up QP.out hb2) b3)
  have HBD := Lib.hid (rcBody_len r0 (by rw [HB0.out, hr.2.1]; omega))
  refine wp_region_last (S := fun w' => Below W3.heap.size W3 w') 5 #[true, true, true, true, true, false] [(0, true), (1, true), (2, false), (3, false), (4, true)] (by kernel_rfl) (by kernel_rfl) (fun _ _ d _ _ h => by cases d <;> exact h) ((Below.refl _ W3).drew) ?_
  refine seg_take (v := .agg (dgA P)) rfl (Or.inl ⟨by rfl, fun w' hw' => ?_⟩) ?_
  focus (exact rex_load rfl rfl (run_loadVar_row w' w.heap.size _ 67 _ _ _ (rw_up QP5.out hw') Try.underlying67 rfl (infoD P HP.out)))
  try simp only [Act.put, List.setIfInBounds_toArray, List.set_cons_zero, List.set_cons_succ]
  refine seg_take (v := .agg (rcV r0 A n c).toArray) rfl (Or.inl ⟨by rfl, fun w' hw' => ?_⟩) ?_
  focus (exact rex_load rfl rfl (load_rc (Q5.out.up hw') HD.out))
  try simp only [Act.put, List.setIfInBounds_toArray, List.set_cons_zero, List.set_cons_succ]
  refine seg_run rfl (fun K hK => ?_)
  go_simp
  have HX := (Below.refl W3.heap.size W3).drew
  refine (refBody_any r0 A n c _ HOK.out HCK.out (by rw [HB0.out]; exact r5.below HX)).mono ?_
  rintro e_ w6 ⟨gb, nb, db, rfl, rb, hb6⟩
  obtain rfl : nb = 220 := by rw [← rb.len, HBD.out]
  have HX6 := below_then HX hb6
  refine hK.out _ _ (HX6) ?_
  clear hK
  try simp only [Act.put, List.setIfInBounds_toArray, List.set_cons_zero, List.set_cons_succ]
  refine seg_run rfl (fun K hK => ?_)
  go_simp
  refine (refLink_any P HP.out _ 220 db (rcBody r0) w6 rb.rd (by omega)).mono ?_
  rintro e_ w7 ⟨rfl, hb7⟩
  have HX7 := below_then HX6 hb7
  obtain ⟨D9, hD9⟩ : ∃ d, d = shLink P (rcBody r0) := ⟨_, rfl⟩
  have hD9l : D9.length = 32 := by rw [hD9]; exact shLink_len _ _
  rw [← hD9]
  have HD9 := Lib.hid hD9
  clear hD9
  refine hK.out _ _ (HX7) ?_
  clear hK
  try simp only [Act.put, List.setIfInBounds_toArray, List.set_cons_zero, List.set_cons_succ]
  iterate 1 (refine seg_take (v := ?_) rfl (Or.inl ⟨by rfl, ?_⟩) ?_; rotate_left; (focus (intro w' hw'; go_simp <;> with_reducible rfl)); try simp only [Act.put, List.setIfInBounds_toArray, List.set_cons_zero, List.set_cons_succ])
  refine seg_done ?_
  refine last_run rfl (fun K hK => ?_)
  rw [if_pos (by rfl)]
  have q7 := Q5.out.up HX7
  refine wp_store_mid 67 _ _ rfl w2.heap.size 7 (dgA D9) rfl rfl (by rw [dgA_size, hD9l]; exact q7.there HD.out) (infoD D9 hD9l) (dgA_one D9) ?_
  refine hK.out _ _ ?_
  clear hK
  try simp only [Act.put, List.setIfInBounds_toArray, List.set_cons_zero, List.set_cons_succ]
  have q8 : RcAt (w7.setCells w2.heap.size 7 (dgA D9).toList) w2.heap.size (rcMk P r0) A n c := by
    have := (Q5.out.up HX7).setD HD.out D9 hD9l
    unfold rcMk
    rw [← HD9.out]
    exact this
  have B8 : Below w2.heap.size w2 (w7.setCells w2.heap.size 7 (dgA D9).toList) := setCells_below (Nat.le_refl _) _ _ _ _ (b5.trans (HX7.mono (by omega)))
  obtain ⟨W8, hW8⟩ : ∃ W, W = w7.setCells w2.heap.size 7 (dgA D9).toList := ⟨_, rfl⟩
  have r8 : RdB W8 A n c b := by
    have r7 := r5.below HX7
    rw [hW8]
    refine ⟨?_, r7.2⟩
    by_cases h0 : 0 < n
    · rcases r7.1 with h1 | ⟨bb, oo, rfl, hl, hcc⟩
      · exact .inl h1
      · have hne := o4 h0 _ rfl
        have hs : (w7.setCells w2.heap.size 7 (dgA D9).toList).heap.size = w7.heap.size := setCells_size _ _ _ _
        refine .inr ⟨bb, oo, rfl, by rw [hs]; exact hl, fun i v hv => ?_⟩
        rw [World.cell?_setCells_out _ _ _ _ _ (fun hb _ => absurd hb (by show bb ≠ w2.heap.size; have : bb < w.heap.size := hne; omega))]
        exact hcc i v hv
    · left
      have := r7.2.1
      have hbz : b = [] := List.eq_nil_of_length_eq_zero (by omega)
      rw [hbz]; rfl
  rw [← hW8] at q8 B8 ⊢
  have qR8 := (B8.block (w.heap.size + 2) (by omega)).trans (rw_up Q.out hb2)
  have Q8 := Lib.hid q8
  have QR8 : Hid (RcAt W8 (w.heap.size + 2) rcZ none 0 0) := Lib.hid qR8
  have B9 := below_then (below_then bV hb2) B8
  have HMD := Lib.hid (show (rcMk P r0).D.length = 32 from shLink_len _ _)
  clear hW8 q8 qR8 hD9l
  go_wp2_with (first
    | (refine rc_load rfl _ rfl rfl Q8.out HMD.out ?_)
    | (refine rc_store rfl _ _ rfl rfl (r := rcMk P r0) (A := A) (n := n) (c := c) rfl QR8.out HMD.out rcZ_ok.2.2.2.2.2.2 ?_))
  refine bodyPost_ret (rresults_row_tmp Try.results41 _ _ (w.heap.size + 2) 69 _ (0, 0) _ rfl (RcAt.setRow (r' := rcMk P r0) (A' := A) (n' := n) (c' := c) QR8.out) Try.underlying69 rfl (rcInfo _ _ _ _ HMD.out)) rfl ?_
  refine ⟨A, n, c, rfl, ?_, below_setRow B9 (by omega) _⟩
  rw [show (rcMk P r0).b = b from HB0.out]
  exact rd_row r8 (w.heap.size + 2) _ (fun h0 a e => by have := o4 h0 a e; omega)
theorem refMake12_any (P : List UInt8) (hP : P.length = 32) (g s m t : Nat) (k : Int) (cl : Nat) (A : Option Addr) (n c : Nat) (b : List UInt8) (w : World) (hg : g < 4294967296) (hs : s < 4294967296) (hm : m < 4294967296) (ht : t < 18446744073709551616) (hk : -9223372036854775808 ≤ k ∧ k ≤ 9223372036854775807) (hcl : cl < 18446744073709551616) (hr : RdB w A n c b) :
    Calls Try.prog 41 #[.agg (dgA P), .int .u32 (g : Int), .int .u32 (s : Int), .int .u32 (m : Int), .agg #[.int .u64 (t : Int), .int .i64 k, .int .u64 (cl : Int), .slice A n c]] w (RetRs w (rcMkR P ⟨g, s, m, t, k, cl, b, List.replicate 32 0⟩) (rcMkE ⟨g, s, m, t, k, cl, b, List.replicate 32 0⟩)) := by
  unfold rcMkR rcMkE
  cases h : rcChk k cl b.length with
  | false => rw [if_neg (by unfold Rc.chk; simp [h]), if_neg (by unfold Rc.chk; simp [h])]; exact refMake12_no P hP g s m t k cl A n c b w hr h
  | true => rw [if_pos (by unfold Rc.chk; exact h), if_pos (by unfold Rc.chk; exact h)]; exact refMake12_yes P hP g s m t k cl A n c b w hg hs hm ht hk hcl hr h
end Go.Proofs.Ytnfepikgbdeomaa

namespace Go.Proofs.Ytnfepikgbdeomaa
open Go.RowKit
set_option linter.unusedVariables false
set_option linter.unusedSimpArgs false
set_option maxRecDepth 20000
set_option maxHeartbeats 8000000

theorem refFollow12_err (hGet : ∀ (A : Option Addr) (n c : Nat) (xs : List UInt8) (w : World), RdB w A n c xs → Calls Try.prog 48 #[.slice A n c] w (RetRc w (rcGet xs) (rcGetE xs))) (P : List UInt8) (hP : P.length = 32) (g s : Nat) (A : Option Addr) (n c : Nat) (xs : List UInt8) (w : World) (hr : RdB w A n c xs) (hE0 : rcGetE xs ≠ 0) :
    Calls Try.prog 49 #[.agg (dgA P), .int .u32 (g : Int), .int .u32 (s : Int), .slice A n c] w (RetRc w rcZ (rcGetE xs)) := by
  have hn := hr.n63
  have hL := hr.2.1
  have hc := hr.2.2.1
  obtain ⟨V, hV⟩ : ∃ V, V = (w.alloc (.cells (dgA P) 67)).alloc (.cells #[.int .u32 0, .int .u32 0, .int .u32 0, .int .u64 0, .int .i64 0, .int .u64 0, .slice none 0 0, .int .u8 0, .int .u8 0, .int .u8 0, .int .u8 0, .int .u8 0, .int .u8 0, .int .u8 0, .int .u8 0, .int .u8 0, .int .u8 0, .int .u8 0, .int .u8 0, .int .u8 0, .int .u8 0, .int .u8 0, .int .u8 0, .int .u8 0, .int .u8 0, .int .u8 0, .int .u8 0, .int .u8 0, .int .u8 0, .int .u8 0, .int .u8 0, .int .u8 0, .int .u8 0, .int .u8 0, .int .u8 0, .int .u8 0, .int .u8 0, .int .u8 0, .int .u8 0] 69) := ⟨_, rfl⟩
  have bV : Below w.heap.size w V := by rw [hV]; exact ((below_self w).alloc (Nat.le_refl _) _).alloc (by simp) _
  have zV : V.heap.size = w.heap.size + 2 := by rw [hV]; simp
  have QP : Hid (V.heap[w.heap.size]? = some (.cells (dgA P) 67 (0, 0))) := by rw [hV]; exact Lib.hid (rw_old _ (rw_at _ rfl))
  have Q : Hid (RcAt V (w.heap.size + 1) rcZ none 0 0) := by rw [hV]; exact Lib.hid (zeroAt (by simp))
  have HV := Lib.hid hV
  have hG := hGet A n c xs V (hr.below bV)
  obtain ⟨hok9, hb9⟩ := rcGet_okk xs
  obtain ⟨E, hE⟩ : ∃ E, rcGetE xs = E := ⟨_, rfl⟩
  obtain ⟨R, hR⟩ : ∃ R, rcGet xs = R := ⟨_, rfl⟩
  rw [hE, hR] at hG
  rw [hR] at hok9
  have n0 : ¬ (E = 0) := by rw [← hE]; exact hE0
  have n1 : (E != 0) = true := bne_iff_ne.2 n0
  have HG := Lib.hid hG
  have HE := Lib.hid hE
  have HR := Lib.hid hR
  have HRD := Lib.hid hok9.2.2.2.2.2.2
  have HP := Lib.hid hP
  have ZV := Lib.hid zV
  have HB9 := Lib.hid hb9
  clear hV hG hE hR hP zV hb9
  go_enter Try.func49, Try.ntmps49
  go_wp2_with fail
  rw [← HV.out]
  refine HG.out.mono ?_
  rintro e w3 ⟨A4, n4, c4, rfl, hRb, hRf, hb3⟩
  have Q3 := Lib.hid (Q.out.up hb3)
  obtain ⟨Z3, hZ3⟩ : ∃ W, W = w3.alloc (.cells #[.int .u32 0, .int .u32 0, .int .u32 0, .int .u64 0, .int .i64 0, .int .u64 0, .slice none 0 0, .int .u8 0, .int .u8 0, .int .u8 0, .int .u8 0, .int .u8 0, .int .u8 0, .int .u8 0, .int .u8 0, .int .u8 0, .int .u8 0, .int .u8 0, .int .u8 0, .int .u8 0, .int .u8 0, .int .u8 0, .int .u8 0, .int .u8 0, .int .u8 0, .int .u8 0, .int .u8 0, .int .u8 0, .int .u8 0, .int .u8 0, .int .u8 0, .int .u8 0, .int .u8 0, .int .u8 0, .int .u8 0, .int .u8 0, .int .u8 0, .int .u8 0, .int .u8 0] 69) := ⟨_, rfl⟩
  have QZ : Hid (RcAt Z3 w3.heap.size rcZ none 0 0) := by rw [hZ3]; exact Lib.hid (zeroAt rfl)
  have bZ : Below w3.heap.size w3 Z3 := by rw [hZ3]; exact (below_self _).alloc (Nat.le_refl _) _
  obtain ⟨X, hX⟩ : ∃ W, W = Z3.setRow w3.heap.size (rcV R A4 n4 c4).toArray := ⟨_, rfl⟩
  have bX : Below w3.heap.size w3 X := by rw [hX]; exact below_setRow bZ (Nat.le_refl _) _
  have QX : Hid (RcAt X w3.heap.size R A4 n4 c4) := by rw [hX]; exact Lib.hid QZ.out.setRow
  have QR : Hid (RcAt X (w.heap.size + 1) rcZ none 0 0) := Lib.hid (Q3.out.up bX)
  have QP := Lib.hid (rw_up QP.out (below_then hb3 bX))
  have B := below_then (below_then bV hb3) bX
  have hrX := hr.below B
  have hRbX := hRb.below bX
  have z3 := hb3.size
  have k0 := RcAt.c0 QX.out
  have k1 := RcAt.c1 QX.out
  rw [hX] at k0 k1
  have HX3 := Lib.hid hX
  have HZ3 := Lib.hid hZ3
  clear hX hZ3
  clear hE0
  go_wp2_with (first | (rw [← HZ3.out]; refine rc_store rfl _ _ rfl rfl rfl QZ.out HRD.out rcZD ?_) | (rw [← HX3.out]; refine rc_store rfl _ _ rfl rfl (r := rcZ) (A := none) (n := 0) (c := 0) (congrArg Value.agg zeroRc) QR.out rcZD rcZD ?_))
  refine bodyPost_ret (rresults_row_tmp Try.results49 _ _ (w.heap.size + 1) 69 _ (0, 0) _ rfl (RcAt.setRow (r' := rcZ) (A' := none) (n' := 0) (c' := 0) QR.out) Try.underlying69 rfl (rcInfo rcZ none 0 0 rcZD)) rfl ?_
  exact ⟨none, 0, 0, by rw [HE.out]; rfl, RdB.nilB _, fun h => absurd h (Nat.lt_irrefl 0), below_setRow (B) (by omega) _⟩
theorem refFollow12_gen (hGet : ∀ (A : Option Addr) (n c : Nat) (xs : List UInt8) (w : World), RdB w A n c xs → Calls Try.prog 48 #[.slice A n c] w (RetRc w (rcGet xs) (rcGetE xs))) (P : List UInt8) (hP : P.length = 32) (g s : Nat) (A : Option Addr) (n c : Nat) (xs : List UInt8) (w : World) (hr : RdB w A n c xs) (hE0 : rcGetE xs = 0) (hne : (rcGet xs).g ≠ g) :
    Calls Try.prog 49 #[.agg (dgA P), .int .u32 (g : Int), .int .u32 (s : Int), .slice A n c] w (RetRc w rcZ 120) := by
  have hn := hr.n63
  have hL := hr.2.1
  have hc := hr.2.2.1
  obtain ⟨V, hV⟩ : ∃ V, V = (w.alloc (.cells (dgA P) 67)).alloc (.cells #[.int .u32 0, .int .u32 0, .int .u32 0, .int .u64 0, .int .i64 0, .int .u64 0, .slice none 0 0, .int .u8 0, .int .u8 0, .int .u8 0, .int .u8 0, .int .u8 0, .int .u8 0, .int .u8 0, .int .u8 0, .int .u8 0, .int .u8 0, .int .u8 0, .int .u8 0, .int .u8 0, .int .u8 0, .int .u8 0, .int .u8 0, .int .u8 0, .int .u8 0, .int .u8 0, .int .u8 0, .int .u8 0, .int .u8 0, .int .u8 0, .int .u8 0, .int .u8 0, .int .u8 0, .int .u8 0, .int .u8 0, .int .u8 0, .int .u8 0, .int .u8 0, .int .u8 0] 69) := ⟨_, rfl⟩
  have bV : Below w.heap.size w V := by rw [hV]; exact ((below_self w).alloc (Nat.le_refl _) _).alloc (by simp) _
  have zV : V.heap.size = w.heap.size + 2 := by rw [hV]; simp
  have QP : Hid (V.heap[w.heap.size]? = some (.cells (dgA P) 67 (0, 0))) := by rw [hV]; exact Lib.hid (rw_old _ (rw_at _ rfl))
  have Q : Hid (RcAt V (w.heap.size + 1) rcZ none 0 0) := by rw [hV]; exact Lib.hid (zeroAt (by simp))
  have HV := Lib.hid hV
  have hG := hGet A n c xs V (hr.below bV)
  obtain ⟨hok9, hb9⟩ := rcGet_okk xs
  obtain ⟨E, hE⟩ : ∃ E, rcGetE xs = E := ⟨_, rfl⟩
  obtain ⟨R, hR⟩ : ∃ R, rcGet xs = R := ⟨_, rfl⟩
  rw [hE, hR] at hG
  rw [hR] at hok9
  have hE1 : E = 0 := by rw [← hE]; exact hE0
  subst hE1
  have n0 : ¬ ((R.g : Int) = (g : Int)) := by rw [← hR]; omega
  have n1 : ((R.g : Int) != (g : Int)) = true := bne_iff_ne.2 n0
  have HG := Lib.hid hG
  have HE := Lib.hid hE
  have HR := Lib.hid hR
  have HRD := Lib.hid hok9.2.2.2.2.2.2
  have HP := Lib.hid hP
  have ZV := Lib.hid zV
  have HB9 := Lib.hid hb9
  clear hV hG hE hR hP zV hb9
  go_enter Try.func49, Try.ntmps49
  go_wp2_with fail
  rw [← HV.out]
  refine HG.out.mono ?_
  rintro e w3 ⟨A4, n4, c4, rfl, hRb, hRf, hb3⟩
  have Q3 := Lib.hid (Q.out.up hb3)
  obtain ⟨Z3, hZ3⟩ : ∃ W, W = w3.alloc (.cells #[.int .u32 0, .int .u32 0, .int .u32 0, .int .u64 0, .int .i64 0, .int .u64 0, .slice none 0 0, .int .u8 0, .int .u8 0, .int .u8 0, .int .u8 0, .int .u8 0, .int .u8 0, .int .u8 0, .int .u8 0, .int .u8 0, .int .u8 0, .int .u8 0, .int .u8 0, .int .u8 0, .int .u8 0, .int .u8 0, .int .u8 0, .int .u8 0, .int .u8 0, .int .u8 0, .int .u8 0, .int .u8 0, .int .u8 0, .int .u8 0, .int .u8 0, .int .u8 0, .int .u8 0, .int .u8 0, .int .u8 0, .int .u8 0, .int .u8 0, .int .u8 0, .int .u8 0] 69) := ⟨_, rfl⟩
  have QZ : Hid (RcAt Z3 w3.heap.size rcZ none 0 0) := by rw [hZ3]; exact Lib.hid (zeroAt rfl)
  have bZ : Below w3.heap.size w3 Z3 := by rw [hZ3]; exact (below_self _).alloc (Nat.le_refl _) _
  obtain ⟨X, hX⟩ : ∃ W, W = Z3.setRow w3.heap.size (rcV R A4 n4 c4).toArray := ⟨_, rfl⟩
  have bX : Below w3.heap.size w3 X := by rw [hX]; exact below_setRow bZ (Nat.le_refl _) _
  have QX : Hid (RcAt X w3.heap.size R A4 n4 c4) := by rw [hX]; exact Lib.hid QZ.out.setRow
  have QR : Hid (RcAt X (w.heap.size + 1) rcZ none 0 0) := Lib.hid (Q3.out.up bX)
  have QP := Lib.hid (rw_up QP.out (below_then hb3 bX))
  have B := below_then (below_then bV hb3) bX
  have hrX := hr.below B
  have hRbX := hRb.below bX
  have z3 := hb3.size
  have k0 := RcAt.c0 QX.out
  have k1 := RcAt.c1 QX.out
  rw [hX] at k0 k1
  have HX3 := Lib.hid hX
  have HZ3 := Lib.hid hZ3
  clear hX hZ3
  clear hE0 hne
  go_wp2_with (first | (rw [← HZ3.out]; refine rc_store rfl _ _ rfl rfl rfl QZ.out HRD.out rcZD ?_) | (rw [← HX3.out]; refine rc_store rfl _ _ rfl rfl (r := rcZ) (A := none) (n := 0) (c := 0) (congrArg Value.agg zeroRc) QR.out rcZD rcZD ?_))
  refine bodyPost_ret (rresults_row_tmp Try.results49 _ _ (w.heap.size + 1) 69 _ (0, 0) _ rfl (RcAt.setRow (r' := rcZ) (A' := none) (n' := 0) (c' := 0) QR.out) Try.underlying69 rfl (rcInfo rcZ none 0 0 rcZD)) rfl ?_
  exact ⟨none, 0, 0, rfl, RdB.nilB _, fun h => absurd h (Nat.lt_irrefl 0), below_setRow (B) (by omega) _⟩
theorem refFollow12_seq (hGet : ∀ (A : Option Addr) (n c : Nat) (xs : List UInt8) (w : World), RdB w A n c xs → Calls Try.prog 48 #[.slice A n c] w (RetRc w (rcGet xs) (rcGetE xs))) (P : List UInt8) (hP : P.length = 32) (g s : Nat) (A : Option Addr) (n c : Nat) (xs : List UInt8) (w : World) (hr : RdB w A n c xs) (hE0 : rcGetE xs = 0) (hg : (rcGet xs).g = g) (hne : (rcGet xs).s ≠ s) :
    Calls Try.prog 49 #[.agg (dgA P), .int .u32 (g : Int), .int .u32 (s : Int), .slice A n c] w (RetRc w rcZ 121) := by
  have hn := hr.n63
  have hL := hr.2.1
  have hc := hr.2.2.1
  obtain ⟨V, hV⟩ : ∃ V, V = (w.alloc (.cells (dgA P) 67)).alloc (.cells #[.int .u32 0, .int .u32 0, .int .u32 0, .int .u64 0, .int .i64 0, .int .u64 0, .slice none 0 0, .int .u8 0, .int .u8 0, .int .u8 0, .int .u8 0, .int .u8 0, .int .u8 0, .int .u8 0, .int .u8 0, .int .u8 0, .int .u8 0, .int .u8 0, .int .u8 0, .int .u8 0, .int .u8 0, .int .u8 0, .int .u8 0, .int .u8 0, .int .u8 0, .int .u8 0, .int .u8 0, .int .u8 0, .int .u8 0, .int .u8 0, .int .u8 0, .int .u8 0, .int .u8 0, .int .u8 0, .int .u8 0, .int .u8 0, .int .u8 0, .int .u8 0, .int .u8 0] 69) := ⟨_, rfl⟩
  have bV : Below w.heap.size w V := by rw [hV]; exact ((below_self w).alloc (Nat.le_refl _) _).alloc (by simp) _
  have zV : V.heap.size = w.heap.size + 2 := by rw [hV]; simp
  have QP : Hid (V.heap[w.heap.size]? = some (.cells (dgA P) 67 (0, 0))) := by rw [hV]; exact Lib.hid (rw_old _ (rw_at _ rfl))
  have Q : Hid (RcAt V (w.heap.size + 1) rcZ none 0 0) := by rw [hV]; exact Lib.hid (zeroAt (by simp))
  have HV := Lib.hid hV
  have hG := hGet A n c xs V (hr.below bV)
  obtain ⟨hok9, hb9⟩ := rcGet_okk xs
  obtain ⟨E, hE⟩ : ∃ E, rcGetE xs = E := ⟨_, rfl⟩
  obtain ⟨R, hR⟩ : ∃ R, rcGet xs = R := ⟨_, rfl⟩
  rw [hE, hR] at hG
  rw [hR] at hok9
  have hE1 : E = 0 := by rw [← hE]; exact hE0
  subst hE1
  have m0 : R.g = g := by rw [← hR]; exact hg
  subst m0
  have n0 : ¬ ((R.s : Int) = (s : Int)) := by rw [← hR]; omega
  have n1 : ((R.s : Int) != (s : Int)) = true := bne_iff_ne.2 n0
  have HG := Lib.hid hG
  have HE := Lib.hid hE
  have HR := Lib.hid hR
  have HRD := Lib.hid hok9.2.2.2.2.2.2
  have HP := Lib.hid hP
  have ZV := Lib.hid zV
  have HB9 := Lib.hid hb9
  clear hV hG hE hR hP zV hb9
  go_enter Try.func49, Try.ntmps49
  go_wp2_with fail
  rw [← HV.out]
  refine HG.out.mono ?_
  rintro e w3 ⟨A4, n4, c4, rfl, hRb, hRf, hb3⟩
  have Q3 := Lib.hid (Q.out.up hb3)
  obtain ⟨Z3, hZ3⟩ : ∃ W, W = w3.alloc (.cells #[.int .u32 0, .int .u32 0, .int .u32 0, .int .u64 0, .int .i64 0, .int .u64 0, .slice none 0 0, .int .u8 0, .int .u8 0, .int .u8 0, .int .u8 0, .int .u8 0, .int .u8 0, .int .u8 0, .int .u8 0, .int .u8 0, .int .u8 0, .int .u8 0, .int .u8 0, .int .u8 0, .int .u8 0, .int .u8 0, .int .u8 0, .int .u8 0, .int .u8 0, .int .u8 0, .int .u8 0, .int .u8 0, .int .u8 0, .int .u8 0, .int .u8 0, .int .u8 0, .int .u8 0, .int .u8 0, .int .u8 0, .int .u8 0, .int .u8 0, .int .u8 0, .int .u8 0] 69) := ⟨_, rfl⟩
  have QZ : Hid (RcAt Z3 w3.heap.size rcZ none 0 0) := by rw [hZ3]; exact Lib.hid (zeroAt rfl)
  have bZ : Below w3.heap.size w3 Z3 := by rw [hZ3]; exact (below_self _).alloc (Nat.le_refl _) _
  obtain ⟨X, hX⟩ : ∃ W, W = Z3.setRow w3.heap.size (rcV R A4 n4 c4).toArray := ⟨_, rfl⟩
  have bX : Below w3.heap.size w3 X := by rw [hX]; exact below_setRow bZ (Nat.le_refl _) _
  have QX : Hid (RcAt X w3.heap.size R A4 n4 c4) := by rw [hX]; exact Lib.hid QZ.out.setRow
  have QR : Hid (RcAt X (w.heap.size + 1) rcZ none 0 0) := Lib.hid (Q3.out.up bX)
  have QP := Lib.hid (rw_up QP.out (below_then hb3 bX))
  have B := below_then (below_then bV hb3) bX
  have hrX := hr.below B
  have hRbX := hRb.below bX
  have z3 := hb3.size
  have k0 := RcAt.c0 QX.out
  have k1 := RcAt.c1 QX.out
  rw [hX] at k0 k1
  have HX3 := Lib.hid hX
  have HZ3 := Lib.hid hZ3
  clear hX hZ3
  clear hE0 hne hg
  go_wp2_with (first | (rw [← HZ3.out]; refine rc_store rfl _ _ rfl rfl rfl QZ.out HRD.out rcZD ?_) | (rw [← HX3.out]; refine rc_store rfl _ _ rfl rfl (r := rcZ) (A := none) (n := 0) (c := 0) (congrArg Value.agg zeroRc) QR.out rcZD rcZD ?_))
  refine bodyPost_ret (rresults_row_tmp Try.results49 _ _ (w.heap.size + 1) 69 _ (0, 0) _ rfl (RcAt.setRow (r' := rcZ) (A' := none) (n' := 0) (c' := 0) QR.out) Try.underlying69 rfl (rcInfo rcZ none 0 0 rcZD)) rfl ?_
  exact ⟨none, 0, 0, rfl, RdB.nilB _, fun h => absurd h (Nat.lt_irrefl 0), below_setRow (B) (by omega) _⟩
theorem refFollow12_chain (hGet : ∀ (A : Option Addr) (n c : Nat) (xs : List UInt8) (w : World), RdB w A n c xs → Calls Try.prog 48 #[.slice A n c] w (RetRc w (rcGet xs) (rcGetE xs))) (P : List UInt8) (hP : P.length = 32) (g s : Nat) (A : Option Addr) (n c : Nat) (xs : List UInt8) (w : World) (hr : RdB w A n c xs) (hE0 : rcGetE xs = 0) (hg : (rcGet xs).g = g) (hs : (rcGet xs).s = s) (hch : (rcGet xs).D ≠ shLink P (rcBody (rcGet xs))) :
    Calls Try.prog 49 #[.agg (dgA P), .int .u32 (g : Int), .int .u32 (s : Int), .slice A n c] w (RetRc w rcZ 122) := by
  have hn := hr.n63
  have hL := hr.2.1
  have hc := hr.2.2.1
  obtain ⟨V, hV⟩ : ∃ V, V = (w.alloc (.cells (dgA P) 67)).alloc (.cells #[.int .u32 0, .int .u32 0, .int .u32 0, .int .u64 0, .int .i64 0, .int .u64 0, .slice none 0 0, .int .u8 0, .int .u8 0, .int .u8 0, .int .u8 0, .int .u8 0, .int .u8 0, .int .u8 0, .int .u8 0, .int .u8 0, .int .u8 0, .int .u8 0, .int .u8 0, .int .u8 0, .int .u8 0, .int .u8 0, .int .u8 0, .int .u8 0, .int .u8 0, .int .u8 0, .int .u8 0, .int .u8 0, .int .u8 0, .int .u8 0, .int .u8 0, .int .u8 0, .int .u8 0, .int .u8 0, .int .u8 0, .int .u8 0, .int .u8 0, .int .u8 0, .int .u8 0] 69) := ⟨_, rfl⟩
  have bV : Below w.heap.size w V := by rw [hV]; exact ((below_self w).alloc (Nat.le_refl _) _).alloc (by simp) _
  have zV : V.heap.size = w.heap.size + 2 := by rw [hV]; simp
  have QP : Hid (V.heap[w.heap.size]? = some (.cells (dgA P) 67 (0, 0))) := by rw [hV]; exact Lib.hid (rw_old _ (rw_at _ rfl))
  have Q : Hid (RcAt V (w.heap.size + 1) rcZ none 0 0) := by rw [hV]; exact Lib.hid (zeroAt (by simp))
  have HV := Lib.hid hV
  have hG := hGet A n c xs V (hr.below bV)
  obtain ⟨hok9, hb9⟩ := rcGet_okk xs
  obtain ⟨E, hE⟩ : ∃ E, rcGetE xs = E := ⟨_, rfl⟩
  obtain ⟨R, hR⟩ : ∃ R, rcGet xs = R := ⟨_, rfl⟩
  rw [hE, hR] at hG
  rw [hR] at hok9
  have hE1 : E = 0 := by rw [← hE]; exact hE0
  subst hE1
  have m0 : R.g = g := by rw [← hR]; exact hg
  subst m0
  have m1 : R.s = s := by rw [← hR]; exact hs
  subst m1
  obtain ⟨t1, t2, t3, t4, t5, t6, t7⟩ := rcGet_ok xs hE0
  have hCKR : R.chk = true := by rw [← hR]; exact t4
  have HCKR := Lib.hid hCKR
  have HOKR := Lib.hid hok9
  have HBD := Lib.hid (rcBody_len R (by have := (rcChk_len hCKR).1; omega))
  have hn256 : n = 256 := by rw [← hL]; exact t2
  subst hn256
  have htk : xs.take 220 = rcBody R := by rw [← hR]; exact rcGet_take xs hE0
  obtain ⟨LK, hLK⟩ : ∃ d, d = shLink P (rcBody R) := ⟨_, rfl⟩
  have hLKl : LK.length = 32 := by rw [hLK]; exact shLink_len _ _
  have hq : decide (LK = R.D) = false := by rw [hLK, ← hR]; exact decide_eq_false (fun h => hch h.symm)
  have KQ := Lib.hid (fun W => hq ▸ rdig_eq LK R.D hLKl hok9.2.2.2.2.2.2 W)
  have HTK := Lib.hid htk
  have HLK := Lib.hid hLK
  have ci : (220 : Int) ≤ (c : Int) := by omega
  clear t1 t2 t3 t4 t5 t6 t7 hch htk hLK hLKl hq hL
  have HG := Lib.hid hG
  have HE := Lib.hid hE
  have HR := Lib.hid hR
  have HRD := Lib.hid hok9.2.2.2.2.2.2
  have HP := Lib.hid hP
  have ZV := Lib.hid zV
  have HB9 := Lib.hid hb9
  clear hV hG hE hR hP zV hb9
  go_enter Try.func49, Try.ntmps49
  go_wp2_with fail
  rw [← HV.out]
  refine HG.out.mono ?_
  rintro e w3 ⟨A4, n4, c4, rfl, hRb, hRf, hb3⟩
  have Q3 := Lib.hid (Q.out.up hb3)
  obtain ⟨Z3, hZ3⟩ : ∃ W, W = w3.alloc (.cells #[.int .u32 0, .int .u32 0, .int .u32 0, .int .u64 0, .int .i64 0, .int .u64 0, .slice none 0 0, .int .u8 0, .int .u8 0, .int .u8 0, .int .u8 0, .int .u8 0, .int .u8 0, .int .u8 0, .int .u8 0, .int .u8 0, .int .u8 0, .int .u8 0, .int .u8 0, .int .u8 0, .int .u8 0, .int .u8 0, .int .u8 0, .int .u8 0, .int .u8 0, .int .u8 0, .int .u8 0, .int .u8 0, .int .u8 0, .int .u8 0, .int .u8 0, .int .u8 0, .int .u8 0, .int .u8 0, .int .u8 0, .int .u8 0, .int .u8 0, .int .u8 0, .int .u8 0] 69) := ⟨_, rfl⟩
  have QZ : Hid (RcAt Z3 w3.heap.size rcZ none 0 0) := by rw [hZ3]; exact Lib.hid (zeroAt rfl)
  have bZ : Below w3.heap.size w3 Z3 := by rw [hZ3]; exact (below_self _).alloc (Nat.le_refl _) _
  obtain ⟨X, hX⟩ : ∃ W, W = Z3.setRow w3.heap.size (rcV R A4 n4 c4).toArray := ⟨_, rfl⟩
  have bX : Below w3.heap.size w3 X := by rw [hX]; exact below_setRow bZ (Nat.le_refl _) _
  have QX : Hid (RcAt X w3.heap.size R A4 n4 c4) := by rw [hX]; exact Lib.hid QZ.out.setRow
  have QR : Hid (RcAt X (w.heap.size + 1) rcZ none 0 0) := Lib.hid (Q3.out.up bX)
  have QP := Lib.hid (rw_up QP.out (below_then hb3 bX))
  have B := below_then (below_then bV hb3) bX
  have hrX := hr.below B
  have hRbX := hRb.below bX
  have z3 := hb3.size
  have k0 := RcAt.c0 QX.out
  have k1 := RcAt.c1 QX.out
  rw [hX] at k0 k1
  have HX3 := Lib.hid hX
  have HZ3 := Lib.hid hZ3
  clear hX hZ3
  clear hE0 hg hs
  rw [HX3.out.symm] at k0 k1
  have k0' := k0
  have k1' := k1
  rw [HX3.out] at k0 k1
  go_wp2_with (rw [← HZ3.out]; refine rc_store rfl _ _ rfl rfl rfl QZ.out HRD.out rcZD ?_)
  try rw [← HX3.out]
  have lP := rw_lt QP.out
  refine wp_region_seg (S := fun w' => Below X.heap.size X w') 0 #[true, true, true, true, true, true, true, true] [(0, true), (1, true), (4, true), (5, true), (2, false), (3, false), (6, true), (7, true)] (by kernel_rfl) (by kernel_rfl) (fun _ _ d _ _ h => by first | (cases d <;> exact h) | cases h.1) ((Below.refl X.heap.size X).drew) ?_
  have HB := (Below.refl X.heap.size X).drew
  refine seg_take (v := .agg (dgA P)) rfl (Or.inl ⟨by rfl, fun w' hw' => ?_⟩) ?_
  focus (exact rex_load rfl rfl (run_loadVar_row w' w.heap.size _ 67 _ _ _ (rw_up QP.out hw') Try.underlying67 rfl (infoD P HP.out)))
  try simp only [Act.put, List.setIfInBounds_toArray, List.set_cons_zero, List.set_cons_succ]
  refine seg_take (v := .agg (rcV R A4 n4 c4).toArray) rfl (Or.inl ⟨by rfl, fun w' hw' => ?_⟩) ?_
  focus (exact rex_load rfl rfl (load_rc (QX.out.up hw') HRD.out))
  try simp only [Act.put, List.setIfInBounds_toArray, List.set_cons_zero, List.set_cons_succ]
  iterate 1 (refine seg_take (v := ?_) rfl (Or.inl ⟨by rfl, ?_⟩) ?_; rotate_left; (focus (intro w' hw'; go_simp <;> with_reducible rfl)); try simp only [Act.put, List.setIfInBounds_toArray, List.set_cons_zero, List.set_cons_succ])
  refine seg_take (v := .agg (dgA R.D)) rfl (Or.inl ⟨by rfl, fun w' hw' => ?_⟩) ?_
  focus (exact rex_load rfl rfl (mid_dig (QX.out.up hw') HRD.out))
  try simp only [Act.put, List.setIfInBounds_toArray, List.set_cons_zero, List.set_cons_succ]
  refine seg_run rfl (fun K hK => ?_)
  go_simp
  refine (refBody_any R A4 n4 c4 _ HOKR.out HCKR.out (hRbX.below HB)).mono ?_
  rintro e_ w6 ⟨gb, nb, db, rfl, rb, hb6⟩
  obtain rfl : nb = 220 := by rw [← rb.len, HBD.out]
  have HB := below_then HB hb6
  refine hK.out _ _ (HB) ?_
  clear hK
  try simp only [Act.put, List.setIfInBounds_toArray, List.set_cons_zero, List.set_cons_succ]
  refine seg_run rfl (fun K hK => ?_)
  go_simp
  refine (refLink_any P HP.out _ 220 db (rcBody R) _ rb.rd (by omega)).mono ?_
  rintro e_ w7 ⟨rfl, hb7⟩
  rw [← HLK.out]
  have HB := below_then HB hb7
  refine hK.out _ _ (HB) ?_
  clear hK
  try simp only [Act.put, List.setIfInBounds_toArray, List.set_cons_zero, List.set_cons_succ]
  refine seg_take (v := .bool true) rfl (Or.inl ⟨by rfl, fun w' hw' => ?_⟩) ?_
  focus ((have jj := KQ.out w'; go_simp))
  try simp only [Act.put, List.setIfInBounds_toArray, List.set_cons_zero, List.set_cons_succ]
  iterate 1 (refine seg_take (v := ?_) rfl (Or.inl ⟨by rfl, ?_⟩) ?_; rotate_left; (focus (intro w' hw'; go_simp <;> with_reducible rfl)); try simp only [Act.put, List.setIfInBounds_toArray, List.set_cons_zero, List.set_cons_succ])
  refine seg_done (fun _ => ?_)
  refine wpAnyH_done (by kernel_rfl) ?_ _
  have QX7 := Lib.hid (QX.out.up HB)
  have QR7 := Lib.hid (QR.out.up HB)
  have B7 := below_then B HB
  go_wp2_with (refine rc_store rfl _ _ rfl rfl (r := rcZ) (A := none) (n := 0) (c := 0) (congrArg Value.agg zeroRc) QR7.out rcZD rcZD ?_)
  refine bodyPost_ret (rresults_row_tmp Try.results49 _ _ (w.heap.size + 1) 69 _ (0, 0) _ rfl (RcAt.setRow (r' := rcZ) (A' := none) (n' := 0) (c' := 0) QR7.out) Try.underlying69 rfl (rcInfo rcZ none 0 0 rcZD)) rfl ?_
  exact ⟨none, 0, 0, rfl, RdB.nilB _, fun h => absurd h (Nat.lt_irrefl 0), below_setRow (B7) (by omega) _⟩
theorem refFollow12_yes (hGet : ∀ (A : Option Addr) (n c : Nat) (xs : List UInt8) (w : World), RdB w A n c xs → Calls Try.prog 48 #[.slice A n c] w (RetRc w (rcGet xs) (rcGetE xs))) (P : List UInt8) (hP : P.length = 32) (g s : Nat) (A : Option Addr) (n c : Nat) (xs : List UInt8) (w : World) (hr : RdB w A n c xs) (hE0 : rcGetE xs = 0) (hg : (rcGet xs).g = g) (hs : (rcGet xs).s = s) (hch : (rcGet xs).D = shLink P (rcBody (rcGet xs))) :
    Calls Try.prog 49 #[.agg (dgA P), .int .u32 (g : Int), .int .u32 (s : Int), .slice A n c] w (RetRc w (rcGet xs) 0) := by
  have hn := hr.n63
  have hL := hr.2.1
  have hc := hr.2.2.1
  obtain ⟨V, hV⟩ : ∃ V, V = (w.alloc (.cells (dgA P) 67)).alloc (.cells #[.int .u32 0, .int .u32 0, .int .u32 0, .int .u64 0, .int .i64 0, .int .u64 0, .slice none 0 0, .int .u8 0, .int .u8 0, .int .u8 0, .int .u8 0, .int .u8 0, .int .u8 0, .int .u8 0, .int .u8 0, .int .u8 0, .int .u8 0, .int .u8 0, .int .u8 0, .int .u8 0, .int .u8 0, .int .u8 0, .int .u8 0, .int .u8 0, .int .u8 0, .int .u8 0, .int .u8 0, .int .u8 0, .int .u8 0, .int .u8 0, .int .u8 0, .int .u8 0, .int .u8 0, .int .u8 0, .int .u8 0, .int .u8 0, .int .u8 0, .int .u8 0, .int .u8 0] 69) := ⟨_, rfl⟩
  have bV : Below w.heap.size w V := by rw [hV]; exact ((below_self w).alloc (Nat.le_refl _) _).alloc (by simp) _
  have zV : V.heap.size = w.heap.size + 2 := by rw [hV]; simp
  have QP : Hid (V.heap[w.heap.size]? = some (.cells (dgA P) 67 (0, 0))) := by rw [hV]; exact Lib.hid (rw_old _ (rw_at _ rfl))
  have Q : Hid (RcAt V (w.heap.size + 1) rcZ none 0 0) := by rw [hV]; exact Lib.hid (zeroAt (by simp))
  have HV := Lib.hid hV
  have hG := hGet A n c xs V (hr.below bV)
  obtain ⟨hok9, hb9⟩ := rcGet_okk xs
  obtain ⟨E, hE⟩ : ∃ E, rcGetE xs = E := ⟨_, rfl⟩
  obtain ⟨R, hR⟩ : ∃ R, rcGet xs = R := ⟨_, rfl⟩
  rw [hE, hR] at hG
  rw [hR] at hok9
  have hE1 : E = 0 := by rw [← hE]; exact hE0
  subst hE1
  have m0 : R.g = g := by rw [← hR]; exact hg
  subst m0
  have m1 : R.s = s := by rw [← hR]; exact hs
  subst m1
  obtain ⟨t1, t2, t3, t4, t5, t6, t7⟩ := rcGet_ok xs hE0
  have hCKR : R.chk = true := by rw [← hR]; exact t4
  have HCKR := Lib.hid hCKR
  have HOKR := Lib.hid hok9
  have HBD := Lib.hid (rcBody_len R (by have := (rcChk_len hCKR).1; omega))
  have hn256 : n = 256 := by rw [← hL]; exact t2
  subst hn256
  have htk : xs.take 220 = rcBody R := by rw [← hR]; exact rcGet_take xs hE0
  obtain ⟨LK, hLK⟩ : ∃ d, d = shLink P (rcBody R) := ⟨_, rfl⟩
  have hLKl : LK.length = 32 := by rw [hLK]; exact shLink_len _ _
  have hq : decide (LK = R.D) = true := by rw [hLK, ← hR]; exact decide_eq_true hch.symm
  have KQ := Lib.hid (fun W => hq ▸ rdig_eq LK R.D hLKl hok9.2.2.2.2.2.2 W)
  have HTK := Lib.hid htk
  have HLK := Lib.hid hLK
  have ci : (220 : Int) ≤ (c : Int) := by omega
  clear t1 t2 t3 t4 t5 t6 t7 hch htk hLK hLKl hq hL
  have HG := Lib.hid hG
  have HE := Lib.hid hE
  have HR := Lib.hid hR
  have HRD := Lib.hid hok9.2.2.2.2.2.2
  have HP := Lib.hid hP
  have ZV := Lib.hid zV
  have HB9 := Lib.hid hb9
  clear hV hG hE hR hP zV hb9
  go_enter Try.func49, Try.ntmps49
  go_wp2_with fail
  rw [← HV.out]
  refine HG.out.mono ?_
  rintro e w3 ⟨A4, n4, c4, rfl, hRb, hRf, hb3⟩
  have Q3 := Lib.hid (Q.out.up hb3)
  obtain ⟨Z3, hZ3⟩ : ∃ W, W = w3.alloc (.cells #[.int .u32 0, .int .u32 0, .int .u32 0, .int .u64 0, .int .i64 0, .int .u64 0, .slice none 0 0, .int .u8 0, .int .u8 0, .int .u8 0, .int .u8 0, .int .u8 0, .int .u8 0, .int .u8 0, .int .u8 0, .int .u8 0, .int .u8 0, .int .u8 0, .int .u8 0, .int .u8 0, .int .u8 0, .int .u8 0, .int .u8 0, .int .u8 0, .int .u8 0, .int .u8 0, .int .u8 0, .int .u8 0, .int .u8 0, .int .u8 0, .int .u8 0, .int .u8 0, .int .u8 0, .int .u8 0, .int .u8 0, .int .u8 0, .int .u8 0, .int .u8 0, .int .u8 0] 69) := ⟨_, rfl⟩
  have QZ : Hid (RcAt Z3 w3.heap.size rcZ none 0 0) := by rw [hZ3]; exact Lib.hid (zeroAt rfl)
  have bZ : Below w3.heap.size w3 Z3 := by rw [hZ3]; exact (below_self _).alloc (Nat.le_refl _) _
  obtain ⟨X, hX⟩ : ∃ W, W = Z3.setRow w3.heap.size (rcV R A4 n4 c4).toArray := ⟨_, rfl⟩
  have bX : Below w3.heap.size w3 X := by rw [hX]; exact below_setRow bZ (Nat.le_refl _) _
  have QX : Hid (RcAt X w3.heap.size R A4 n4 c4) := by rw [hX]; exact Lib.hid QZ.out.setRow
  have QR : Hid (RcAt X (w.heap.size + 1) rcZ none 0 0) := Lib.hid (Q3.out.up bX)
  have QP := Lib.hid (rw_up QP.out (below_then hb3 bX))
  have B := below_then (below_then bV hb3) bX
  have hrX := hr.below B
  have hRbX := hRb.below bX
  have z3 := hb3.size
  have k0 := RcAt.c0 QX.out
  have k1 := RcAt.c1 QX.out
  rw [hX] at k0 k1
  have HX3 := Lib.hid hX
  have HZ3 := Lib.hid hZ3
  clear hX hZ3
  clear hE0 hg hs
  rw [HX3.out.symm] at k0 k1
  have k0' := k0
  have k1' := k1
  rw [HX3.out] at k0 k1
  go_wp2_with (rw [← HZ3.out]; refine rc_store rfl _ _ rfl rfl rfl QZ.out HRD.out rcZD ?_)
  try rw [← HX3.out]
  have lP := rw_lt QP.out
  refine wp_region_seg (S := fun w' => Below X.heap.size X w') 0 #[true, true, true, true, true, true, true, true] [(0, true), (1, true), (4, true), (5, true), (2, false), (3, false), (6, true), (7, true)] (by kernel_rfl) (by kernel_rfl) (fun _ _ d _ _ h => by first | (cases d <;> exact h) | cases h.1) ((Below.refl X.heap.size X).drew) ?_
  have HB := (Below.refl X.heap.size X).drew
  refine seg_take (v := .agg (dgA P)) rfl (Or.inl ⟨by rfl, fun w' hw' => ?_⟩) ?_
  focus (exact rex_load rfl rfl (run_loadVar_row w' w.heap.size _ 67 _ _ _ (rw_up QP.out hw') Try.underlying67 rfl (infoD P HP.out)))
  try simp only [Act.put, List.setIfInBounds_toArray, List.set_cons_zero, List.set_cons_succ]
  refine seg_take (v := .agg (rcV R A4 n4 c4).toArray) rfl (Or.inl ⟨by rfl, fun w' hw' => ?_⟩) ?_
  focus (exact rex_load rfl rfl (load_rc (QX.out.up hw') HRD.out))
  try simp only [Act.put, List.setIfInBounds_toArray, List.set_cons_zero, List.set_cons_succ]
  iterate 1 (refine seg_take (v := ?_) rfl (Or.inl ⟨by rfl, ?_⟩) ?_; rotate_left; (focus (intro w' hw'; go_simp <;> with_reducible rfl)); try simp only [Act.put, List.setIfInBounds_toArray, List.set_cons_zero, List.set_cons_succ])
  refine seg_take (v := .agg (dgA R.D)) rfl (Or.inl ⟨by rfl, fun w' hw' => ?_⟩) ?_
  focus (exact rex_load rfl rfl (mid_dig (QX.out.up hw') HRD.out))
  try simp only [Act.put, List.setIfInBounds_toArray, List.set_cons_zero, List.set_cons_succ]
  refine seg_run rfl (fun K hK => ?_)
  go_simp
  refine (refBody_any R A4 n4 c4 _ HOKR.out HCKR.out (hRbX.below HB)).mono ?_
  rintro e_ w6 ⟨gb, nb, db, rfl, rb, hb6⟩
  obtain rfl : nb = 220 := by rw [← rb.len, HBD.out]
  have HB := below_then HB hb6
  refine hK.out _ _ (HB) ?_
  clear hK
  try simp only [Act.put, List.setIfInBounds_toArray, List.set_cons_zero, List.set_cons_succ]
  refine seg_run rfl (fun K hK => ?_)
  go_simp
  refine (refLink_any P HP.out _ 220 db (rcBody R) _ rb.rd (by omega)).mono ?_
  rintro e_ w7 ⟨rfl, hb7⟩
  rw [← HLK.out]
  have HB := below_then HB hb7
  refine hK.out _ _ (HB) ?_
  clear hK
  try simp only [Act.put, List.setIfInBounds_toArray, List.set_cons_zero, List.set_cons_succ]
  refine seg_take (v := .bool false) rfl (Or.inl ⟨by rfl, fun w' hw' => ?_⟩) ?_
  focus ((have jj := KQ.out w'; go_simp))
  try simp only [Act.put, List.setIfInBounds_toArray, List.set_cons_zero, List.set_cons_succ]
  iterate 1 (refine seg_take (v := ?_) rfl (Or.inl ⟨by rfl, ?_⟩) ?_; rotate_left; (focus (intro w' hw'; go_simp <;> with_reducible rfl)); try simp only [Act.put, List.setIfInBounds_toArray, List.set_cons_zero, List.set_cons_succ])
  refine seg_done (fun _ => ?_)
  refine wpAnyH_done (by kernel_rfl) ?_ _
  have QX7 := Lib.hid (QX.out.up HB)
  have QR7 := Lib.hid (QR.out.up HB)
  have B7 := below_then B HB
  go_wp2_with (first | (refine rc_load rfl _ rfl rfl QX7.out HRD.out ?_) | (refine rc_store rfl _ _ rfl rfl rfl QR7.out HRD.out rcZD ?_))
  rw [HR.out]
  refine bodyPost_ret (rresults_row_tmp Try.results49 _ _ (w.heap.size + 1) 69 _ (0, 0) _ rfl (RcAt.setRow (r' := R) (A' := A4) (n' := n4) (c' := c4) QR7.out) Try.underlying69 rfl (rcInfo R A4 n4 c4 HRD.out)) rfl ?_
  exact ⟨A4, n4, c4, rfl, rd_row (hRbX.below HB) (w.heap.size + 1) _ (fun h0 a e => by have := hRf h0 a e; have := ZV.out; omega), fun h0 a e => by have := hRf h0 a e; have := ZV.out; omega, below_setRow (B7) (by omega) _⟩
theorem refFollow12_any (hGet : ∀ (A : Option Addr) (n c : Nat) (xs : List UInt8) (w : World), RdB w A n c xs → Calls Try.prog 48 #[.slice A n c] w (RetRc w (rcGet xs) (rcGetE xs))) (P : List UInt8) (hP : P.length = 32) (g s : Nat) (A : Option Addr) (n c : Nat) (xs : List UInt8) (w : World) (hr : RdB w A n c xs) :
    Calls Try.prog 49 #[.agg (dgA P), .int .u32 (g : Int), .int .u32 (s : Int), .slice A n c] w (RetRc w (rcFol P g s xs) (rcFolE P g s xs)) := by
  by_cases hE : rcGetE xs = 0
  · by_cases hg : (rcGet xs).g = g
    · by_cases hs : (rcGet xs).s = s
      · by_cases hch : (rcGet xs).D = shLink P (rcBody (rcGet xs))
        · have e : rcFolE P g s xs = 0 := by unfold rcFolE; rw [if_pos hE, if_neg (fun h => h hg), if_neg (fun h => h hs), if_neg (fun h => h hch)]
          have e2 : rcFol P g s xs = rcGet xs := by unfold rcFol; rw [if_pos e]
          rw [e, e2]; exact refFollow12_yes hGet P hP g s A n c xs w hr hE hg hs hch
        · have e : rcFolE P g s xs = 122 := by unfold rcFolE; rw [if_pos hE, if_neg (fun h => h hg), if_neg (fun h => h hs), if_pos hch]
          have e2 : rcFol P g s xs = rcZ := by unfold rcFol; rw [if_neg (by rw [e]; decide)]
          rw [e, e2]; exact refFollow12_chain hGet P hP g s A n c xs w hr hE hg hs hch
      · have e : rcFolE P g s xs = 121 := by unfold rcFolE; rw [if_pos hE, if_neg (fun h => h hg), if_pos hs]
        have e2 : rcFol P g s xs = rcZ := by unfold rcFol; rw [if_neg (by rw [e]; decide)]
        rw [e, e2]; exact refFollow12_seq hGet P hP g s A n c xs w hr hE hg hs
    · have e : rcFolE P g s xs = 120 := by unfold rcFolE; rw [if_pos hE, if_pos hg]
      have e2 : rcFol P g s xs = rcZ := by unfold rcFol; rw [if_neg (by rw [e]; decide)]
      rw [e, e2]; exact refFollow12_gen hGet P hP g s A n c xs w hr hE hg
  · have e : rcFolE P g s xs = rcGetE xs := by unfold rcFolE; rw [if_neg hE]
    have e2 : rcFol P g s xs = rcZ := by unfold rcFol; rw [if_neg (by rw [e]; exact hE)]
    rw [e, e2]; exact refFollow12_err hGet P hP g s A n c xs w hr hE
end Go.Proofs.Ytnfepikgbdeomaa

namespace Go.Proofs.Ytnfepikgbdeomaa
open Go.RowKit
set_option linter.unusedVariables false
set_option linter.unusedSimpArgs false
set_option maxRecDepth 20000
set_option maxHeartbeats 8000000

def dgK (D : List UInt8) (k : Nat) : List UInt8 := D.take k ++ List.replicate (32 - k) 0
theorem dgK_zero (D : List UInt8) : dgK D 0 = List.replicate 32 0 := by simp [dgK]
theorem dgK_all (D : List UInt8) (h : D.length = 32) : dgK D 32 = D := by simp [dgK, List.take_of_length_le (show D.length ≤ 32 by omega)]
theorem dgK_len (D : List UInt8) (k : Nat) (h : k ≤ 32) (hD : D.length = 32) : (dgK D k).length = 32 := by simp [dgK, List.length_take]; omega
theorem dgK_at (D : List UInt8) (k : Nat) (h : k < 32) (hD : D.length = 32) : ((dgK D k).map vB)[k]? = some (.int .u8 0) := by
  have ht : (D.take k).length = k := by rw [List.length_take]; omega
  rw [List.getElem?_map, dgK, List.getElem?_append_right (by omega), ht, Nat.sub_self]
  simp [show 0 < 32 - k by omega, vB]
theorem dgK_set (R : Rc) (A : Option Addr) (n c : Nat) (D : List UInt8) (k : Nat) (h : k < 32) (hD : D.length = 32) : (rcV { R with D := dgK D k } A n c).toArray.setIfInBounds (7 + k) (.int .u8 ((D.getD k 0).toNat : Int)) = (rcV { R with D := dgK D (k + 1) } A n c).toArray := by
  have e : (dgK D k).set k (D.getD k 0) = dgK D (k + 1) := by
    unfold dgK
    have ht : (D.take k).length = k := by rw [List.length_take]; omega
    rw [List.set_append_right _ _ (by omega), ht, Nat.sub_self, show 32 - k = (32 - (k + 1)) + 1 by omega, List.replicate_succ, List.set_cons_zero, take_snoc D k (by omega)]
    rw [List.append_assoc]
    congr 1
    simp [List.getD, show k < D.length by omega]
  rw [← e, List.setIfInBounds_toArray]
  unfold rcV
  rw [List.set_append_right _ _ (by simp)]
  simp only [List.map_set, vB, List.length_cons, List.length_nil]
  rw [show 7 + k - (0 + 1 + 1 + 1 + 1 + 1 + 1 + 1) = k by omega]
theorem rcV7 (r : Rc) (A : Option Addr) (n c k : Nat) : (rcV r A n c).toArray[7 + k]? = (r.D.map vB)[k]? := by
  rw [List.getElem?_toArray]; unfold rcV
  rw [List.getElem?_append_right (by simp)]
  simp
set_option maxRecDepth 100000 in
theorem rcBuilt0 (g s m : Nat) (w : World) : (Instr.build 69 #[(0, .int .u32 (g : Int)), (1, .int .u32 (s : Int)), (2, .int .u32 (m : Int))]).run Try.prog w = .ok (.agg (rcV ⟨g, s, m, 0, 0, 0, [], List.replicate 32 0⟩ none 0 0).toArray) w :=
  run_build w _ _ _ (by show Try.prog.built _ _ = some _; kernel_rfl)
theorem evBuilt (t : Nat) (k : Int) (cl : Nat) (w : World) : (Instr.build 65 #[(0, .int .u64 (t : Int)), (1, .int .i64 k), (2, .int .u64 (cl : Int))]).run Try.prog w = .ok (.agg #[.int .u64 (t : Int), .int .i64 k, .int .u64 (cl : Int), .slice none 0 0]) w :=
  run_build w _ _ _ (by show Try.prog.built _ _ = some _; kernel_rfl)
theorem RcAt.thereK {w : World} {h : Nat} {r : Rc} {A : Option Addr} {n c : Nat} (q : RcAt w h r A n c) (hD : r.D.length = 32) (k j : Nat) (hk : k + j ≤ 39) : w.there h k j := fun i hi => by
  refine ⟨?_, q.fr _⟩
  rw [cell_of_row w h (k + i) _ _ _ q, List.getElem?_toArray, List.getElem?_eq_getElem (by rw [rcV_len _ _ _ _ hD]; omega)]
  rfl
theorem RcAt.setE {w : World} {h : Nat} {r : Rc} {A : Option Addr} {n c : Nat} (q : RcAt w h r A n c) (t : Nat) (k : Int) (cl : Nat) (A' : Option Addr) (n' c' : Nat) : RcAt (w.setCells h 3 [.int .u64 (t : Int), .int .i64 k, .int .u64 (cl : Int), .slice A' n' c']) h { r with t := t, k := k, c := cl } A' n' c' :=
  setCells_row _ 3 w (rcV r A n c) q
def Rg12 (W : World) (zz gL : Nat) (R : Rc) (A : Option Addr) (n c : Nat) (D : List UInt8) (v : Value) (wr : World) : Prop :=
  ∃ k : Nat, k ≤ 32 ∧ v = .int .i64 (k : Nat) ∧ RcAt wr gL { R with D := dgK D k } A n c ∧ RdB wr A n c R.b ∧ Below W.heap.size W wr ∧ zz ≤ wr.heap.size
theorem refGet12_early (A : Option Addr) (n c : Nat) (xs : List UInt8) (w : World) (hr : RdB w A n c xs) (h : n ≠ 256) :
    Calls Try.prog 48 #[.slice A n c] w (RetRc w rcZ 2) := by
  have hn := hr.n63
  have d1 : ((n : Int) != 256) = true := by rw [bne_iff_ne]; omega
  obtain ⟨V, hV⟩ : ∃ V, V = w.alloc (.cells #[.int .u32 0, .int .u32 0, .int .u32 0, .int .u64 0, .int .i64 0, .int .u64 0, .slice none 0 0, .int .u8 0, .int .u8 0, .int .u8 0, .int .u8 0, .int .u8 0, .int .u8 0, .int .u8 0, .int .u8 0, .int .u8 0, .int .u8 0, .int .u8 0, .int .u8 0, .int .u8 0, .int .u8 0, .int .u8 0, .int .u8 0, .int .u8 0, .int .u8 0, .int .u8 0, .int .u8 0, .int .u8 0, .int .u8 0, .int .u8 0, .int .u8 0, .int .u8 0, .int .u8 0, .int .u8 0, .int .u8 0, .int .u8 0, .int .u8 0, .int .u8 0, .int .u8 0] 69) := ⟨_, rfl⟩
  have bV : Below w.heap.size w V := by rw [hV]; exact (below_self w).alloc (Nat.le_refl _) _
  have Q : Hid (RcAt V w.heap.size rcZ none 0 0) := by rw [hV]; exact Lib.hid (zeroAt rfl)
  have HV := Lib.hid hV
  clear hV h
  go_enter Try.func48, Try.ntmps48
  go_wp2_with (rw [← HV.out]; refine rc_store rfl _ _ rfl rfl (r := rcZ) (A := none) (n := 0) (c := 0) (congrArg Value.agg zeroRc) Q.out rcZD rcZD ?_)
  refine bodyPost_ret (rresults_row_tmp Try.results48 _ _ w.heap.size 69 _ (0, 0) _ rfl (RcAt.setRow (r' := rcZ) (A' := none) (n' := 0) (c' := 0) Q.out) Try.underlying69 rfl (rcInfo rcZ none 0 0 rcZD)) rfl ?_
  exact ⟨none, 0, 0, rfl, RdB.nilB _, fun h => absurd h (Nat.lt_irrefl 0), below_setRow bV (Nat.le_refl _) _⟩
theorem refGet12_sum (A : Option Addr) (c : Nat) (xs : List UInt8) (w : World) (hr : RdB w A 256 c xs) (h : crcHolds xs = false) :
    Calls Try.prog 48 #[.slice A 256 c] w (RetRc w rcZ 6) := by
  have d1 : ((256 : Int) != 256) = false := by decide
  obtain ⟨V, hV⟩ : ∃ V, V = w.alloc (.cells #[.int .u32 0, .int .u32 0, .int .u32 0, .int .u64 0, .int .i64 0, .int .u64 0, .slice none 0 0, .int .u8 0, .int .u8 0, .int .u8 0, .int .u8 0, .int .u8 0, .int .u8 0, .int .u8 0, .int .u8 0, .int .u8 0, .int .u8 0, .int .u8 0, .int .u8 0, .int .u8 0, .int .u8 0, .int .u8 0, .int .u8 0, .int .u8 0, .int .u8 0, .int .u8 0, .int .u8 0, .int .u8 0, .int .u8 0, .int .u8 0, .int .u8 0, .int .u8 0, .int .u8 0, .int .u8 0, .int .u8 0, .int .u8 0, .int .u8 0, .int .u8 0, .int .u8 0] 69) := ⟨_, rfl⟩
  have bV : Below w.heap.size w V := by rw [hV]; exact (below_self w).alloc (Nat.le_refl _) _
  have Q : Hid (RcAt V w.heap.size rcZ none 0 0) := by rw [hV]; exact Lib.hid (zeroAt rfl)
  have HV := Lib.hid hV
  have hh := refHolds_any A 256 c xs V (hr.below bV) (by omega)
  rw [h] at hh
  have HH := Lib.hid hh
  clear hV h hh
  go_enter Try.func48, Try.ntmps48
  go_wp2_with fail
  rw [← HV.out]
  refine HH.out.mono ?_
  rintro e w2 ⟨rfl, hb2⟩
  have Q2 := Lib.hid (Q.out.up hb2)
  go_wp2_with (refine rc_store rfl _ _ rfl rfl (r := rcZ) (A := none) (n := 0) (c := 0) (congrArg Value.agg zeroRc) Q2.out rcZD rcZD ?_)
  refine bodyPost_ret (rresults_row_tmp Try.results48 _ _ w.heap.size 69 _ (0, 0) _ rfl (RcAt.setRow (r' := rcZ) (A' := none) (n' := 0) (c' := 0) Q2.out) Try.underlying69 rfl (rcInfo rcZ none 0 0 rcZD)) rfl ?_
  exact ⟨none, 0, 0, rfl, RdB.nilB _, fun h => absurd h (Nat.lt_irrefl 0), below_setRow (below_then bV hb2) (Nat.le_refl _) _⟩
theorem refGet12_form (A : Option Addr) (c : Nat) (xs : List UInt8) (w : World) (hr : RdB w A 256 c xs) (h : crcHolds xs = true) (hbad : ¬ (xs.getD 25 0).toNat ≤ 180) :
    Calls Try.prog 48 #[.slice A 256 c] w (RetRc w rcZ 3) := by
  have d1 : ((256 : Int) != 256) = false := by decide
  obtain ⟨bb, oo, u0, rfl, hbl, _⟩ := hr.at_ 0 (by omega)
  obtain ⟨V, hV⟩ : ∃ V, V = w.alloc (.cells #[.int .u32 0, .int .u32 0, .int .u32 0, .int .u64 0, .int .i64 0, .int .u64 0, .slice none 0 0, .int .u8 0, .int .u8 0, .int .u8 0, .int .u8 0, .int .u8 0, .int .u8 0, .int .u8 0, .int .u8 0, .int .u8 0, .int .u8 0, .int .u8 0, .int .u8 0, .int .u8 0, .int .u8 0, .int .u8 0, .int .u8 0, .int .u8 0, .int .u8 0, .int .u8 0, .int .u8 0, .int .u8 0, .int .u8 0, .int .u8 0, .int .u8 0, .int .u8 0, .int .u8 0, .int .u8 0, .int .u8 0, .int .u8 0, .int .u8 0, .int .u8 0, .int .u8 0] 69) := ⟨_, rfl⟩
  have bV : Below w.heap.size w V := by rw [hV]; exact (below_self w).alloc (Nat.le_refl _) _
  have zV : V.heap.size = w.heap.size + 1 := by rw [hV]; simp
  have Q : Hid (RcAt V w.heap.size rcZ none 0 0) := by rw [hV]; exact Lib.hid (zeroAt rfl)
  have HV := Lib.hid hV
  have hh := refHolds_any _ 256 c xs V (hr.below bV) (by omega)
  rw [h] at hh
  have HH := Lib.hid hh
  have hc := hr.2.2.1
  have hc63 := hr.c63
  obtain ⟨N, hN⟩ : ∃ N, (xs.getD 25 0).toNat = N := ⟨_, rfl⟩
  have hNb : N < 256 := by rw [← hN]; exact UInt8.toNat_lt _
  have c25 := (bV.cell (p := ⟨bb, oo + 25, none⟩) hbl).trans (hr.cellS 25 (by omega))
  rw [hN] at c25 hbad
  have wN := wi64n (k := N) (by omega)
  have d2 : decide ((180 : Int) < (N : Int)) = true := decide_eq_true (by omega)
  have hbV : bb < V.heap.size := by omega
  clear hN
  have ZV := Lib.hid zV
  have HX := Lib.hid hr.2.1
  clear hV h hh zV
  go_enter Try.func48, Try.ntmps48
  go_wp2_with fail
  rw [← HV.out]
  refine HH.out.mono ?_
  rintro e w2 ⟨rfl, hb2⟩
  have Q2 := Lib.hid (Q.out.up hb2)
  have j25 := (hb2.cell (p := ⟨bb, oo + 25, none⟩) hbV).trans c25
  clear c25
  go_wp2_with (refine rc_store rfl _ _ rfl rfl (r := rcZ) (A := none) (n := 0) (c := 0) (congrArg Value.agg zeroRc) Q2.out rcZD rcZD ?_)
  refine bodyPost_ret (rresults_row_tmp Try.results48 _ _ w.heap.size 69 _ (0, 0) _ rfl (RcAt.setRow (r' := rcZ) (A' := none) (n' := 0) (c' := 0) Q2.out) Try.underlying69 rfl (rcInfo rcZ none 0 0 rcZD)) rfl ?_
  exact ⟨none, 0, 0, rfl, RdB.nilB _, fun h => absurd h (Nat.lt_irrefl 0), below_setRow (below_then bV hb2) (Nat.le_refl _) _⟩
theorem refGet12_main (A : Option Addr) (c : Nat) (xs : List UInt8) (w : World) (hr : RdB w A 256 c xs) (h : crcHolds xs = true) (hgood : (xs.getD 25 0).toNat ≤ 180) :
    Calls Try.prog 48 #[.slice A 256 c] w (RetRc w (rcGet xs) (rcGetE xs)) := by
  have d1 : ((256 : Int) != 256) = false := by decide
  have hlen := hr.2.1
  have hc := hr.2.2.1
  have hc63 := hr.c63
  obtain ⟨b, o, u, rfl, hbl, _⟩ := hr.at_ 0 (by omega)
  have hcut : ∀ k j, k + j ≤ 256 → k < 256 → RdB w (some ⟨b, o + k, none⟩) j (c - k) ((xs.drop k).take j) := fun k j hkj hk => (hr.cutS k (256 - k) (by omega) (by omega)).take j (by omega)
  obtain ⟨N, hN⟩ : ∃ N, (xs.getD 25 0).toNat = N := ⟨_, rfl⟩
  rw [hN] at hgood
  have r4 := hcut 4 4 (by omega) (by omega)
  have r8 := hcut 8 4 (by omega) (by omega)
  have r12 := hcut 12 4 (by omega) (by omega)
  have r16 := hcut 16 8 (by omega) (by omega)
  have r26 := hcut 26 8 (by omega) (by omega)
  have r34 := hcut 34 N (by omega) (by omega)
  have r220 := hcut 220 32 (by omega) (by omega)
  have c24 := hr.cellS 24 (by omega)
  have c25 := hr.cellS 25 (by omega)
  obtain ⟨G, hG⟩ : ∃ v, lev ((xs.drop 4).take 4) = v := ⟨_, rfl⟩
  obtain ⟨S, hS⟩ : ∃ v, lev ((xs.drop 8).take 4) = v := ⟨_, rfl⟩
  obtain ⟨M, hM⟩ : ∃ v, lev ((xs.drop 12).take 4) = v := ⟨_, rfl⟩
  obtain ⟨T, hT⟩ : ∃ v, lev ((xs.drop 16).take 8) = v := ⟨_, rfl⟩
  obtain ⟨C, hC⟩ : ∃ v, lev ((xs.drop 26).take 8) = v := ⟨_, rfl⟩
  obtain ⟨Kd, hK⟩ : ∃ Kd, (xs.getD 24 0).toNat = Kd := ⟨_, rfl⟩
  obtain ⟨D, hD⟩ : ∃ D, (xs.drop 220).take 32 = D := ⟨_, rfl⟩
  obtain ⟨B, hB⟩ : ∃ B, (xs.drop 34).take N = B := ⟨_, rfl⟩
  have hDl : D.length = 32 := by rw [← hD, List.length_take, List.length_drop, hlen]; rfl
  have hBl : B.length = N := by rw [← hB, List.length_take, List.length_drop, hlen]; omega
  have hKb : Kd < 256 := by rw [← hK]; exact UInt8.toNat_lt _
  have l4 := hG ▸ rcLev xs 4 4
  have l8 := hS ▸ rcLev xs 8 4
  have l12 := hM ▸ rcLev xs 12 4
  have l16 := hT ▸ rcLev xs 16 8
  have l26 := hC ▸ rcLev xs 26 8
  have f8w : ∀ k, fromLe ((xs.drop k).take 8) = lev ((xs.drop k).take 8) := fun k => by unfold fromLe; rw [List.take_take, Nat.min_self]
  have f4w : ∀ k, fromLe ((xs.drop k).take 4) = lev ((xs.drop k).take 4) := fun k => by unfold fromLe; rw [List.take_take, Nat.min_eq_right (by omega)]
  have F4 := Lib.hid ((f4w 4).trans hG)
  have F8 := Lib.hid ((f4w 8).trans hS)
  have F12 := Lib.hid ((f4w 12).trans hM)
  have F16 := Lib.hid ((f8w 16).trans hT)
  have F26 := Lib.hid ((f8w 26).trans hC)
  obtain ⟨R, hRv⟩ : ∃ R : Rc, R = ⟨G, S, M, T, (Kd : Int), C, B, D⟩ := ⟨_, rfl⟩
  have hRof : rcOf xs = R := by rw [hRv]; unfold rcOf; rw [hG, hS, hM, hT, hC, hK, hN, hB, hD]
  have hE : rcGetE xs = if R.chk = true ∧ rcL R = xs then 0 else 3 := by unfold rcGetE; rw [if_neg (by simp [hlen]), if_neg (by simp [h]), if_neg (by rw [hN]; omega), hRof]
  have hGt : rcGet xs = if rcGetE xs = 0 then R else rcZ := by unfold rcGet; rw [hRof]
  have hok : R.ok := by rw [← hRof]; exact rcOf_ok xs hlen
  rw [hD] at r220
  rw [hB] at r34
  rw [hK] at c24
  rw [hN] at c25
  have wG : IntKind.u32.wrap (G : Int) = G := by rw [IntKind.wrap_u32]; omega
  have wS : IntKind.u32.wrap (S : Int) = S := by rw [IntKind.wrap_u32]; omega
  have wM : IntKind.u32.wrap (M : Int) = M := by rw [IntKind.wrap_u32]; omega
  have wN := wi64n (k := N) (by omega)
  have wK := wi64n (k := Kd) (by omega)
  have d2 : decide ((180 : Int) < (N : Int)) = false := decide_eq_false (by omega)
  have cb4 : ¬ (c = 4) := by omega
  have cb8 : ¬ (c = 8) := by omega
  have cb12 : ¬ (c = 12) := by omega
  have cb16 : ¬ (c = 16) := by omega
  have cb26 : ¬ (c = 26) := by omega
  have cb34 : ¬ (c = 34) := by omega
  have ci8 : (8 : Int) ≤ (c : Int) := by omega
  have ci12 : (12 : Int) ≤ (c : Int) := by omega
  have ci16 : (16 : Int) ≤ (c : Int) := by omega
  have ci24 : (24 : Int) ≤ (c : Int) := by omega
  have ci34 : (34 : Int) ≤ (c : Int) := by omega
  have H := Lib.hid h
  have HE := Lib.hid hE
  have HGt := Lib.hid hGt
  have HD := Lib.hid hDl
  have HBL := Lib.hid hBl
  have HRV := Lib.hid hRv
  have HOK := Lib.hid hok
  have HX := Lib.hid hlen
  obtain ⟨D0, hD0⟩ : ∃ Z : List UInt8, List.replicate 32 0 = Z := ⟨_, rfl⟩
  have HL0 := Lib.hid (show D0.length = 32 by rw [← hD0]; simp)
  have HD0 := Lib.hid hD0
  clear h hE hGt hDl hBl hRv hRof hok hlen hcut f8w f4w hG hS hM hT hC hK hD hB hN hD0
  obtain ⟨R1, hR1⟩ : ∃ R : Rc, R = ⟨G, S, M, 0, 0, 0, [], D0⟩ := ⟨_, rfl⟩
  have hR1D : R1.D.length = 32 := by rw [hR1]; exact HL0.out
  have KB := Lib.hid (fun W => hR1 ▸ HD0.out ▸ rcBuilt0 G S M W)
  have HR1 := Lib.hid hR1
  have HR1D := Lib.hid hR1D
  have KE := Lib.hid (fun W => evBuilt T (Kd : Int) C W)
  obtain ⟨EV, hEV⟩ : ∃ z : Array Value, z = #[.int .u64 (T : Int), .int .i64 (Kd : Int), .int .u64 (C : Int), .slice none 0 0] := ⟨_, rfl⟩
  rw [← hEV] at KE
  have HEV := Lib.hid hEV
  have HEI := Lib.hid (evInfo EV (by rw [hEV]; rfl))
  clear hR1 hR1D hEV
  go_enter Try.func48, Try.ntmps48
  go_wp2_with fail
  refine named ?_
  intro W0 hW0
  have bW0 : Below w.heap.size w W0 := by rw [hW0]; repeat' (first | exact Below.refl _ _ | (refine Below.alloc ?_ ?_ _; rotate_left; (simp <;> omega)) | refine Below.drew ?_)
  have zW0 := bW0.size
  have HW0 := Lib.hid hW0
  clear hW0
  have Q0 : Hid (RcAt W0 w.heap.size rcZ none 0 0) := by rw [HW0.out]; exact Lib.hid (zeroAt rfl)
  have hh := refHolds_any _ 256 c xs W0 (hr.below bW0) (by omega)
  rw [H.out] at hh
  refine hh.mono ?_
  clear hh
  rintro e W ⟨rfl, hb1⟩
  have bW := below_then bW0 hb1
  have QW := Lib.hid (Q0.out.up hb1)
  have xW := QW.out.lt
  have j24 := (bW.cell (p := ⟨b, o + 24, none⟩) hbl).trans c24
  have j25 := (bW.cell (p := ⟨b, o + 25, none⟩) hbl).trans c25
  have q4 := r4.below bW
  have q8 := r8.below bW
  have q12 := r12.below bW
  have hbW : b < W.heap.size := by have := bW.size; omega
  clear r4 r8 r12 c24 c25
  go_wp2_with fail
  refine wp_region_seg (S := fun w' => Below W.heap.size W w') 0 #[true, true, true, true, true, true, true, true, true, true, true, true, true, true, true] [(0, true), (1, true), (2, true), (3, true), (4, true), (5, true), (6, true), (7, true), (8, true), (9, true), (10, true), (11, true), (12, true), (13, false), (14, false)] (by kernel_rfl) (by kernel_rfl) (fun _ _ d _ _ h => by first | (cases d <;> exact h) | cases h.1) ((Below.refl W.heap.size W).drew) ?_
  have HB := (Below.refl W.heap.size W).drew
  iterate 2 (refine seg_take (v := ?_) rfl (Or.inl ⟨by rfl, ?_⟩) ?_; rotate_left; (focus (intro w' hw'; go_simp <;> with_reducible rfl)); try simp only [Act.put, List.setIfInBounds_toArray, List.set_cons_zero, List.set_cons_succ])
  refine seg_pure (v := .int .u64 (G : Int)) (f := ?_) (args := ?_) rfl (by rfl) (fun w' hw' => ?_) (fun w' hw' => ?_) ?_
  rotate_left 2
  focus (go_simp <;> first | (refine ⟨?_, ?_⟩ <;> with_reducible rfl) | with_reducible rfl)
  focus (exact (F4.out ▸ refFromLe_any _ _ _ _ w' (q4.below hw')))
  try simp only [Act.put, List.setIfInBounds_toArray, List.set_cons_zero, List.set_cons_succ]
  iterate 3 (refine seg_take (v := ?_) rfl (Or.inl ⟨by rfl, ?_⟩) ?_; rotate_left; (focus (intro w' hw'; go_simp <;> with_reducible rfl)); try simp only [Act.put, List.setIfInBounds_toArray, List.set_cons_zero, List.set_cons_succ])
  refine seg_pure (v := .int .u64 (S : Int)) (f := ?_) (args := ?_) rfl (by rfl) (fun w' hw' => ?_) (fun w' hw' => ?_) ?_
  rotate_left 2
  focus (go_simp <;> first | (refine ⟨?_, ?_⟩ <;> with_reducible rfl) | with_reducible rfl)
  focus (exact (F8.out ▸ refFromLe_any _ _ _ _ w' (q8.below hw')))
  try simp only [Act.put, List.setIfInBounds_toArray, List.set_cons_zero, List.set_cons_succ]
  iterate 3 (refine seg_take (v := ?_) rfl (Or.inl ⟨by rfl, ?_⟩) ?_; rotate_left; (focus (intro w' hw'; go_simp <;> with_reducible rfl)); try simp only [Act.put, List.setIfInBounds_toArray, List.set_cons_zero, List.set_cons_succ])
  refine seg_pure (v := .int .u64 (M : Int)) (f := ?_) (args := ?_) rfl (by rfl) (fun w' hw' => ?_) (fun w' hw' => ?_) ?_
  rotate_left 2
  focus (go_simp <;> first | (refine ⟨?_, ?_⟩ <;> with_reducible rfl) | with_reducible rfl)
  focus (exact (F12.out ▸ refFromLe_any _ _ _ _ w' (q12.below hw')))
  try simp only [Act.put, List.setIfInBounds_toArray, List.set_cons_zero, List.set_cons_succ]
  iterate 1 (refine seg_take (v := ?_) rfl (Or.inl ⟨by rfl, ?_⟩) ?_; rotate_left; (focus (intro w' hw'; go_simp <;> with_reducible rfl)); try simp only [Act.put, List.setIfInBounds_toArray, List.set_cons_zero, List.set_cons_succ])
  refine seg_take (v := .agg (rcV R1 none 0 0).toArray) rfl (Or.inl ⟨by rfl, fun w' hw' => ?_⟩) ?_
  focus (exact rex_build rfl #[(0, .int .u32 (G : Int)), (1, .int .u32 (S : Int)), (2, .int .u32 (M : Int))] rfl (KB.out w'))
  try simp only [Act.put, List.setIfInBounds_toArray, List.set_cons_zero, List.set_cons_succ]
  refine seg_run rfl (fun K hK => ?_)
  rw [if_pos (by rfl)]
  refine op_new #[.int .u32 0, .int .u32 0, .int .u32 0, .int .u64 0, .int .i64 0, .int .u64 0, .slice none 0 0, .int .u8 0, .int .u8 0, .int .u8 0, .int .u8 0, .int .u8 0, .int .u8 0, .int .u8 0, .int .u8 0, .int .u8 0, .int .u8 0, .int .u8 0, .int .u8 0, .int .u8 0, .int .u8 0, .int .u8 0, .int .u8 0, .int .u8 0, .int .u8 0, .int .u8 0, .int .u8 0, .int .u8 0, .int .u8 0, .int .u8 0, .int .u8 0, .int .u8 0, .int .u8 0, .int .u8 0, .int .u8 0, .int .u8 0, .int .u8 0, .int .u8 0, .int .u8 0] 69 (fun w => by go_simp) ?_
  intro gL wL eL hL HBl hLsz
  have HB0 := HB.size
  have HB := below_then HB HBl
  refine hK.out _ _ (HB) ?_
  clear hK
  try simp only [Act.put, List.setIfInBounds_toArray, List.set_cons_zero, List.set_cons_succ]
  refine seg_run rfl (fun K hK => ?_)
  rw [if_pos (by rfl)]
  have hLW : W.heap.size ≤ gL := by omega
  refine wp_store_row _ _ _ rfl gL (rcV R1 none 0 0).toArray rfl rfl _ _ hL (rcInfo R1 none 0 0 HR1D.out) (by rw [show (rcV R1 none 0 0).toArray.size = 39 by rw [List.size_toArray, rcV_len _ _ _ _ HR1D.out]]; rfl) (all_oneCell_toArray (rcV_one R1 none 0 0)) ?_
  have HB := below_setRow HB hLW (rcV R1 none 0 0).toArray
  refine hK.out _ _ (HB) ?_
  clear hK
  try simp only [Act.put, List.setIfInBounds_toArray, List.set_cons_zero, List.set_cons_succ]
  refine seg_done (fun _ => ?_)
  refine wpAnyH_done (by kernel_rfl) ?_ _
  have q1 := setRow_heap _ gL _ (rcV R1 none 0 0).toArray _ _ hL
  obtain ⟨V0, hV⟩ : ∃ V0, V0 = wL.setRow gL (rcV R1 none 0 0).toArray := ⟨_, rfl⟩
  rw [← hV] at q1 HB ⊢
  have xL0 : gL < V0.heap.size := by rw [hV]; simp; omega
  have Q1 : Hid (RcAt V0 gL R1 none 0 0) := Lib.hid q1
  have BV0 := below_then bW HB
  have hbV0 : b < V0.heap.size := by have := HB.size; omega
  have q16 := r16.below BV0
  have q26 := r26.below BV0
  have j24 := (HB.cell (p := ⟨b, o + 24, none⟩) hbW).trans j24
  clear hV hL HBl hLsz HB0 q4 q8 q12 eL q1 j25 r16 r26
  obtain ⟨HBW, hHBW⟩ : ∃ H : Below W.heap.size W V0, True := ⟨HB, trivial⟩
  clear HB hHBW
  go_wp2_with fail
  refine wp_region_last (S := fun w' => Below V0.heap.size V0 w') 12 #[true, true, true, true, true, true, true, true, true, true, true, true, false] [(0, true), (1, true), (3, true), (4, true), (5, true), (6, true), (7, true), (8, true), (2, false), (9, false), (10, true), (11, true)] (by kernel_rfl) (by kernel_rfl) (fun _ _ d _ _ h => by cases d <;> exact h) ((Below.refl _ V0).drew) ?_
  iterate 8 (refine seg_take (v := ?_) rfl (Or.inl ⟨by rfl, ?_⟩) ?_; rotate_left; (focus (intro w' hw'; have jj := (hw'.cell (p := ⟨b, o + 24, none⟩) hbV0).trans j24; go_simp <;> with_reducible rfl)); try simp only [Act.put, List.setIfInBounds_toArray, List.set_cons_zero, List.set_cons_succ])
  refine seg_run rfl (fun K hK => ?_)
  go_simp
  have HX6 := (Below.refl V0.heap.size V0).drew
  have hh := refFromLe_any _ _ _ _ V0.drew (q16.below HX6)
  rw [F16.out] at hh
  refine hh.mono ?_
  clear hh
  rintro e_ w6 ⟨rfl, rfl⟩
  refine hK.out _ _ (HX6) ?_
  clear hK
  try simp only [Act.put, List.setIfInBounds_toArray, List.set_cons_zero, List.set_cons_succ]
  refine seg_run rfl (fun K hK => ?_)
  go_simp
  have hh := refFromLe_any _ _ _ _ V0.drew (q26.below HX6)
  rw [F26.out] at hh
  refine hh.mono ?_
  clear hh
  rintro e_ w6 ⟨rfl, rfl⟩
  refine hK.out _ _ (HX6) ?_
  clear hK
  try simp only [Act.put, List.setIfInBounds_toArray, List.set_cons_zero, List.set_cons_succ]
  refine seg_take (v := .agg EV) rfl (Or.inl ⟨by rfl, fun w' hw' => ?_⟩) ?_
  focus (exact rex_build rfl #[(0, .int .u64 (T : Int)), (1, .int .i64 (Kd : Int)), (2, .int .u64 (C : Int))] rfl (KE.out w'))
  try simp only [Act.put, List.setIfInBounds_toArray, List.set_cons_zero, List.set_cons_succ]
  iterate 1 (refine seg_take (v := ?_) rfl (Or.inl ⟨by rfl, ?_⟩) ?_; rotate_left; (focus (intro w' hw'; have jj := (hw'.cell (p := ⟨b, o + 24, none⟩) hbV0).trans j24; go_simp <;> with_reducible rfl)); try simp only [Act.put, List.setIfInBounds_toArray, List.set_cons_zero, List.set_cons_succ])
  refine seg_done ?_
  refine last_run rfl (fun K hK => ?_)
  rw [if_pos (by rfl)]
  refine wp_store_mid 65 _ _ rfl gL 3 EV rfl rfl (by rw [HEV.out]; exact (Q1.out.up HX6).thereK HR1D.out 3 4 (by omega)) HEI.out (by rw [HEV.out]; simp [Value.oneCell']) ?_
  refine hK.out _ _ ?_
  clear hK
  try simp only [Act.put, List.setIfInBounds_toArray, List.set_cons_zero, List.set_cons_succ]
  have q2 : RcAt (V0.drew.setCells gL 3 EV.toList) gL { R1 with t := T, k := (Kd : Int), c := C } none 0 0 := by rw [HEV.out]; exact (Q1.out.up HX6).setE T (Kd : Int) C none 0 0
  obtain ⟨V1, hV1⟩ : ∃ V1, V1 = V0.drew.setCells gL 3 EV.toList := ⟨_, rfl⟩
  rw [← hV1] at q2 ⊢
  have b2 : Below gL V0 V1 := by rw [hV1]; exact setCells_below (Nat.le_refl _) _ _ _ _ (HX6.mono (by omega))
  obtain ⟨R2, hR2⟩ : ∃ R : Rc, R = ⟨G, S, M, T, (Kd : Int), C, [], D0⟩ := ⟨_, rfl⟩
  have q2 : RcAt V1 gL R2 none 0 0 := by rw [hR2]; rw [HR1.out] at q2; exact q2
  have hR2D : R2.D.length = 32 := by rw [hR2]; exact HL0.out
  have Q2 := Lib.hid q2
  have HR2 := Lib.hid hR2
  have HR2D := Lib.hid hR2D
  have xL1 : gL < V1.heap.size := Q2.out.lt
  have j6 := q2.c6
  have BV1 := bW.trans ((HBW.mono (by omega)).trans (b2.mono (by omega)))
  have q34 := r34.below BV1
  obtain ⟨Qs, hQs⟩ : ∃ Q : Nat, Q = 34 + N := ⟨_, rfl⟩
  have qw : IntKind.i64.wrap (34 + (N : Int)) = (Qs : Int) := by rw [IntKind.wrap_i64]; omega
  have qc : (Qs : Int) ≤ (c : Int) := by omega
  have qm : max (Qs : Int) 0 = (Qs : Int) := by omega
  have q34i : (34 : Int) ≤ (Qs : Int) := by omega
  have qN : Qs - 34 = N := by omega
  clear hV1 q2 hR2 hR2D q16 q26 j24 HX6 r34 hQs
  go_wp2_with fail
  refine wp_region_last (S := fun w' => Below V1.heap.size V1 w') 10 #[true, true, true, true, true, true, true, true, true, true, false] [(0, true), (1, true), (2, true), (3, true), (4, true), (5, true), (6, true), (7, false), (8, true), (9, true)] (by kernel_rfl) (by kernel_rfl) (fun _ _ d _ _ h => by cases d <;> exact h) ((Below.refl _ V1).drew) ?_
  iterate 7 (refine seg_take (v := ?_) rfl (Or.inl ⟨by rfl, ?_⟩) ?_; rotate_left; (focus (intro w' hw'; have jj := (hw'.cell (p := ⟨gL, 6, none⟩) xL1).trans j6; go_simp <;> with_reducible rfl)); try simp only [Act.put, List.setIfInBounds_toArray, List.set_cons_zero, List.set_cons_succ])
  refine seg_run rfl (fun K hK => ?_)
  rw [if_pos (by rfl)]
  have HB := (Below.refl V1.heap.size V1).drew
  refine op_appB _ _ rfl HB (Nat.le_refl _) HB.size none 0 0 [] rfl ⟨rfl, .inl ⟨rfl, rfl⟩⟩ (some ⟨b, o + 34, none⟩) N (c - 34) B rfl (q34.below HB) (by omega) N B (by omega) rfl ?_
  intro A4 c4 w4 ho4 hb4 hg4
  refine hK.out _ _ (hb4) ?_
  clear hK
  try simp only [Act.put, List.setIfInBounds_toArray, List.set_cons_zero, List.set_cons_succ]
  iterate 2 (refine seg_take (v := ?_) rfl (Or.inl ⟨by rfl, ?_⟩) ?_; rotate_left; (focus (intro w' hw'; have jj := (hw'.cell (p := ⟨gL, 6, none⟩) xL1).trans j6; go_simp <;> with_reducible rfl)); try simp only [Act.put, List.setIfInBounds_toArray, List.set_cons_zero, List.set_cons_succ])
  refine seg_done ?_
  refine last_run rfl (fun K hK => ?_)
  go_simp
  have e1 := (hb4.cell (p := ⟨gL, 6, none⟩) xL1).trans j6
  have e2 := (hb4.frozen (p := ⟨gL, 6, none⟩) xL1).trans (Q2.out.fr 6)
  go_simp
  refine hK.out _ _ ?_
  clear hK
  try simp only [Act.put, List.setIfInBounds_toArray, List.set_cons_zero, List.set_cons_succ]
  have q3 := (Q2.out.up hb4).setB (A' := A4) (n' := N) (c' := c4) B
  have r3 := ho4.rd
  have o4 : 0 < N → ∀ a, A4 = some a → V1.heap.size ≤ a.block := fun h0 a e => by
    obtain ⟨g', he, h1, h2⟩ := ho4.addr h0
    rw [e] at he; injection he with he; subst he; exact h1
  have r3 := rd_far r3 ⟨gL, 6, none⟩ (.slice A4 N c4) (fun h0 a e => by have := o4 h0 a e; show a.block ≠ gL; omega)
  obtain ⟨V2, hV2⟩ : ∃ V2, V2 = w4.setCell ⟨gL, 6, none⟩ (.slice A4 N c4) := ⟨_, rfl⟩
  have b3 : Below gL V1 V2 := by rw [hV2]; exact (hb4.mono (show gL ≤ V1.heap.size by omega)).setCell (p := ⟨gL, 6, none⟩) (Nat.le_refl gL) _
  rw [← hV2] at q3 r3 ⊢
  have q3 : RcAt V2 gL { R with D := dgK D 0 } A4 N c4 := by
    have e : ({ R with D := dgK D 0 } : Rc) = { R2 with b := B } := by rw [HR2.out, HRV.out, dgK_zero, HD0.out]
    rw [e]; exact q3
  have hRb3 : RdB V2 A4 N c4 R.b := by rw [show R.b = B by rw [HRV.out]]; exact r3
  have HB3 := HBW.trans ((b2.mono hLW).trans (b3.mono hLW))
  have O4 := Lib.hid o4
  have Q3 := Lib.hid q3
  have xL2 : gL < V2.heap.size := q3.lt
  clear hV2 q3 r3 o4 ho4 hg4 hb4 q34 j6 qw qc qm q34i qN
  go_wp2_with fail
  go_loopw [6] (Rg12 W V2.heap.size gL R A4 N c4 D) (fun v _ => 32 - (intOf v).toNat)
  case atStart => exact ⟨0, by omega, rfl, Q3.out, hRb3, HB3, Nat.le_refl _⟩
  case round =>
  obtain ⟨k, hk, rfl, hrowL, hRb, HB, xL9⟩ := hrel
  obtain ⟨V, rfl⟩ : ∃ V : World, V = wr := ⟨_, rfl⟩
  have xL : gL < V.heap.size := by omega
  clear hRb3 HB3
  by_cases hlt : k < 32
  · have e1 := (r220.below (below_then bW HB)).cellS k (by omega)
    rw [Nat.add_assoc] at e1
    have g1 := (cell_of_row V gL (7 + k) _ _ _ hrowL).trans ((rcV7 { R with D := dgK D k } A4 N c4 k).trans (dgK_at D k hlt HD.out))
    have g3 : V.frozen? ⟨gL, 7 + k, none⟩ = false := frozen_of_row _ _ _ _ _ hrowL
    have l1 : (k : Int) < 32 := by omega
    have l2 : (220 : Int) + (k : Int) < 256 := by omega
    have hs := dgK_set R A4 N c4 D k hlt HD.out
    have hfar := fun v => rd_far hRb ⟨gL, 7 + k, none⟩ v (fun h0 a e => by have := O4.out h0 a e; show a.block ≠ gL; omega)
    generalize D.getD k 0 = u9 at e1 hs
    have HS := Lib.hid hs
    have HFar := Lib.hid hfar
    clear hs hfar hRb
    have HRL := Lib.hid hrowL
    clear hrowL
    go_wp2_with fail
    go_roundw
    case rel => exact ⟨k + 1, by omega, by go_num, by (unfold RcAt; rw [setc_rowT HRL.out, HS.out]), HFar.out _, HB.setCell hLW _, by simp [World.setCell]; omega⟩
    case measure => simp [intOf]; omega
  obtain rfl : k = 32 := by omega
  rw [dgK_all D HD.out, show ({ R with D := D } : Rc) = R by rw [HRV.out]] at hrowL
  have BV := below_then bW HB
  have QR := Lib.hid (QW.out.up HB)
  have QL := Lib.hid hrowL
  have HRD := Lib.hid HOK.out.2.2.2.2.2.2
  have hge := HE.out
  have hgt := HGt.out
  have oW : 0 < N → ∀ a, A4 = some a → w.heap.size < a.block := fun h0 a e => by have := O4.out h0 a e; have := bW.size; omega
  have OW := Lib.hid oW
  clear hrowL oW
  cases hchk : R.chk with
  | false =>
    rw [if_neg (by simp [hchk])] at hge
    rw [if_neg (by rw [hge]; decide)] at hgt
    have HGE2 := Lib.hid hge
    have HGT2 := Lib.hid hgt
    have hp := refPut12_any R A4 N c4 V HOK.out hRb
    unfold rcPutL rcPutE at hp
    rw [if_neg (by simp [hchk]), if_neg (by simp [hchk])] at hp
    have HP := Lib.hid hp
    clear hp hchk hge hgt
    go_wp2_with (refine rc_load rfl _ rfl rfl QL.out HRD.out ?_)
    refine HP.out.mono ?_
    rintro e w5 ⟨A5, n5, c5, rfl, ho5, hb5⟩
    have QR5 := Lib.hid (QR.out.up hb5)
    go_wp2_with (refine rc_store rfl _ _ rfl rfl (r := rcZ) (A := none) (n := 0) (c := 0) (congrArg Value.agg zeroRc) QR5.out rcZD rcZD ?_)
    refine bodyPost_ret (rresults_row_tmp Try.results48 _ _ w.heap.size 69 _ (0, 0) _ rfl (RcAt.setRow (r' := rcZ) (A' := none) (n' := 0) (c' := 0) QR5.out) Try.underlying69 rfl (rcInfo rcZ none 0 0 rcZD)) rfl ?_
    exact ⟨none, 0, 0, by rw [HGT2.out, HGE2.out]; rfl, by rw [HGT2.out]; exact RdB.nilB _, fun h => absurd h (Nat.lt_irrefl 0), below_setRow (below_then BV hb5) (Nat.le_refl _) _⟩
  | true =>
    have hp := refPut12_any R A4 N c4 V HOK.out hRb
    unfold rcPutL rcPutE at hp
    rw [if_pos hchk, if_pos hchk] at hp
    have HP := Lib.hid hp
    obtain ⟨Y, hY⟩ : ∃ Y, rcL R = Y := ⟨_, rfl⟩
    rw [hY] at HP hge
    by_cases heq : Y = xs
    · rw [if_pos ⟨hchk, heq⟩] at hge
      rw [if_pos hge] at hgt
      have HGE2 := Lib.hid hge
      have HGT2 := Lib.hid hgt
      have HQ := Lib.hid heq
      clear hp hchk hge hgt hY heq
      go_wp2_with (refine rc_load rfl _ rfl rfl QL.out HRD.out ?_)
      refine HP.out.mono ?_
      rintro e w5 ⟨A5, n5, c5, rfl, ho5, hb5⟩
      have QR5 := Lib.hid (QR.out.up hb5)
      have QL5 := Lib.hid (QL.out.up hb5)
      have B5 := below_then BV hb5
      have hRb5 := hRb.below hb5
      go_wp2_with fail
      have hh := bytes_any _ _ _ _ _ _ xs Y w5 (hr.below B5) ho5.rd
      rw [decide_eq_true HQ.out.symm] at hh
      refine hh.mono ?_
      clear hh
      rintro e w6 ⟨rfl, rfl⟩
      go_wp2_with (first | (refine rc_load rfl _ rfl rfl QL5.out HRD.out ?_) | (refine rc_store rfl _ _ rfl rfl rfl QR5.out HRD.out rcZD ?_))
      refine bodyPost_ret (rresults_row_tmp Try.results48 _ _ w.heap.size 69 _ (0, 0) _ rfl (RcAt.setRow (r' := R) (A' := A4) (n' := N) (c' := c4) QR5.out) Try.underlying69 rfl (rcInfo R A4 N c4 HRD.out)) rfl ?_
      exact ⟨A4, N, c4, by rw [HGT2.out, HGE2.out]; rfl, by rw [HGT2.out]; exact rd_row hRb5 w.heap.size _ (fun h0 a e => by have := OW.out h0 a e; omega), fun h0 a e => Nat.le_of_lt (OW.out h0 a e), below_setRow B5 (Nat.le_refl _) _⟩
    · rw [if_neg (fun h => heq h.2)] at hge
      rw [if_neg (by rw [hge]; decide)] at hgt
      have HGE2 := Lib.hid hge
      have HGT2 := Lib.hid hgt
      have HQ := Lib.hid heq
      clear hp hchk hge hgt hY heq
      go_wp2_with (refine rc_load rfl _ rfl rfl QL.out HRD.out ?_)
      refine HP.out.mono ?_
      rintro e w5 ⟨A5, n5, c5, rfl, ho5, hb5⟩
      have QR5 := Lib.hid (QR.out.up hb5)
      have B5 := below_then BV hb5
      go_wp2_with fail
      have hh := bytes_any _ _ _ _ _ _ xs Y w5 (hr.below B5) ho5.rd
      rw [decide_eq_false (fun h => HQ.out h.symm)] at hh
      refine hh.mono ?_
      clear hh
      rintro e w6 ⟨rfl, rfl⟩
      go_wp2_with (refine rc_store rfl _ _ rfl rfl (r := rcZ) (A := none) (n := 0) (c := 0) (congrArg Value.agg zeroRc) QR5.out rcZD rcZD ?_)
      refine bodyPost_ret (rresults_row_tmp Try.results48 _ _ w.heap.size 69 _ (0, 0) _ rfl (RcAt.setRow (r' := rcZ) (A' := none) (n' := 0) (c' := 0) QR5.out) Try.underlying69 rfl (rcInfo rcZ none 0 0 rcZD)) rfl ?_
      exact ⟨none, 0, 0, by rw [HGT2.out, HGE2.out]; rfl, by rw [HGT2.out]; exact RdB.nilB _, fun h => absurd h (Nat.lt_irrefl 0), below_setRow B5 (Nat.le_refl _) _⟩
theorem refGet12_any (A : Option Addr) (n c : Nat) (xs : List UInt8) (w : World) (hr : RdB w A n c xs) :
    Calls Try.prog 48 #[.slice A n c] w (RetRc w (rcGet xs) (rcGetE xs)) := by
  by_cases hn : n = 256
  · subst hn
    have hl := hr.2.1
    cases h : crcHolds xs with
    | false =>
      have e : rcGetE xs = 6 := by unfold rcGetE; rw [if_neg (by simp [hl]), if_pos h]
      have e2 : rcGet xs = rcZ := by unfold rcGet; rw [if_neg (by rw [e]; decide)]
      rw [e, e2]; exact refGet12_sum A c xs w hr h
    | true =>
      by_cases hg : (xs.getD 25 0).toNat ≤ 180
      · exact refGet12_main A c xs w hr h hg
      · have e : rcGetE xs = 3 := by unfold rcGetE; rw [if_neg (by simp [hl]), if_neg (by simp [h]), if_pos (by omega)]
        have e2 : rcGet xs = rcZ := by unfold rcGet; rw [if_neg (by rw [e]; decide)]
        rw [e, e2]; exact refGet12_form A c xs w hr h hg
  · have e : rcGetE xs = 2 := by unfold rcGetE; rw [if_pos (by rw [hr.2.1]; exact hn)]
    have e2 : rcGet xs = rcZ := by unfold rcGet; rw [if_neg (by rw [e]; decide)]
    rw [e, e2]; exact refGet12_early A n c xs w hr hn
end Go.Proofs.Ytnfepikgbdeomaa
