/-
  The laws UdpBack, UdpCut.
-/
import Derived.Test.YtndabecdfccjlaaUdpC
namespace Go.Proofs.Ytndabecdfccjlaa
set_option maxRecDepth 20000
open Go.RowKit
set_option linter.unusedVariables false
set_option linter.unusedSimpArgs false
set_option maxHeartbeats 8000000

theorem and_127 (a : Int) : bits .and .i64 a 127 = a % 128 := by
  show IntKind.i64.wrap ((BitVec.ofInt 64 a &&& BitVec.ofInt 64 127).toNat : Nat) = _
  have e2 : (BitVec.ofInt 64 a &&& BitVec.ofInt 64 127).toNat = (BitVec.ofInt 64 a).toNat % 128 := by
    rw [BitVec.toNat_and, show (BitVec.ofInt 64 127).toNat = 2 ^ 7 - 1 from rfl, Nat.and_two_pow_sub_one_eq_mod]
  rw [e2, BitVec.toNat_ofInt, IntWalk.i64_in _ (by omega)]
  omega
theorem udOk_iff (f t : Int) (n : Nat) : udOk f t n = true ↔ (1 ≤ f ∧ f ≤ 65535) ∧ (1 ≤ t ∧ t ≤ 65535) ∧ n ≤ 120 := by
  unfold udOk portOk
  rw [Bool.and_eq_true, Bool.and_eq_true, decide_eq_true_iff, decide_eq_true_iff, decide_eq_true_iff]

theorem udpBack_no (src dst : Nat) (f t : Int) (A : Option Addr) (n c : Nat) (xs : List UInt8) (at_ : Int) (by_ : Nat) (w : World) (hsrc : src < 4294967296) (hdst : dst < 4294967296) (hr : RdB w A n c xs) (h : udOk f t n = false) :
    Calls Try.prog 8 #[.int .u32 src, .int .u32 dst, .int .i64 f, .int .i64 t, .slice A n c, .int .i64 at_, .int .u8 by_] w (RetV w (.bool true)) := by
  have hn63 := hr.n63
  have hE : udPutE f t n = 2 := by unfold udPutE; rw [if_neg (by rw [h]; decide)]
  go_enter Try.func8, Try.ntmps8
  go_wp2_with fail
  have hh := udpPut_any src dst f t A n c xs w hsrc hdst hr
  rw [hE] at hh
  refine hh.mono ?_
  clear hh
  rintro e w2 ⟨A2, n2, c2, rfl, ho2, hb2⟩
  by_cases h1 : 300 < n
  · have d1 : decide ((300 : Int) < (n : Int)) = true := decide_eq_true (by omega)
    go_wp2_with fail
    refine (heads23 _).mono ?_
    rintro e w9 ⟨rfl, hb9⟩
    go_wp2
    go_ret
    exact ⟨rfl, below_then hb2 hb9⟩
  · have d1 : decide ((300 : Int) < (n : Int)) = false := decide_eq_false (by omega)
    go_wp2_with fail
    refine (heads23 _).mono ?_
    rintro e w9 ⟨rfl, hb9⟩
    go_wp2
    go_ret
    exact ⟨rfl, below_then hb2 hb9⟩

theorem udpBack_yes (src dst : Nat) (f t : Nat) (A : Option Addr) (n c : Nat) (xs : List UInt8) (at_ : Int) (by_ : Nat) (w : World) (hsrc : src < 4294967296) (hdst : dst < 4294967296) (hr : RdB w A n c xs) (hby : by_ < 256) (h : udOk (f : Int) (t : Int) n = true) :
    Calls Try.prog 8 #[.int .u32 src, .int .u32 dst, .int .i64 (f : Int), .int .i64 (t : Int), .slice A n c, .int .i64 at_, .int .u8 by_] w (RetV w (.bool true)) := by
  have hn63 := hr.n63
  have hl := hr.2.1
  obtain ⟨⟨g1, g2⟩, ⟨g3, g4⟩, g5⟩ := (udOk_iff _ _ _).1 h
  have hE : udPutE (f : Int) (t : Int) n = 0 := by unfold udPutE; rw [if_pos h]
  have hL : udPutL src dst (f : Int) (t : Int) xs = udL src dst f t xs := by unfold udPutL; rw [hl, if_pos h]; rfl
  have hb := ud_back src dst f t xs [] (by omega) (by omega) (by omega) (by omega) (by omega)
  rw [List.append_nil] at hb
  have ht := fun k v hk hk2 hv => ud_turned src dst f t xs k v (by omega) hk hk2 hv
  have hPl := udL_len src dst f t xs
  obtain ⟨P, hP⟩ : ∃ P, udL src dst f t xs = P := ⟨udL src dst f t xs, rfl⟩
  rw [hP] at hb ht hL hPl
  rw [hl] at hPl ht
  obtain ⟨b1, b2, b3, b4, b5⟩ := hb
  have HB1 := Lib.hid b1
  have HB2 := Lib.hid b2
  have HB3 := Lib.hid b3
  have HB4 := Lib.hid b4
  have HE := Lib.hid hE
  have HL := Lib.hid hL
  have HT := Lib.hid ht
  obtain ⟨Z, hZ⟩ : ∃ Z, fld P 6 2 = Z := ⟨_, rfl⟩
  rw [hZ] at b5
  have HZ := Lib.hid hZ
  have k5 : ((Z : Int) == 0) = false := by rw [beq_eq_false_iff_ne]; omega
  clear b1 b2 b3 b4 hE hL ht hP hZ
  have d1 : decide ((300 : Int) < (n : Int)) = false := decide_eq_false (by omega)
  have kf : ((f : Int) != (f : Int)) = false := by simp
  have kt : ((t : Int) != (t : Int)) = false := by simp
  have kl : IntKind.i64.wrap (8 + (n : Int)) = 8 + (n : Int) := IntWalk.i64_in _ (by omega)
  have kn : ((8 + (n : Int)) != (8 + (n : Int))) = false := by simp
  have ka := and_127 at_
  obtain ⟨q, hq⟩ : ∃ q : Nat, at_ % 128 = (q : Nat) := ⟨(at_ % 128).toNat, by omega⟩
  rw [hq] at ka
  clear hq
  go_enter Try.func8, Try.ntmps8
  go_wp2_with fail
  have hh := udpPut_any src dst (f : Int) (t : Int) A n c xs w hsrc hdst hr
  rw [HE.out, HL.out] at hh
  refine hh.mono ?_
  clear hh
  rintro e w2 ⟨A2, n2, c2, rfl, ho2, hb2⟩
  have hn2 : n2 = 8 + n := by rw [← ho2.len, hPl]
  subst hn2
  go_wp2_with fail
  have hh := udpGet_any src dst A2 (8 + n) c2 P w2 hsrc hdst ho2.rd (by omega)
  rw [HB1.out, HB2.out, HB3.out, HB4.out] at hh
  refine hh.mono ?_
  clear hh
  rintro e w3 ⟨A3, n3, c3, rfl, hr3, hb3⟩
  have B3 := below_then hb2 hb3
  go_wp2_with fail
  refine (bytes_any A3 A n3 c3 n c xs xs w3 hr3 (hr.below B3)).mono ?_
  rintro e w4 ⟨rfl, rfl⟩
  rw [decide_eq_true rfl]
  have o3 := ho2.rd.below hb3
  obtain ⟨g2, rfl, hg21, hg22⟩ := ho2.addr (by omega)
  have hc2 := o3.2.2.1
  have k8 : (8 : Int) ≤ (c2 : Int) := by omega
  have kc : ¬ (c2 = 6) := by omega
  have r6 := (o3.cutS 6 (8 + n - 6) (by omega) (by omega)).take 2 (by omega)
  rw [Nat.zero_add] at r6
  have e6 : fromBe ((P.drop 6).take 2) = Z := by
    rw [← HZ.out]; unfold fromBe fld; rw [List.take_of_length_le (by rw [r6.2.1]; omega)]
  have hz64 : Z < 18446744073709551616 := by rw [← HZ.out]; have := fld_lt P 6 2; omega
  go_wp2_with fail
  have hh := refFromBe_any (some ⟨g2, 6, none⟩) 2 (c2 - 6) _ w3 r6
  rw [e6] at hh
  refine hh.mono ?_
  clear hh e6 r6
  rintro e w4 ⟨rfl, rfl⟩
  by_cases hb0 : by_ = 0
  · subst hb0
    go_wp2_with fail
    refine (heads23 _).mono ?_
    rintro e w9 ⟨rfl, hb9⟩
    go_wp2
    go_ret
    exact ⟨rfl, below_then B3 hb9⟩
  have d4 : ((by_ : Int) == 0) = false := by rw [beq_eq_false_iff_ne]; omega
  by_cases hq1 : 8 + n ≤ q
  · have d5 : decide (8 + (n : Int) ≤ (q : Int)) = true := decide_eq_true (by omega)
    go_wp2_with fail
    refine (heads23 _).mono ?_
    rintro e w9 ⟨rfl, hb9⟩
    go_wp2
    go_ret
    exact ⟨rfl, below_then B3 hb9⟩
  have d5 : decide (8 + (n : Int) ≤ (q : Int)) = false := decide_eq_false (by omega)
  by_cases hq2 : 4 ≤ q ∧ q < 8
  · have d6 : decide ((4 : Int) ≤ (q : Int)) = true := decide_eq_true (by omega)
    have d7 : decide ((q : Int) < 8) = true := decide_eq_true (by omega)
    go_wp2_with fail
    refine (heads23 _).mono ?_
    rintro e w9 ⟨rfl, hb9⟩
    go_wp2
    go_ret
    exact ⟨rfl, below_then B3 hb9⟩
  have hd : (decide ((4 : Int) ≤ (q : Int)) = false) ∨ (decide ((4 : Int) ≤ (q : Int)) = true ∧ decide ((q : Int) < 8) = false) := by
    by_cases h4 : 4 ≤ q
    · exact .inr ⟨decide_eq_true (by omega), decide_eq_false (by omega)⟩
    · exact .inl (decide_eq_false (by omega))
  have kq1 : (0 : Int) ≤ (q : Int) := by omega
  have kq2 : (q : Int) < 8 + (n : Int) := by omega
  obtain ⟨U, hU⟩ : ∃ U, P.getD q 0 = U := ⟨_, rfl⟩
  have hx : bits .xor .u8 (U.toNat : Int) (by_ : Int) = ((U ^^^ UInt8.ofNat by_).toNat : Int) := by
    rw [u8_xor_nat _ _ U.toNat_lt hby, UInt8.toNat_xor, UInt8.toNat_ofNat', Nat.mod_eq_of_lt (by omega)]
  have hbn : UInt8.ofNat by_ ≠ 0 := by intro h; apply hb0; have := congrArg UInt8.toNat h; rw [UInt8.toNat_ofNat', Nat.mod_eq_of_lt (by omega)] at this; exact this
  have hvn : U ^^^ UInt8.ofNat by_ ≠ U := xor_ne _ _ hbn
  obtain ⟨V, hV⟩ : ∃ V, U ^^^ UInt8.ofNat by_ = V := ⟨_, rfl⟩
  rw [hV] at hx hvn
  have hT := HT.out q V (by omega) (by omega) (by rw [hU]; exact hvn)
  obtain ⟨L, hL⟩ : ∃ L, P.set q V = L := ⟨_, rfl⟩
  rw [hL] at hT
  obtain ⟨er, her⟩ : ∃ er, udGetE src dst L = er := ⟨udGetE src dst L, rfl⟩
  rw [her] at hT
  have k9 : (er != 0) = true := by rw [bne_iff_ne]; exact hT
  have HLL := Lib.hid hL
  have HU := Lib.hid hU
  have HER := Lib.hid her
  clear hvn hV hU hL her hT hq2
  rcases hd with d6 | ⟨d6, d7⟩
  all_goals
    go_wp2_with (at_builtin; refine wp_appB rfl _ _ rfl ((below_self w3).alloc (Nat.le_refl _) _) (Nat.le_refl _) (by simp) _ _ _ _ rfl (own0 w3) (some ⟨g2, 0, none⟩) (8 + n) c2 P rfl (o3.alloc _) (by omega) (8 + n) P (by omega) (by simp) ?_; intro A9 c9 w9 ho9 hb9 hg9; obtain ⟨g9, rfl, hg91, hg92⟩ := ho9.addr (by omega); have c9q := ho9.rd.cellS q (by omega); rw [Nat.zero_add, HU.out] at c9q; have f9q := ho9.free q)
    have hset := ho9.set_ q V
    rw [HLL.out] at hset
    have bV := hb9.setCell (p := ⟨g9, q, none⟩) hg91 (.int .u8 (V.toNat : Int))
    have hg := udpGet_any src dst (some ⟨g9, 0, none⟩) (8 + n) c9 L _ hsrc hdst hset.rd (by omega)
    rw [HER.out] at hg
    refine hg.mono ?_
    clear hg
    rintro e w10 ⟨A10, n10, c10, rfl, hr10, hb10⟩
    have B10 := below_then (below_then B3 bV) hb10
    go_wp2_with fail
    refine (heads23 _).mono ?_
    rintro e w11 ⟨rfl, hb11⟩
    go_wp2
    go_ret
    exact ⟨rfl, below_then B10 hb11⟩

theorem udpBack_law (src dst : Nat) (f t : Int) (A : Option Addr) (n c : Nat) (xs : List UInt8) (at_ : Int) (by_ : Nat) (w : World) (hsrc : src < 4294967296) (hdst : dst < 4294967296) (hf : -9223372036854775808 ≤ f ∧ f ≤ 9223372036854775807) (ht : -9223372036854775808 ≤ t ∧ t ≤ 9223372036854775807) (hr : RdB w A n c xs) (hat : -9223372036854775808 ≤ at_ ∧ at_ ≤ 9223372036854775807) (hby : by_ < 256) :
    Calls Try.prog 8 #[.int .u32 src, .int .u32 dst, .int .i64 f, .int .i64 t, .slice A n c, .int .i64 at_, .int .u8 by_] w (RetV w (.bool true)) := by
  cases h : udOk f t n with
  | false => exact udpBack_no src dst f t A n c xs at_ by_ w hsrc hdst hr h
  | true =>
    obtain ⟨⟨g1, g2⟩, ⟨g3, g4⟩, g5⟩ := (udOk_iff _ _ _).1 h
    obtain ⟨p, rfl⟩ : ∃ p : Nat, f = (p : Int) := ⟨f.toNat, by omega⟩
    obtain ⟨q, rfl⟩ : ∃ q : Nat, t = (q : Int) := ⟨t.toNat, by omega⟩
    exact udpBack_yes src dst p q A n c xs at_ by_ w hsrc hdst hr hby h
end Go.Proofs.Ytndabecdfccjlaa
