/-
  The law SegBack.
-/
import Derived.Test.YtndabecdfccjlaaSegE
import Derived.StillTailTactics
namespace Go.Proofs.Ytndabecdfccjlaa
set_option maxRecDepth 20000
open Go.RowKit
set_option linter.unusedVariables false
set_option linter.unusedSimpArgs false
set_option maxHeartbeats 8000000

theorem segBack_main (src dst : Nat) (sp dp sq ak fl wn : Nat) (A : Option Addr) (n c : Nat) (xs : List UInt8) (at_ : Int) (by_ : Nat) (w : World) (hsrc : src < 4294967296) (hdst : dst < 4294967296) (hq : sq < 4294967296) (ha : ak < 4294967296) (hr : RdB w A n c xs) (hby : by_ < 256) (hck : sgCheck (sp : Int) (dp : Int) (fl : Int) (wn : Int) n = true) :
    Calls Try.prog 4 #[.int .u32 src, .int .u32 dst, .agg #[.int .i64 (sp : Int), .int .i64 (dp : Int), .int .u32 sq, .int .u32 ak, .int .i64 (fl : Int), .int .i64 (wn : Int), .slice A n c], .int .i64 at_, .int .u8 by_] w (RetV w (.bool true)) := by
  have hn63 := hr.n63
  have hl := hr.2.1
  have hn : n ≤ 64 := ((sgCheck_iff _ _ _ _ _).1 hck).2.2.2.2
  have hb := seg_back src dst sp dp sq ak fl wn xs hq ha (by rw [hl]; exact hck)
  have ht := fun k v hk hv => seg_turned src dst sp dp sq ak fl wn xs k v hk hv
  have hE : sgPutE (sp : Int) (dp : Int) (fl : Int) (wn : Int) xs = 0 := by unfold sgPutE; rw [hl, if_pos hck]
  have hL : sgPutL src dst (sp : Int) (dp : Int) sq ak (fl : Int) (wn : Int) xs = sgL src dst (sgH sp dp sq ak fl wn ++ xs) := by unfold sgPutL; rw [hl, if_pos hck]; rfl
  obtain ⟨P, hP⟩ : ∃ P, sgL src dst (sgH sp dp sq ak fl wn ++ xs) = P := ⟨sgL src dst (sgH sp dp sq ak fl wn ++ xs), rfl⟩
  rw [hP] at hb ht hL
  obtain ⟨hPl, hg1, hg2⟩ := hb
  rw [hl] at hPl
  have HE := Lib.hid hE
  have HL := Lib.hid hL
  have HG1 := Lib.hid hg1
  have HG2 := Lib.hid hg2
  have HT := Lib.hid ht
  clear hE hL hg1 hg2 ht hP
  go_enter Try.func4, Try.ntmps4
  go_wp2_with fail
  refine named ?_
  intro W1 hW1
  have bW1 : Below w.heap.size w W1 := by rw [hW1]; repeat' (first | exact Below.refl _ _ | (refine Below.alloc ?_ ?_ _; rotate_left; (simp <;> omega)) | refine Below.drew ?_)
  have zW1 := bW1.size
  have P1 : SgAt W1 w.heap.size sp dp sq ak fl wn A n c := by rw [hW1]; exact row1 ..
  have HW1 := Lib.hid hW1
  clear hW1
  refine (refCheck24_any sp dp sq ak fl wn A n c W1 hn63).mono ?_
  rintro e w2 ⟨rfl, hb2⟩
  rw [hck]
  have P2 := P1.below hb2 P1.lt
  have B2 := below_then bW1 hb2
  obtain ⟨a0, a1, a2, a3, a4, a5, a6, af⟩ := P2.cells
  clear af
  go_wp2_with fail
  clear a0 a1 a2 a3 a4 a5 a6
  have hh := segPut_any src dst sp dp sq ak fl wn A n c xs w2 hsrc hdst hq ha (hr.below B2)
  rw [HE.out, HL.out] at hh
  refine hh.mono ?_
  clear hh
  rintro e w3 ⟨A3, n3, c3, rfl, ho3, hb3⟩
  have hn3 : n3 = 20 + n := by rw [← ho3.len, hPl]
  subst hn3
  have B3 := below_then B2 hb3
  go_wp2_with fail
  have hh := segGet_any src dst A3 (20 + n) c3 P w3 hsrc hdst ho3.rd (by omega)
  rw [HG1.out, HG2.out] at hh
  refine hh.mono ?_
  clear hh
  rintro e w6 ⟨A6, n6, c6, rfl, hr6, hb6⟩
  have hn6 : n6 = n := by rw [← hr6.2.1]; exact hl
  subst hn6
  have kl : IntKind.i64.wrap (20 + (n6 : Int)) = 20 + (n6 : Int) := IntWalk.i64_in _ (by omega)
  have kn : ((20 + (n6 : Int)) != (20 + (n6 : Int))) = false := by simp
  obtain ⟨W7, hW7⟩ : ∃ W : World, W = w6.alloc (.cells #[.int .i64 (sp : Int), .int .i64 (dp : Int), .int .u32 (sq : Int), .int .u32 (ak : Int), .int .i64 (fl : Int), .int .i64 (wn : Int), .slice A6 n6 c6] 25) := ⟨_, rfl⟩
  have bW7 : Below w6.heap.size w6 W7 := by rw [hW7]; repeat' (first | exact Below.refl _ _ | (refine Below.alloc ?_ ?_ _; rotate_left; (simp <;> omega)) | refine Below.drew ?_)
  have zW7 := bW7.size
  have xW7 : w6.heap.size < W7.heap.size := by rw [hW7]; simp <;> omega
  have Q7 : SgAt W7 w6.heap.size sp dp sq ak fl wn A6 n6 c6 := by rw [hW7]; exact row1 ..
  have P7 := P2.below (below_then hb3 (below_then hb6 bW7)) P2.lt
  obtain ⟨a0, a1, a2, a3, a4, a5, a6, af⟩ := P7.cells
  obtain ⟨d0, d1, d2, d3, d4, d5, d6, df⟩ := Q7.cells
  clear af df
  rw [hW7] at a0 a1 a2 a3 a4 a5 a6 d0 d1 d2 d3 d4 d5 d6
  have HW7 := Lib.hid hW7
  clear hW7
  go_wp2_with fail
  rw [← HW7.out]
  clear a0 a1 a2 a3 a4 a5 a6 d0 d1 d2 d3 d4 d5 d6
  have B37 := below_then hb6 bW7
  refine (same24_any sp dp sq ak fl wn A n6 c A6 n6 c6 xs W7 (hr.below (below_then B3 B37)) (hr6.below bW7)).mono ?_
  rintro e w8 ⟨rfl, hb8⟩
  have P8 := P7.below hb8 P7.lt
  have B38 := below_then B37 hb8
  have B8 := below_then B3 B38
  obtain ⟨a0, a1, a2, a3, a4, a5, a6, af⟩ := P8.cells
  clear af
  by_cases hat : at_ < 0
  · have d3 : decide (at_ < 0) = true := decide_eq_true hat
    go_wp2_with fail
    refine (heads24 _).mono ?_
    rintro e w9 ⟨rfl, hb9⟩
    go_wp2
    go_ret
    exact ⟨rfl, below_then B8 hb9⟩
  have d3 : decide (at_ < 0) = false := decide_eq_false hat
  by_cases hb0 : by_ = 0
  · subst hb0
    go_wp2_with fail
    refine (heads24 _).mono ?_
    rintro e w9 ⟨rfl, hb9⟩
    go_wp2
    go_ret
    exact ⟨rfl, below_then B8 hb9⟩
  have d4 : ((by_ : Int) == 0) = false := by rw [beq_eq_false_iff_ne]; omega
  obtain ⟨q, hq⟩ : ∃ q : Nat, at_ % (20 + (n6 : Int)) = (q : Nat) := ⟨(at_ % (20 + (n6 : Int))).toNat, by have := Int.emod_nonneg at_ (show (20 + (n6 : Int)) ≠ 0 by omega); omega⟩
  have hq2 : q < 20 + n6 := by have := Int.emod_lt_of_pos at_ (show 0 < 20 + (n6 : Int) by omega); omega
  have hq1 : at_.tmod (20 + (n6 : Int)) = (q : Int) := by rw [Int.tmod_eq_emod_of_nonneg (by omega), hq]
  have hq3 : ¬ (20 + (n6 : Int) = 0) := by omega
  have o8 := ho3.rd.below B38
  obtain ⟨g3, rfl, hg31, hg32⟩ := ho3.addr (by omega)
  have kq1 : (0 : Int) ≤ (q : Int) := by omega
  have kq2 : (q : Int) < 20 + (n6 : Int) := by omega
  obtain ⟨U, hU⟩ : ∃ U, P.getD q 0 = U := ⟨_, rfl⟩
  have hx : bits .xor .u8 (U.toNat : Int) (by_ : Int) = ((U ^^^ UInt8.ofNat by_).toNat : Int) := by
    rw [u8_xor_nat _ _ U.toNat_lt hby, UInt8.toNat_xor, UInt8.toNat_ofNat', Nat.mod_eq_of_lt (by omega)]
  have hbn : UInt8.ofNat by_ ≠ 0 := by intro h; apply hb0; have := congrArg UInt8.toNat h; rw [UInt8.toNat_ofNat', Nat.mod_eq_of_lt (by omega)] at this; exact this
  have hvn : U ^^^ UInt8.ofNat by_ ≠ U := xor_ne _ _ hbn
  obtain ⟨V, hV⟩ : ∃ V, U ^^^ UInt8.ofNat by_ = V := ⟨_, rfl⟩
  rw [hV] at hx hvn
  have hT := HT.out q V (by omega) (by rw [hU]; exact hvn)
  obtain ⟨L, hL⟩ : ∃ L, P.set q V = L := ⟨_, rfl⟩
  rw [hL] at hT
  have HLL := Lib.hid hL
  have HU := Lib.hid hU
  obtain ⟨er, her⟩ : ∃ er, sgGetE src dst L = er := ⟨sgGetE src dst L, rfl⟩
  rw [her] at hT
  have k9 : (er != 0) = true := by rw [bne_iff_ne]; exact hT
  have HER := Lib.hid her
  clear hq hvn hV hU hL her hT
  go_wp2_with (at_builtin; refine wp_appB rfl _ _ rfl ((below_self w8).alloc (Nat.le_refl _) _) (Nat.le_refl _) (by simp) _ _ _ _ rfl (own0 w8) (some ⟨g3, 0, none⟩) (20 + n6) c3 P rfl (o8.alloc _) (by omega) (20 + n6) P (by omega) (by simp) ?_; intro A9 c9 w9 ho9 hb9 hg9)
  obtain ⟨g9, rfl, hg91, hg92⟩ := ho9.addr (by omega)
  have c9q := ho9.rd.cellS q (by omega)
  rw [Nat.zero_add, HU.out] at c9q
  have f9q := ho9.free q
  go_still_tail 15, (by kernel_rfl)
  change wpList _ _ _ _ _ w9.drew
  go_wp2_with fail
  have hset := ho9.set_ q V
  rw [HLL.out] at hset
  have bV := (hb9.setCell (p := ⟨g9, q, none⟩) hg91 (.int .u8 (V.toNat : Int))).drew
  have hg := segGet_any src dst (some ⟨g9, 0, none⟩) (20 + n6) c9 L _ hsrc hdst hset.rd.drew (by omega)
  rw [HER.out] at hg
  obtain ⟨y, hy⟩ : ∃ y, sgGet src dst L = y := ⟨sgGet src dst L, rfl⟩
  rw [hy] at hg
  refine hg.mono ?_
  clear hg hy
  rintro e w10 ⟨A10, n10, c10, rfl, hr10, hb10⟩
  have B10 := below_then (below_then B8 bV) hb10
  go_wp2_with fail
  refine (heads24 _).mono ?_
  rintro e w11 ⟨rfl, hb11⟩
  go_wp2
  go_ret
  exact ⟨rfl, below_then B10 (bstep (below_self w10) hb11)⟩

theorem segBack_law (src dst : Nat) (sp dp : Int) (sq ak : Nat) (fl wn : Int) (A : Option Addr) (n c : Nat) (xs : List UInt8) (at_ : Int) (by_ : Nat) (w : World) (hsrc : src < 4294967296) (hdst : dst < 4294967296) (hsp : -9223372036854775808 ≤ sp ∧ sp ≤ 9223372036854775807) (hdp : -9223372036854775808 ≤ dp ∧ dp ≤ 9223372036854775807) (hq : sq < 4294967296) (ha : ak < 4294967296) (hfl : -9223372036854775808 ≤ fl ∧ fl ≤ 9223372036854775807) (hwn : -9223372036854775808 ≤ wn ∧ wn ≤ 9223372036854775807) (hr : RdB w A n c xs) (hat : -9223372036854775808 ≤ at_ ∧ at_ ≤ 9223372036854775807) (hby : by_ < 256) :
    Calls Try.prog 4 #[.int .u32 src, .int .u32 dst, .agg #[.int .i64 sp, .int .i64 dp, .int .u32 sq, .int .u32 ak, .int .i64 fl, .int .i64 wn, .slice A n c], .int .i64 at_, .int .u8 by_] w (RetV w (.bool true)) := by
  cases hck : sgCheck sp dp fl wn n with
  | true =>
    obtain ⟨⟨g1, g2⟩, ⟨g3, g4⟩, ⟨g5, g6⟩, ⟨g7, g8⟩, g9⟩ := (sgCheck_iff _ _ _ _ _).1 hck
    obtain ⟨p, rfl⟩ : ∃ p : Nat, sp = (p : Int) := ⟨sp.toNat, by omega⟩
    obtain ⟨d, rfl⟩ : ∃ d : Nat, dp = (d : Int) := ⟨dp.toNat, by omega⟩
    obtain ⟨f, rfl⟩ : ∃ f : Nat, fl = (f : Int) := ⟨fl.toNat, by omega⟩
    obtain ⟨v, rfl⟩ : ∃ v : Nat, wn = (v : Int) := ⟨wn.toNat, by omega⟩
    exact segBack_main src dst p d sq ak f v A n c xs at_ by_ w hsrc hdst hq ha hr hby hck
  | false =>
    have hn63 := hr.n63
    go_enter Try.func4, Try.ntmps4
    go_wp2_with fail
    refine (refCheck24_any sp dp sq ak fl wn A n c _ hn63).mono ?_
    rintro e w1 ⟨rfl, hb1⟩
    rw [hck]
    go_wp2_with fail
    refine (heads24 _).mono ?_
    rintro e w9 ⟨rfl, hb9⟩
    go_wp2
    go_ret
    exact ⟨rfl, below_then (bstep (below_self w) hb1) hb9⟩
end Go.Proofs.Ytndabecdfccjlaa
