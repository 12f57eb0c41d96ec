/-
  The law UdpCut.
-/
import Derived.Test.YtndabecdfccjlaaUdpD
namespace Go.Proofs.Ytndabecdfccjlaa
set_option maxRecDepth 20000
open Go.RowKit
set_option linter.unusedVariables false
set_option linter.unusedSimpArgs false
set_option maxHeartbeats 8000000

theorem udpCut_early (src dst : Nat) (f t : Int) (A : Option Addr) (n c : Nat) (xs : List UInt8) (at_ : Int) (B : Option Addr) (m d : Nat) (ys : List UInt8) (w : World) (hsrc : src < 4294967296) (hdst : dst < 4294967296) (hr : RdB w A n c xs) (hs : RdB w B m d ys) (h : udOk f t n = false ∨ (udOk f t n = true ∧ (50 < m ∨ at_ < 0))) :
    Calls Try.prog 6 #[.int .u32 src, .int .u32 dst, .int .i64 f, .int .i64 t, .slice A n c, .int .i64 at_, .slice B m d] w (RetV w (.bool true)) := by
  have hn63 := hr.n63
  have hm63 := hs.n63
  obtain ⟨pe, hpe⟩ : ∃ pe, udPutE f t n = pe := ⟨udPutE f t n, rfl⟩
  have hcase : (pe = 2) ∨ (pe = 0 ∧ n ≤ 120 ∧ (50 < m ∨ at_ < 0)) := by
    rw [← hpe]; unfold udPutE
    rcases h with h | ⟨h, h2⟩
    · left; rw [if_neg (by rw [h]; decide)]
    · right; rw [if_pos h]; exact ⟨rfl, ((udOk_iff _ _ _).1 h).2.2, h2⟩
  have HPE := Lib.hid hpe
  clear h hpe
  go_enter Try.func6, Try.ntmps6
  go_wp2_with fail
  have hh := udpPut_any src dst f t A n c xs w hsrc hdst hr
  rw [HPE.out] at hh
  refine hh.mono ?_
  clear hh
  rintro e w2 ⟨A2, n2, c2, rfl, ho2, hb2⟩
  by_cases h1 : 300 < n
  · have d1 : decide ((300 : Int) < (n : Int)) = true := decide_eq_true (by omega)
    go_wp2_with fail
    refine (heads23 _).mono ?_
    rintro e w9 ⟨rfl, hb9⟩
    go_wp2
    go_ret
    exact ⟨rfl, below_then hb2 hb9⟩
  have d1 : decide ((300 : Int) < (n : Int)) = false := decide_eq_false (by omega)
  by_cases h2 : 50 < m
  · have d2 : decide ((50 : Int) < (m : Int)) = true := decide_eq_true (by omega)
    go_wp2_with fail
    refine (heads23 _).mono ?_
    rintro e w9 ⟨rfl, hb9⟩
    go_wp2
    go_ret
    exact ⟨rfl, below_then hb2 hb9⟩
  have d2 : decide ((50 : Int) < (m : Int)) = false := decide_eq_false (by omega)
  rcases hcase with rfl | ⟨rfl, h3, h4⟩
  · go_wp2_with fail
    refine (heads23 _).mono ?_
    rintro e w9 ⟨rfl, hb9⟩
    go_wp2
    go_ret
    exact ⟨rfl, below_then hb2 hb9⟩
  · have d3 : decide (at_ < 0) = true := decide_eq_true (by omega)
    go_wp2_with fail
    refine (heads23 _).mono ?_
    rintro e w9 ⟨rfl, hb9⟩
    go_wp2
    go_ret
    exact ⟨rfl, below_then hb2 hb9⟩

theorem udpCut_main (src dst : Nat) (f t : Nat) (A : Option Addr) (n c : Nat) (xs : List UInt8) (at_ : Int) (B : Option Addr) (m d : Nat) (ys : List UInt8) (w : World) (hsrc : src < 4294967296) (hdst : dst < 4294967296) (hr : RdB w A n c xs) (hs : RdB w B m d ys) (h : udOk (f : Int) (t : Int) n = true) (hm : m ≤ 50) (hat : 0 ≤ at_) :
    Calls Try.prog 6 #[.int .u32 src, .int .u32 dst, .int .i64 (f : Int), .int .i64 (t : Int), .slice A n c, .int .i64 at_, .slice B m d] w (RetV w (.bool true)) := by
  have hn63 := hr.n63
  have hl := hr.2.1
  obtain ⟨⟨g1, g2⟩, ⟨g3, g4⟩, g5⟩ := (udOk_iff _ _ _).1 h
  have hE : udPutE (f : Int) (t : Int) n = 0 := by unfold udPutE; rw [if_pos h]
  have hL : udPutL src dst (f : Int) (t : Int) xs = udL src dst f t xs := by unfold udPutL; rw [hl, if_pos h]; rfl
  have hb := ud_back src dst f t xs ys (by omega) (by omega) (by omega) (by omega) (by omega)
  have hc := fun j hj => ud_cut src dst f t xs j (by omega) hj
  have hPl := udL_len src dst f t xs
  obtain ⟨P, hP⟩ : ∃ P, udL src dst f t xs = P := ⟨udL src dst f t xs, rfl⟩
  rw [hP] at hb hc hL hPl
  rw [hl] at hPl hc
  obtain ⟨b1, b2, b3, b4, b5⟩ := hb
  have HB1 := Lib.hid b1
  have HB2 := Lib.hid b2
  have HB3 := Lib.hid b3
  have HB4 := Lib.hid b4
  have HE := Lib.hid hE
  have HL := Lib.hid hL
  obtain ⟨q, hq⟩ : ∃ q : Nat, at_ % (8 + (n : Int)) = (q : Nat) := ⟨(at_ % (8 + (n : Int))).toNat, by have := Int.emod_nonneg at_ (show (8 + (n : Int)) ≠ 0 by omega); omega⟩
  have hq2 : q < 8 + n := by have := Int.emod_lt_of_pos at_ (show 0 < 8 + (n : Int) by omega); omega
  have hq1 : at_.tmod (8 + (n : Int)) = (q : Int) := by rw [Int.tmod_eq_emod_of_nonneg (by omega), hq]
  have hq3 : ¬ (8 + (n : Int) = 0) := by omega
  have hcq := hc q hq2
  have HC := Lib.hid hcq
  have kq1 : (0 : Int) ≤ (q : Int) := by omega
  clear b1 b2 b3 b4 b5 hE hL hP hc hcq hq
  have d1 : decide ((300 : Int) < (n : Int)) = false := decide_eq_false (by omega)
  have d2 : decide ((50 : Int) < (m : Int)) = false := decide_eq_false (by omega)
  have d3 : decide (at_ < 0) = false := decide_eq_false (by omega)
  have k0 : ((8 + (n : Int)) == 0) = false := by rw [beq_eq_false_iff_ne]; omega
  have kf : ((f : Int) == (f : Int)) = true := by simp
  have kt : ((t : Int) == (t : Int)) = true := by simp
  go_enter Try.func6, Try.ntmps6
  go_wp2_with fail
  have hh := udpPut_any src dst (f : Int) (t : Int) A n c xs w hsrc hdst hr
  rw [HE.out, HL.out] at hh
  refine hh.mono ?_
  clear hh
  rintro e w2 ⟨A2, n2, c2, rfl, ho2, hb2⟩
  have hn2 : n2 = 8 + n := by rw [← ho2.len, hPl]
  subst hn2
  have hc2 := ho2.rd.2.2.1
  have kq2 : (q : Int) ≤ (c2 : Int) := by omega
  go_wp2_with fail
  have hh := udpGet_any src dst A2 q c2 (P.take q) w2 hsrc hdst (ho2.rd.take q (by omega)) (by omega)
  rw [HC.out] at hh
  refine hh.mono ?_
  clear hh
  rintro e w3 ⟨A3, n3, c3, rfl, hr3, hb3⟩
  have B3 := below_then hb2 hb3
  have o3 := ho2.rd.below hb3
  go_wp2_with (first
    | (at_builtin; refine wp_appB rfl _ _ rfl hb4 (by omega) (by have := hb4.size; omega) A4 (8 + n) c4 P rfl ho4 B m d ys rfl (hs.below (below_then B3 hb4)) (by omega) (8 + n + m) (P ++ ys) rfl rfl ?_; intro A5 c5 w5 ho5 hb5 hg5)
    | (at_builtin; refine wp_appB rfl _ _ rfl ((below_self w3).alloc (Nat.le_refl _) _) (Nat.le_refl _) (by simp) _ _ _ _ rfl (own0 w3) A2 (8 + n) c2 P rfl (o3.alloc _) (by omega) (8 + n) P (by omega) (by simp) ?_; intro A4 c4 w4 ho4 hb4 hg4))
  have hh := udpGet_any src dst A5 (8 + n + m) c5 (P ++ ys) w5 hsrc hdst ho5.rd (by omega)
  rw [HB1.out, HB2.out, HB3.out, HB4.out] at hh
  refine hh.mono ?_
  clear hh
  rintro e w6 ⟨A6, n6, c6, rfl, hr6, hb6⟩
  have B6 := below_then B3 (below_then hb5 hb6)
  go_wp2_with fail
  refine (bytes_any A6 A n6 c6 n c xs xs w6 hr6 (hr.below B6)).mono ?_
  rintro e w7 ⟨rfl, rfl⟩
  rw [decide_eq_true rfl]
  go_wp2_with fail
  refine (heads23 _).mono ?_
  rintro e w8 ⟨rfl, hb8⟩
  go_wp2
  go_ret
  exact ⟨rfl, below_then B6 hb8⟩

theorem udpCut_law (src dst : Nat) (f t : Int) (A : Option Addr) (n c : Nat) (xs : List UInt8) (at_ : Int) (B : Option Addr) (m d : Nat) (ys : List UInt8) (w : World) (hsrc : src < 4294967296) (hdst : dst < 4294967296) (hf : -9223372036854775808 ≤ f ∧ f ≤ 9223372036854775807) (ht : -9223372036854775808 ≤ t ∧ t ≤ 9223372036854775807) (hr : RdB w A n c xs) (hat : -9223372036854775808 ≤ at_ ∧ at_ ≤ 9223372036854775807) (hs : RdB w B m d ys) :
    Calls Try.prog 6 #[.int .u32 src, .int .u32 dst, .int .i64 f, .int .i64 t, .slice A n c, .int .i64 at_, .slice B m d] w (RetV w (.bool true)) := by
  cases h : udOk f t n with
  | false => exact udpCut_early src dst f t A n c xs at_ B m d ys w hsrc hdst hr hs (.inl h)
  | true =>
    by_cases h2 : 50 < m ∨ at_ < 0
    · exact udpCut_early src dst f t A n c xs at_ B m d ys w hsrc hdst hr hs (.inr ⟨h, h2⟩)
    · obtain ⟨⟨g1, g2⟩, ⟨g3, g4⟩, g5⟩ := (udOk_iff _ _ _).1 h
      obtain ⟨p, rfl⟩ : ∃ p : Nat, f = (p : Int) := ⟨f.toNat, by omega⟩
      obtain ⟨q, rfl⟩ : ∃ q : Nat, t = (q : Int) := ⟨t.toNat, by omega⟩
      exact udpCut_main src dst p q A n c xs at_ B m d ys w hsrc hdst hr hs h (by omega) (by omega)
end Go.Proofs.Ytndabecdfccjlaa
