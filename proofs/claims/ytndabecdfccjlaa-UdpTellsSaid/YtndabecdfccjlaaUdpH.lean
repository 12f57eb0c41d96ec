/-
  The law UdpTells.
-/
import Derived.Test.YtndabecdfccjlaaUdpG
namespace Go.Proofs.Ytndabecdfccjlaa
set_option maxRecDepth 20000
open Go.RowKit
set_option linter.unusedVariables false
set_option linter.unusedSimpArgs false
set_option maxHeartbeats 8000000

theorem udpTells_early (src dst : Nat) (f t : Int) (A : Option Addr) (n c : Nat) (xs : List UInt8) (B : Option Addr) (m d : Nat) (ys : List UInt8) (w : World) (hr : RdB w A n c xs) (hs : RdB w B m d ys) (h : 300 < n ∨ 400 < m) :
    Calls Try.prog 7 #[.int .u32 src, .int .u32 dst, .int .i64 f, .int .i64 t, .slice A n c, .slice B m d] w (RetV w (.bool true)) := by
  have hn63 := hr.n63
  have hm63 := hs.n63
  by_cases h1 : 300 < n
  · have d1 : decide ((300 : Int) < (n : Int)) = true := decide_eq_true (by omega)
    clear h
    go_enter Try.func7, Try.ntmps7
    go_wp2_with fail
    refine (heads23 _).mono ?_
    rintro e w9 ⟨rfl, hb9⟩
    go_wp2
    go_ret
    exact ⟨rfl, hb9⟩
  · have d1 : decide ((300 : Int) < (n : Int)) = false := decide_eq_false (by omega)
    have d2 : decide ((400 : Int) < (m : Int)) = true := decide_eq_true (by omega)
    clear h
    go_enter Try.func7, Try.ntmps7
    go_wp2_with fail
    refine (heads23 _).mono ?_
    rintro e w9 ⟨rfl, hb9⟩
    go_wp2
    go_ret
    exact ⟨rfl, hb9⟩

theorem udpTells_main (src dst : Nat) (f t : Int) (A : Option Addr) (n c : Nat) (xs : List UInt8) (B : Option Addr) (m d : Nat) (ys : List UInt8) (w : World) (hsrc : src < 4294967296) (hdst : dst < 4294967296) (hr : RdB w A n c xs) (hs : RdB w B m d ys) (h1 : n ≤ 300) (h2 : m ≤ 400) :
    Calls Try.prog 7 #[.int .u32 src, .int .u32 dst, .int .i64 f, .int .i64 t, .slice A n c, .slice B m d] w (RetV w (.bool true)) := by
  have hn63 := hr.n63
  have hm63 := hs.n63
  have d1 : decide ((300 : Int) < (n : Int)) = false := decide_eq_false (by omega)
  have d2 : decide ((400 : Int) < (m : Int)) = false := decide_eq_false (by omega)
  obtain ⟨pe, hpe⟩ : ∃ pe, udPutE f t n = pe := ⟨udPutE f t n, rfl⟩
  obtain ⟨P, hP⟩ : ∃ P, udPutL src dst f t xs = P := ⟨udPutL src dst f t xs, rfl⟩
  obtain ⟨ge, hge⟩ : ∃ ge, udGetE src dst ys = ge := ⟨udGetE src dst ys, rfl⟩
  obtain ⟨F, hF⟩ : ∃ F, udF src dst ys = F := ⟨udF src dst ys, rfl⟩
  obtain ⟨T, hT⟩ : ∃ T, udT src dst ys = T := ⟨udT src dst ys, rfl⟩
  obtain ⟨D, hD⟩ : ∃ D, udD src dst ys = D := ⟨udD src dst ys, rfl⟩
  have HPE := Lib.hid hpe
  have HP := Lib.hid hP
  have HGE := Lib.hid hge
  have HF := Lib.hid hF
  have HT := Lib.hid hT
  have HD := Lib.hid hD
  clear hpe hP hge hF hT hD
  have k1 : (pe == pe) = true := by simp
  have k2 : (ge == ge) = true := by simp
  have k3 : ((F : Int) == (F : Int)) = true := by simp
  have k4 : ((T : Int) == (T : Int)) = true := by simp
  go_enter Try.func7, Try.ntmps7
  go_wp2_with fail
  have hh := udpPut_any src dst f t A n c xs w hsrc hdst hr
  rw [HPE.out, HP.out] at hh
  refine hh.mono ?_
  clear hh
  rintro e w2 ⟨A2, n2, c2, rfl, ho2, hb2⟩
  go_wp2_with fail
  have hh := refUdpPut_any src dst f t A n c xs w2 hsrc hdst (hr.below hb2)
  rw [HPE.out, HP.out] at hh
  refine hh.mono ?_
  clear hh
  rintro e w3 ⟨A3, n3, c3, rfl, ho3, hb3⟩
  have B3 := below_then hb2 hb3
  go_wp2_with fail
  have hh := udpGet_any src dst B m d ys w3 hsrc hdst (hs.below B3) (by omega)
  rw [HGE.out, HF.out, HT.out, HD.out] at hh
  refine hh.mono ?_
  clear hh
  rintro e w4 ⟨A4, n4, c4, rfl, hr4, hb4⟩
  have B4 := below_then B3 hb4
  go_wp2_with fail
  have hh := refUdpGet_any src dst B m d ys w4 hsrc hdst (hs.below B4) (by omega)
  rw [HGE.out, HF.out, HT.out, HD.out] at hh
  refine hh.mono ?_
  clear hh
  rintro e w5 ⟨A5, n5, c5, rfl, hr5, hb5⟩
  have B5 := below_then B4 hb5
  go_wp2_with fail
  refine (bytes_any A2 A3 n2 c2 n3 c3 P P w5 (ho2.rd.below (below_then hb3 (below_then hb4 hb5))) (ho3.rd.below (below_then hb4 hb5))).mono ?_
  rintro e v1 ⟨rfl, rfl⟩
  rw [decide_eq_true rfl]
  go_wp2_with fail
  refine (bytes_any A4 A5 n4 c4 n5 c5 D D w5 (hr4.below hb5) hr5).mono ?_
  rintro e v1 ⟨rfl, rfl⟩
  rw [decide_eq_true rfl]
  go_wp2_with fail
  refine (heads23 _).mono ?_
  rintro e w9 ⟨rfl, hb9⟩
  go_wp2
  go_ret
  exact ⟨rfl, below_then B5 hb9⟩

theorem udpTells_law (src dst : Nat) (f t : Int) (A : Option Addr) (n c : Nat) (xs : List UInt8) (B : Option Addr) (m d : Nat) (ys : List UInt8) (w : World) (hsrc : src < 4294967296) (hdst : dst < 4294967296) (hf : -9223372036854775808 ≤ f ∧ f ≤ 9223372036854775807) (ht : -9223372036854775808 ≤ t ∧ t ≤ 9223372036854775807) (hr : RdB w A n c xs) (hs : RdB w B m d ys) :
    Calls Try.prog 7 #[.int .u32 src, .int .u32 dst, .int .i64 f, .int .i64 t, .slice A n c, .slice B m d] w (RetV w (.bool true)) := by
  by_cases h : 300 < n ∨ 400 < m
  · exact udpTells_early src dst f t A n c xs B m d ys w hr hs h
  · exact udpTells_main src dst f t A n c xs B m d ys w hsrc hdst hr hs (by omega) (by omega)
end Go.Proofs.Ytndabecdfccjlaa
