/-
  The law NumBytes.
-/
import Derived.Test.YthaampcfkmfjcaaNumK
namespace Go.Proofs.Ythaampcfkmfjcaa
open Go.RowKit
set_option linter.unusedVariables false
set_option linter.unusedSimpArgs false

theorem numBytes_law (x : Nat) (s : Int) (A : Option Addr) (n c : Nat) (xs : List UInt8) (w : World) (hx : x < 18446744073709551616) (hs : -9223372036854775808 ≤ s ∧ s ≤ 9223372036854775807) (hr : RdB w A n c xs) :
    Calls Try.prog 11 #[.int .u64 x, .int .i64 s, .slice A n c] w (RetV w (.bool true)) := by
  have hn63 := hr.n63
  by_cases h : n ≤ 100
  · have d1 : decide ((100 : Int) < (n : Int)) = false := decide_eq_false (by omega)
    go_enter Try.func11, Try.ntmps11
    go_wp2_with fail
    refine (le_any x s _ hx).mono ?_
    rintro e w1 ⟨A1, n1, c1, rfl, ho1, hb1⟩
    go_wp2_with fail
    refine (refLe_any x s _ hx).mono ?_
    rintro e w2 ⟨A2, n2, c2, rfl, ho2, hb2⟩
    go_wp2_with fail
    refine (bytes_any A1 A2 n1 c1 n2 c2 _ _ _ (ho1.rd.below hb2) ho2.rd).mono ?_
    rintro e w3 ⟨rfl, rfl⟩
    rw [decide_eq_true rfl]
    go_wp2_with fail
    refine (be_any x s _ hx).mono ?_
    rintro e w3 ⟨A3, n3, c3, rfl, ho3, hb3⟩
    go_wp2_with fail
    refine (refBe_any x s _ hx).mono ?_
    rintro e w4 ⟨A4, n4, c4, rfl, ho4, hb4⟩
    go_wp2_with fail
    refine (bytes_any A3 A4 n3 c3 n4 c4 _ _ _ (ho3.rd.below hb4) ho4.rd).mono ?_
    rintro e w5 ⟨rfl, rfl⟩
    rw [decide_eq_true rfl]
    have B := below_then (below_then hb1 hb2) (below_then hb3 hb4)
    go_wp2_with fail
    refine (fromLe_any A n c xs _ (hr.below B)).mono ?_
    rintro e w5 ⟨rfl, rfl⟩
    go_wp2_with fail
    refine (refFromLe_any A n c xs _ (hr.below B)).mono ?_
    rintro e w5 ⟨rfl, rfl⟩
    go_wp2_with fail
    refine (fromBe_any A n c xs _ (hr.below B)).mono ?_
    rintro e w5 ⟨rfl, rfl⟩
    go_wp2_with fail
    refine (refFromBe_any A n c xs _ (hr.below B)).mono ?_
    rintro e w5 ⟨rfl, rfl⟩
    go_wp2_with fail
    refine (heads01 _).mono ?_
    rintro e w6 ⟨rfl, hb6⟩
    go_wp2
    go_ret
    exact ⟨rfl, below_then B hb6⟩
  · have d1 : decide ((100 : Int) < (n : Int)) = true := decide_eq_true (by omega)
    go_enter Try.func11, Try.ntmps11
    go_wp2_with fail
    refine (heads01 _).mono ?_
    rintro e w6 ⟨rfl, hb6⟩
    go_wp2
    go_ret
    exact ⟨rfl, hb6⟩
end Go.Proofs.Ythaampcfkmfjcaa
