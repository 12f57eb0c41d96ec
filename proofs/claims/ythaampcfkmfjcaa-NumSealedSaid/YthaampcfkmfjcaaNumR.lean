/-
  The laws NumChecks and NumSealed.
-/
import Derived.Test.YthaampcfkmfjcaaNumK
import Derived.Test.YthaampcfkmfjcaaNumP
import Derived.Test.YthaampcfkmfjcaaNumQ
import Derived.Test.YthaampcfkmfjcaaCrcMath
import Derived.StillTailTactics
namespace Go.Proofs.Ythaampcfkmfjcaa
open Go.RowKit
set_option linter.unusedVariables false
set_option linter.unusedSimpArgs false

theorem numChecks_law (A : Option Addr) (n c : Nat) (xs : List UInt8) (x : Int) (ys : List UInt8) (w : World) (hr : RdB w A n c xs) (hx : -9223372036854775808 ≤ x ∧ x ≤ 9223372036854775807) (hs : ys.length ≤ 9223372036854775807) :
    Calls Try.prog 12 #[.slice A n c, .int .i64 x, .string (strOf ys)] w (RetV w (.bool true)) := by
  have hn63 := hr.n63
  have s0 : ((strOf ys).size : Nat) = ys.length := rfl
  by_cases h1 : 3000 < n
  · have d1 : decide ((3000 : Int) < (n : Int)) = true := decide_eq_true (by omega)
    go_enter Try.func12, Try.ntmps12
    go_wp2_with fail
    refine (heads01 _).mono ?_
    rintro e w9 ⟨rfl, hb9⟩
    go_wp2
    go_ret
    exact ⟨rfl, hb9⟩
  have d1 : decide ((3000 : Int) < (n : Int)) = false := decide_eq_false (by omega)
  by_cases h2 : 300 < ys.length
  · have d2 : decide ((300 : Int) < (ys.length : Int)) = true := decide_eq_true (by omega)
    go_enter Try.func12, Try.ntmps12
    go_wp2_with fail
    refine (heads01 _).mono ?_
    rintro e w9 ⟨rfl, hb9⟩
    go_wp2
    go_ret
    exact ⟨rfl, hb9⟩
  have d2 : decide ((300 : Int) < (ys.length : Int)) = false := decide_eq_false (by omega)
  have hq := strOf_eq (decI x) (decI x)
  rw [decide_eq_true rfl] at hq
  go_enter Try.func12, Try.ntmps12
  go_wp2_with fail
  refine (parse_any ys _ hs).mono ?_
  rintro e w1 ⟨rfl, hb1⟩
  go_wp2_with fail
  refine (refParse_any ys _ hs).mono ?_
  rintro e w2 ⟨rfl, hb2⟩
  have B2 := below_then hb1 hb2
  go_wp2_with fail
  refine (numCheck_any _ _ _ xs _ (hr.below B2)).mono ?_
  rintro e w3 ⟨rfl, rfl⟩
  go_wp2_with fail
  refine (refNumCheck_any _ _ _ xs _ (hr.below B2) (by omega)).mono ?_
  rintro e w3 ⟨rfl, rfl⟩
  have k1 : ((numCheck xs : Int) == (numCheck xs : Int)) = true := by simp
  go_wp2_with fail
  refine (dec_any x _ hx).mono ?_
  rintro e w4 ⟨rfl, hb4⟩
  have B4 := below_then B2 hb4
  go_wp2_with fail
  refine (refDec_any x _ hx).mono ?_
  rintro e w5 ⟨rfl, hb5⟩
  have B5 := below_then B4 hb5
  go_wp2_with fail
  refine (heads01 _).mono ?_
  rintro e w9 ⟨rfl, hb9⟩
  go_wp2
  go_ret
  exact ⟨rfl, below_then B5 hb9⟩
theorem strOf_self (s : ByteArray) : strOf s.data.toList = s := rfl
theorem numChecks_lawS (A : Option Addr) (n c : Nat) (xs : List UInt8) (x : Int) (s : ByteArray) (w : World) (hr : RdB w A n c xs) (hx : -9223372036854775808 ≤ x ∧ x ≤ 9223372036854775807) (hs : s.size ≤ 9223372036854775807) :
    Calls Try.prog 12 #[.slice A n c, .int .i64 x, .string s] w (RetV w (.bool true)) :=
  numChecks_law A n c xs x s.data.toList w hr hx hs

theorem sealed_early (A : Option Addr) (n c : Nat) (xs : List UInt8) (at' : Int) (by' : Nat) (w : World) (hr : RdB w A n c xs) (hx : -9223372036854775808 ≤ at' ∧ at' ≤ 9223372036854775807) (hb : by' < 256) (h : 2000 < n ∨ n % 2 = 1) :
    Calls Try.prog 14 #[.slice A n c, .int .i64 at', .int .u8 by'] w (RetV w (.bool true)) := by
  have hn63 := hr.n63
  by_cases h1 : 2000 < n
  · have d1 : decide ((2000 : Int) < (n : Int)) = true := decide_eq_true (by omega)
    go_enter Try.func14, Try.ntmps14
    go_wp2_with fail
    refine (heads01 _).mono ?_
    rintro e w9 ⟨rfl, hb9⟩
    go_wp2
    go_ret
    exact ⟨rfl, hb9⟩
  · have d1 : decide ((2000 : Int) < (n : Int)) = false := decide_eq_false (by omega)
    have d2 : ((n : Int) % 2 != 0) = true := by rw [bne_iff_ne]; omega
    clear h h1
    go_enter Try.func14, Try.ntmps14
    go_wp2_with fail
    refine (heads01 _).mono ?_
    rintro e w9 ⟨rfl, hb9⟩
    go_wp2
    go_ret
    exact ⟨rfl, hb9⟩

theorem sealed_main (A : Option Addr) (n c : Nat) (xs : List UInt8) (at' : Int) (by' : Nat) (w : World) (hr : RdB w A n c xs) (hx : -9223372036854775808 ≤ at' ∧ at' ≤ 9223372036854775807) (hb : by' < 256) (h1 : n ≤ 2000) (h2 : n % 2 = 0) :
    Calls Try.prog 14 #[.slice A n c, .int .i64 at', .int .u8 by'] w (RetV w (.bool true)) := by
  have hn63 := hr.n63
  have d1 : decide ((2000 : Int) < (n : Int)) = false := decide_eq_false (by omega)
  have d2 : ((n : Int) % 2 != 0) = false := by rw [bne_eq_false_iff_eq]; omega
  have hlx := hr.2.1
  have HS := Lib.hid (ck_sealed xs (by rw [hlx]; exact h2))
  have hN : numCheck xs < 18446744073709551616 := by have : numCheck xs ≤ 65535 := Nat.sub_le _ _
                                                     omega
  have HL := Lib.hid hlx
  clear hlx
  go_enter Try.func14, Try.ntmps14
  go_wp2_with (at_builtin; refine wp_appB rfl _ _ rfl ((below_self w).alloc (Nat.le_refl _) _) (Nat.le_refl _) (by simp) _ _ _ _ rfl (own0 w) _ _ _ _ rfl (hr.alloc _) (by omega) n xs (by omega) (by simp) ?_; intro A4 c4 w4 ho4 hb4 hg4)
  refine (numCheck_any _ _ _ xs _ (hr.below hb4)).mono ?_
  rintro e w3 ⟨rfl, rfl⟩
  go_wp2_with fail
  refine (be_any (numCheck xs) 2 _ hN).mono ?_
  rintro e w5 ⟨A5, n5, c5, rfl, ho5, hb5⟩
  have hc2 : clamp 2 = 2 := rfl
  rw [hc2] at ho5
  clear hc2
  have hl5 : n5 = 2 := by rw [← ho5.len, beB_length]
  subst hl5
  have B5 := below_then hb4 hb5
  have ho4' := ho4.below hb5
  go_wp2_with (at_builtin; refine wp_appB rfl _ _ rfl B5 (Nat.le_refl _) B5.size _ _ _ _ rfl ho4' _ _ _ _ rfl ho5.rd (by omega) (n + 2) (xs ++ beB (numCheck xs) 2) rfl rfl ?_; intro A6 c6 w6 ho6 hb6 hg6)
  have r6 := ho6.rd
  refine (numCheck_any _ _ _ _ _ r6).mono ?_
  rintro e w7 ⟨rfl, rfl⟩
  have hz := HS.out
  rw [hz]
  by_cases c1 : at' < 0 ∨ by' = 0 ∨ by' = 255
  · have hs : (decide (at' < 0) = true) ∨ (decide (at' < 0) = false ∧ ((by' : Int) == 0) = true) ∨ (decide (at' < 0) = false ∧ ((by' : Int) == 0) = false ∧ ((by' : Int) == 255) = true) := by
      by_cases g1 : at' < 0
      · exact .inl (decide_eq_true g1)
      · refine .inr ?_
        by_cases g2 : by' = 0
        · exact .inl ⟨decide_eq_false g1, by subst g2; rfl⟩
        · exact .inr ⟨decide_eq_false g1, by rw [beq_eq_false_iff_ne]; omega, by rw [beq_iff_eq]; omega⟩
    have HZ := Lib.hid hz
    clear c1 hz
    rcases hs with g1 | ⟨g1, g2⟩ | ⟨g1, g2, g3⟩
    all_goals
      go_wp2_with fail
      refine (numCheck_any _ _ _ _ _ r6).mono ?_
      rintro e w7 ⟨rfl, rfl⟩
      rw [HZ.out]
      go_wp2_with fail
      refine (heads01 _).mono ?_
      rintro e w9 ⟨rfl, hb9⟩
      go_wp2
      go_ret
      exact ⟨rfl, below_then hb6 hb9⟩
  · have g1 : decide (at' < 0) = false := decide_eq_false (by omega)
    have g2 : ((by' : Int) == 0) = false := by rw [beq_eq_false_iff_ne]; omega
    have g3 : ((by' : Int) == 255) = false := by rw [beq_eq_false_iff_ne]; omega
    obtain ⟨p, rfl⟩ : ∃ p : Nat, at' = p := ⟨at'.toNat, by omega⟩
    have HZ := Lib.hid hz
    have hby : by' ≠ 0 := by omega
    have HB := Lib.hid hby
    clear c1 hz hby
    obtain ⟨q, hq⟩ : ∃ q, q = p % (n + 2) := ⟨_, rfl⟩
    have hql : q < n + 2 := by rw [hq]; exact Nat.mod_lt _ (by omega)
    obtain ⟨b, o, u, rfl, hbl, hu, hcell⟩ := r6.at_ q hql
    have hq1 : (p : Int).tmod ((n : Int) + 2) = (q : Int) := by
      rw [Int.tmod_eq_emod_of_nonneg (by omega), hq]; rfl
    have hq2 : ¬ ((n : Int) + 2 = 0) := by omega
    have k3 : (0 : Int) ≤ (q : Int) := by omega
    have k4 : (q : Int) < (n : Int) + 2 := by omega
    have k5 : 2 ≤ n + 2 := by omega
    have hb2 : UInt8.ofNat by' ≠ 0 := by intro h; apply HB.out; have := congrArg UInt8.toNat h; rw [UInt8.toNat_ofNat', Nat.mod_eq_of_lt (by omega)] at this; exact this
    have hx2 : bits .xor .u8 (u.toNat : Int) (by' : Int) = ((u ^^^ UInt8.ofNat by').toNat : Int) := by
      rw [u8_xor_nat _ _ u.toNat_lt hb, UInt8.toNat_xor, UInt8.toNat_ofNat', Nat.mod_eq_of_lt (by omega)]
    have hvn : u ^^^ UInt8.ofNat by' ≠ u := xor_ne u _ hb2
    generalize u ^^^ UInt8.ofNat by' = v at hx2 hvn
    have HVN := Lib.hid hvn
    clear hq hvn
    go_wp2_with fail
    go_still_tail 15, (by kernel_rfl)
    change wpList _ _ _ _ _ w6.drew
    have hfree := ho6
    obtain ⟨g, hg, hg1, hg2⟩ := ho6.addr (by omega)
    injection hg with hg
    injection hg with hg3 hg4
    subst hg3 hg4
    have hf := ho6.free q
    rw [Nat.zero_add] at hcell
    have hfl := ck_flip _ q u v hu HVN.out HZ.out
    have ho7 := ho6.set_ q v
    have hF : ((numCheck ((xs ++ beB (numCheck xs) 2).set q v) : Int) != 0) = true := by rw [bne_iff_ne]; omega
    have hb7 := hb6.setCell (p := ⟨b, q, none⟩) hg1 (.int .u8 (v.toNat : Int))
    clear hfree hfl hu
    go_wp2_with fail
    refine (numCheck_any _ _ _ _ _ ho7.rd.drew).mono ?_
    rintro e w7 ⟨rfl, rfl⟩
    go_wp2_with fail
    refine (heads01 _).mono ?_
    rintro e w9 ⟨rfl, hb9⟩
    go_wp2
    go_ret
    exact ⟨rfl, below_then hb7.drew hb9⟩

theorem numSealed_law (A : Option Addr) (n c : Nat) (xs : List UInt8) (x : Int) (y : Nat) (w : World) (hr : RdB w A n c xs) (hx : -9223372036854775808 ≤ x ∧ x ≤ 9223372036854775807) (hy : y < 256) :
    Calls Try.prog 14 #[.slice A n c, .int .i64 x, .int .u8 y] w (RetV w (.bool true)) := by
  by_cases h : 2000 < n ∨ n % 2 = 1
  · exact sealed_early A n c xs x y w hr hx hy h
  · exact sealed_main A n c xs x y w hr hx hy (by omega) (by omega)
end Go.Proofs.Ythaampcfkmfjcaa
