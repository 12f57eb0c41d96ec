/-
  The law NumBack.
-/
import Derived.Test.YthaampcfkmfjcaaNumK
import Derived.Test.YthaampcfkmfjcaaNumM
namespace Go.Proofs.Ythaampcfkmfjcaa
open Go.RowKit
set_option linter.unusedVariables false
set_option linter.unusedSimpArgs false

theorem fromLe_leB (u k : Nat) (h : k ≤ 8) : fromLe (leB u k) = u % 256 ^ k := by
  unfold fromLe
  rw [List.take_of_length_le (by rw [leB_length]; exact h), lev_leB]
theorem fromBe_beB (u k : Nat) (h : k ≤ 8) : fromBe (beB u k) = u % 256 ^ k := by
  unfold fromBe
  rw [List.take_of_length_le (by rw [beB_length]; exact h), bev_beB]

theorem numBack_low (u : Nat) (s n : Int) (w : World) (h : s < 0) : Calls Try.prog 13 #[.int .u64 u, .int .i64 s, .int .i64 n] w (RetV w (.bool true)) := by
  have d1 : decide (s < 0) = true := decide_eq_true h
  go_enter Try.func13, Try.ntmps13
  go_wp2_with fail
  refine (heads01 _).mono ?_
  rintro e w9 ⟨rfl, hb9⟩
  go_wp2
  go_ret
  exact ⟨rfl, hb9⟩

theorem numBack_high (u : Nat) (s n : Int) (w : World) (h : 8 < s) : Calls Try.prog 13 #[.int .u64 u, .int .i64 s, .int .i64 n] w (RetV w (.bool true)) := by
  have d1 : decide (s < 0) = false := decide_eq_false (by omega)
  have d2 : decide (8 < s) = true := decide_eq_true h
  go_enter Try.func13, Try.ntmps13
  go_wp2_with fail
  refine (heads01 _).mono ?_
  rintro e w9 ⟨rfl, hb9⟩
  go_wp2
  go_ret
  exact ⟨rfl, hb9⟩

theorem numBack_0 (u : Nat) (n : Int) (w : World) (hu : u < 18446744073709551616) (hn : -9223372036854775808 ≤ n ∧ n ≤ 9223372036854775807) :
    Calls Try.prog 13 #[.int .u64 u, .int .i64 0, .int .i64 n] w (RetV w (.bool true)) := by
  have e1 : fromLe (leB u 0) = u % 1 := by rw [fromLe_leB u 0 (by decide)]
  have e2 : fromBe (beB u 0) = u % 1 := by rw [fromBe_beB u 0 (by decide)]
  have E1 := Lib.hid e1
  have E2 := Lib.hid e2
  have EO := Lib.hid (parse_dec n hn).1
  have EN := Lib.hid (parse_dec n hn).2
  have hl : (decI n).length ≤ 9223372036854775807 := by
    obtain ⟨_, _, _, h4⟩ := decL_facts n.natAbs
    have := h4 19 (by omega) (by omega)
    unfold decI; split <;> simp <;> omega
  clear e1 e2
  go_enter Try.func13, Try.ntmps13
  go_wp2_with fail
  refine (le_any u 0 _ hu).mono ?_
  rintro e w1 ⟨A1, n1, c1, rfl, ho1, hb1⟩
  rw [show clamp 0 = 0 by decide] at ho1
  obtain rfl : n1 = 0 := by rw [← ho1.len, leB_length]
  go_wp2_with fail
  refine (be_any u 0 _ hu).mono ?_
  rintro e w2 ⟨A2, n2, c2, rfl, ho2, hb2⟩
  rw [show clamp 0 = 0 by decide] at ho2
  obtain rfl : n2 = 0 := by rw [← ho2.len, beB_length]
  go_wp2_with fail
  refine (dec_any n _ hn).mono ?_
  rintro e w3 ⟨rfl, hb3⟩
  go_wp2_with fail
  refine (parse_any (decI n) _ hl).mono ?_
  rintro e w4 ⟨rfl, hb4⟩
  rw [EO.out, EN.out]
  have B := below_then hb3 hb4
  go_wp2_with fail
  refine (fromLe_any A1 0 c1 _ _ (ho1.rd.below (below_then hb2 B))).mono ?_
  rintro e w5 ⟨rfl, rfl⟩
  rw [E1.out]
  go_wp2_with fail
  refine (fromBe_any A2 0 c2 _ _ (ho2.rd.below B)).mono ?_
  rintro e w5 ⟨rfl, rfl⟩
  rw [E2.out]
  go_wp2_with fail
  refine (heads01 _).mono ?_
  rintro e w9 ⟨rfl, hb9⟩
  go_wp2
  go_ret
  exact ⟨rfl, below_then (below_then hb1 (below_then hb2 B)) hb9⟩

theorem numBack_1 (u : Nat) (n : Int) (w : World) (hu : u < 18446744073709551616) (hn : -9223372036854775808 ≤ n ∧ n ≤ 9223372036854775807) :
    Calls Try.prog 13 #[.int .u64 u, .int .i64 1, .int .i64 n] w (RetV w (.bool true)) := by
  have e1 : fromLe (leB u 1) = u % 256 := by rw [fromLe_leB u 1 (by decide)]
  have e2 : fromBe (beB u 1) = u % 256 := by rw [fromBe_beB u 1 (by decide)]
  have E1 := Lib.hid e1
  have E2 := Lib.hid e2
  have EO := Lib.hid (parse_dec n hn).1
  have EN := Lib.hid (parse_dec n hn).2
  have hl : (decI n).length ≤ 9223372036854775807 := by
    obtain ⟨_, _, _, h4⟩ := decL_facts n.natAbs
    have := h4 19 (by omega) (by omega)
    unfold decI; split <;> simp <;> omega
  clear e1 e2
  go_enter Try.func13, Try.ntmps13
  go_wp2_with fail
  refine (le_any u 1 _ hu).mono ?_
  rintro e w1 ⟨A1, n1, c1, rfl, ho1, hb1⟩
  rw [show clamp 1 = 1 by decide] at ho1
  obtain rfl : n1 = 1 := by rw [← ho1.len, leB_length]
  go_wp2_with fail
  refine (be_any u 1 _ hu).mono ?_
  rintro e w2 ⟨A2, n2, c2, rfl, ho2, hb2⟩
  rw [show clamp 1 = 1 by decide] at ho2
  obtain rfl : n2 = 1 := by rw [← ho2.len, beB_length]
  go_wp2_with fail
  refine (dec_any n _ hn).mono ?_
  rintro e w3 ⟨rfl, hb3⟩
  go_wp2_with fail
  refine (parse_any (decI n) _ hl).mono ?_
  rintro e w4 ⟨rfl, hb4⟩
  rw [EO.out, EN.out]
  have B := below_then hb3 hb4
  go_wp2_with fail
  refine (fromLe_any A1 1 c1 _ _ (ho1.rd.below (below_then hb2 B))).mono ?_
  rintro e w5 ⟨rfl, rfl⟩
  rw [E1.out]
  go_wp2_with fail
  refine (fromBe_any A2 1 c2 _ _ (ho2.rd.below B)).mono ?_
  rintro e w5 ⟨rfl, rfl⟩
  rw [E2.out]
  go_wp2_with fail
  refine (heads01 _).mono ?_
  rintro e w9 ⟨rfl, hb9⟩
  go_wp2
  go_ret
  exact ⟨rfl, below_then (below_then hb1 (below_then hb2 B)) hb9⟩

theorem numBack_2 (u : Nat) (n : Int) (w : World) (hu : u < 18446744073709551616) (hn : -9223372036854775808 ≤ n ∧ n ≤ 9223372036854775807) :
    Calls Try.prog 13 #[.int .u64 u, .int .i64 2, .int .i64 n] w (RetV w (.bool true)) := by
  have e1 : fromLe (leB u 2) = u % 65536 := by rw [fromLe_leB u 2 (by decide)]
  have e2 : fromBe (beB u 2) = u % 65536 := by rw [fromBe_beB u 2 (by decide)]
  have E1 := Lib.hid e1
  have E2 := Lib.hid e2
  have EO := Lib.hid (parse_dec n hn).1
  have EN := Lib.hid (parse_dec n hn).2
  have hl : (decI n).length ≤ 9223372036854775807 := by
    obtain ⟨_, _, _, h4⟩ := decL_facts n.natAbs
    have := h4 19 (by omega) (by omega)
    unfold decI; split <;> simp <;> omega
  clear e1 e2
  go_enter Try.func13, Try.ntmps13
  go_wp2_with fail
  refine (le_any u 2 _ hu).mono ?_
  rintro e w1 ⟨A1, n1, c1, rfl, ho1, hb1⟩
  rw [show clamp 2 = 2 by decide] at ho1
  obtain rfl : n1 = 2 := by rw [← ho1.len, leB_length]
  go_wp2_with fail
  refine (be_any u 2 _ hu).mono ?_
  rintro e w2 ⟨A2, n2, c2, rfl, ho2, hb2⟩
  rw [show clamp 2 = 2 by decide] at ho2
  obtain rfl : n2 = 2 := by rw [← ho2.len, beB_length]
  go_wp2_with fail
  refine (dec_any n _ hn).mono ?_
  rintro e w3 ⟨rfl, hb3⟩
  go_wp2_with fail
  refine (parse_any (decI n) _ hl).mono ?_
  rintro e w4 ⟨rfl, hb4⟩
  rw [EO.out, EN.out]
  have B := below_then hb3 hb4
  go_wp2_with fail
  refine (fromLe_any A1 2 c1 _ _ (ho1.rd.below (below_then hb2 B))).mono ?_
  rintro e w5 ⟨rfl, rfl⟩
  rw [E1.out]
  go_wp2_with fail
  refine (fromBe_any A2 2 c2 _ _ (ho2.rd.below B)).mono ?_
  rintro e w5 ⟨rfl, rfl⟩
  rw [E2.out]
  go_wp2_with fail
  refine (heads01 _).mono ?_
  rintro e w9 ⟨rfl, hb9⟩
  go_wp2
  go_ret
  exact ⟨rfl, below_then (below_then hb1 (below_then hb2 B)) hb9⟩

theorem numBack_3 (u : Nat) (n : Int) (w : World) (hu : u < 18446744073709551616) (hn : -9223372036854775808 ≤ n ∧ n ≤ 9223372036854775807) :
    Calls Try.prog 13 #[.int .u64 u, .int .i64 3, .int .i64 n] w (RetV w (.bool true)) := by
  have e1 : fromLe (leB u 3) = u % 16777216 := by rw [fromLe_leB u 3 (by decide)]
  have e2 : fromBe (beB u 3) = u % 16777216 := by rw [fromBe_beB u 3 (by decide)]
  have E1 := Lib.hid e1
  have E2 := Lib.hid e2
  have EO := Lib.hid (parse_dec n hn).1
  have EN := Lib.hid (parse_dec n hn).2
  have hl : (decI n).length ≤ 9223372036854775807 := by
    obtain ⟨_, _, _, h4⟩ := decL_facts n.natAbs
    have := h4 19 (by omega) (by omega)
    unfold decI; split <;> simp <;> omega
  clear e1 e2
  go_enter Try.func13, Try.ntmps13
  go_wp2_with fail
  refine (le_any u 3 _ hu).mono ?_
  rintro e w1 ⟨A1, n1, c1, rfl, ho1, hb1⟩
  rw [show clamp 3 = 3 by decide] at ho1
  obtain rfl : n1 = 3 := by rw [← ho1.len, leB_length]
  go_wp2_with fail
  refine (be_any u 3 _ hu).mono ?_
  rintro e w2 ⟨A2, n2, c2, rfl, ho2, hb2⟩
  rw [show clamp 3 = 3 by decide] at ho2
  obtain rfl : n2 = 3 := by rw [← ho2.len, beB_length]
  go_wp2_with fail
  refine (dec_any n _ hn).mono ?_
  rintro e w3 ⟨rfl, hb3⟩
  go_wp2_with fail
  refine (parse_any (decI n) _ hl).mono ?_
  rintro e w4 ⟨rfl, hb4⟩
  rw [EO.out, EN.out]
  have B := below_then hb3 hb4
  go_wp2_with fail
  refine (fromLe_any A1 3 c1 _ _ (ho1.rd.below (below_then hb2 B))).mono ?_
  rintro e w5 ⟨rfl, rfl⟩
  rw [E1.out]
  go_wp2_with fail
  refine (fromBe_any A2 3 c2 _ _ (ho2.rd.below B)).mono ?_
  rintro e w5 ⟨rfl, rfl⟩
  rw [E2.out]
  go_wp2_with fail
  refine (heads01 _).mono ?_
  rintro e w9 ⟨rfl, hb9⟩
  go_wp2
  go_ret
  exact ⟨rfl, below_then (below_then hb1 (below_then hb2 B)) hb9⟩

theorem numBack_4 (u : Nat) (n : Int) (w : World) (hu : u < 18446744073709551616) (hn : -9223372036854775808 ≤ n ∧ n ≤ 9223372036854775807) :
    Calls Try.prog 13 #[.int .u64 u, .int .i64 4, .int .i64 n] w (RetV w (.bool true)) := by
  have e1 : fromLe (leB u 4) = u % 4294967296 := by rw [fromLe_leB u 4 (by decide)]
  have e2 : fromBe (beB u 4) = u % 4294967296 := by rw [fromBe_beB u 4 (by decide)]
  have E1 := Lib.hid e1
  have E2 := Lib.hid e2
  have EO := Lib.hid (parse_dec n hn).1
  have EN := Lib.hid (parse_dec n hn).2
  have hl : (decI n).length ≤ 9223372036854775807 := by
    obtain ⟨_, _, _, h4⟩ := decL_facts n.natAbs
    have := h4 19 (by omega) (by omega)
    unfold decI; split <;> simp <;> omega
  clear e1 e2
  go_enter Try.func13, Try.ntmps13
  go_wp2_with fail
  refine (le_any u 4 _ hu).mono ?_
  rintro e w1 ⟨A1, n1, c1, rfl, ho1, hb1⟩
  rw [show clamp 4 = 4 by decide] at ho1
  obtain rfl : n1 = 4 := by rw [← ho1.len, leB_length]
  go_wp2_with fail
  refine (be_any u 4 _ hu).mono ?_
  rintro e w2 ⟨A2, n2, c2, rfl, ho2, hb2⟩
  rw [show clamp 4 = 4 by decide] at ho2
  obtain rfl : n2 = 4 := by rw [← ho2.len, beB_length]
  go_wp2_with fail
  refine (dec_any n _ hn).mono ?_
  rintro e w3 ⟨rfl, hb3⟩
  go_wp2_with fail
  refine (parse_any (decI n) _ hl).mono ?_
  rintro e w4 ⟨rfl, hb4⟩
  rw [EO.out, EN.out]
  have B := below_then hb3 hb4
  go_wp2_with fail
  refine (fromLe_any A1 4 c1 _ _ (ho1.rd.below (below_then hb2 B))).mono ?_
  rintro e w5 ⟨rfl, rfl⟩
  rw [E1.out]
  go_wp2_with fail
  refine (fromBe_any A2 4 c2 _ _ (ho2.rd.below B)).mono ?_
  rintro e w5 ⟨rfl, rfl⟩
  rw [E2.out]
  go_wp2_with fail
  refine (heads01 _).mono ?_
  rintro e w9 ⟨rfl, hb9⟩
  go_wp2
  go_ret
  exact ⟨rfl, below_then (below_then hb1 (below_then hb2 B)) hb9⟩

theorem numBack_5 (u : Nat) (n : Int) (w : World) (hu : u < 18446744073709551616) (hn : -9223372036854775808 ≤ n ∧ n ≤ 9223372036854775807) :
    Calls Try.prog 13 #[.int .u64 u, .int .i64 5, .int .i64 n] w (RetV w (.bool true)) := by
  have e1 : fromLe (leB u 5) = u % 1099511627776 := by rw [fromLe_leB u 5 (by decide)]
  have e2 : fromBe (beB u 5) = u % 1099511627776 := by rw [fromBe_beB u 5 (by decide)]
  have E1 := Lib.hid e1
  have E2 := Lib.hid e2
  have EO := Lib.hid (parse_dec n hn).1
  have EN := Lib.hid (parse_dec n hn).2
  have hl : (decI n).length ≤ 9223372036854775807 := by
    obtain ⟨_, _, _, h4⟩ := decL_facts n.natAbs
    have := h4 19 (by omega) (by omega)
    unfold decI; split <;> simp <;> omega
  clear e1 e2
  go_enter Try.func13, Try.ntmps13
  go_wp2_with fail
  refine (le_any u 5 _ hu).mono ?_
  rintro e w1 ⟨A1, n1, c1, rfl, ho1, hb1⟩
  rw [show clamp 5 = 5 by decide] at ho1
  obtain rfl : n1 = 5 := by rw [← ho1.len, leB_length]
  go_wp2_with fail
  refine (be_any u 5 _ hu).mono ?_
  rintro e w2 ⟨A2, n2, c2, rfl, ho2, hb2⟩
  rw [show clamp 5 = 5 by decide] at ho2
  obtain rfl : n2 = 5 := by rw [← ho2.len, beB_length]
  go_wp2_with fail
  refine (dec_any n _ hn).mono ?_
  rintro e w3 ⟨rfl, hb3⟩
  go_wp2_with fail
  refine (parse_any (decI n) _ hl).mono ?_
  rintro e w4 ⟨rfl, hb4⟩
  rw [EO.out, EN.out]
  have B := below_then hb3 hb4
  go_wp2_with fail
  refine (fromLe_any A1 5 c1 _ _ (ho1.rd.below (below_then hb2 B))).mono ?_
  rintro e w5 ⟨rfl, rfl⟩
  rw [E1.out]
  go_wp2_with fail
  refine (fromBe_any A2 5 c2 _ _ (ho2.rd.below B)).mono ?_
  rintro e w5 ⟨rfl, rfl⟩
  rw [E2.out]
  go_wp2_with fail
  refine (heads01 _).mono ?_
  rintro e w9 ⟨rfl, hb9⟩
  go_wp2
  go_ret
  exact ⟨rfl, below_then (below_then hb1 (below_then hb2 B)) hb9⟩

theorem numBack_6 (u : Nat) (n : Int) (w : World) (hu : u < 18446744073709551616) (hn : -9223372036854775808 ≤ n ∧ n ≤ 9223372036854775807) :
    Calls Try.prog 13 #[.int .u64 u, .int .i64 6, .int .i64 n] w (RetV w (.bool true)) := by
  have e1 : fromLe (leB u 6) = u % 281474976710656 := by rw [fromLe_leB u 6 (by decide)]
  have e2 : fromBe (beB u 6) = u % 281474976710656 := by rw [fromBe_beB u 6 (by decide)]
  have E1 := Lib.hid e1
  have E2 := Lib.hid e2
  have EO := Lib.hid (parse_dec n hn).1
  have EN := Lib.hid (parse_dec n hn).2
  have hl : (decI n).length ≤ 9223372036854775807 := by
    obtain ⟨_, _, _, h4⟩ := decL_facts n.natAbs
    have := h4 19 (by omega) (by omega)
    unfold decI; split <;> simp <;> omega
  clear e1 e2
  go_enter Try.func13, Try.ntmps13
  go_wp2_with fail
  refine (le_any u 6 _ hu).mono ?_
  rintro e w1 ⟨A1, n1, c1, rfl, ho1, hb1⟩
  rw [show clamp 6 = 6 by decide] at ho1
  obtain rfl : n1 = 6 := by rw [← ho1.len, leB_length]
  go_wp2_with fail
  refine (be_any u 6 _ hu).mono ?_
  rintro e w2 ⟨A2, n2, c2, rfl, ho2, hb2⟩
  rw [show clamp 6 = 6 by decide] at ho2
  obtain rfl : n2 = 6 := by rw [← ho2.len, beB_length]
  go_wp2_with fail
  refine (dec_any n _ hn).mono ?_
  rintro e w3 ⟨rfl, hb3⟩
  go_wp2_with fail
  refine (parse_any (decI n) _ hl).mono ?_
  rintro e w4 ⟨rfl, hb4⟩
  rw [EO.out, EN.out]
  have B := below_then hb3 hb4
  go_wp2_with fail
  refine (fromLe_any A1 6 c1 _ _ (ho1.rd.below (below_then hb2 B))).mono ?_
  rintro e w5 ⟨rfl, rfl⟩
  rw [E1.out]
  go_wp2_with fail
  refine (fromBe_any A2 6 c2 _ _ (ho2.rd.below B)).mono ?_
  rintro e w5 ⟨rfl, rfl⟩
  rw [E2.out]
  go_wp2_with fail
  refine (heads01 _).mono ?_
  rintro e w9 ⟨rfl, hb9⟩
  go_wp2
  go_ret
  exact ⟨rfl, below_then (below_then hb1 (below_then hb2 B)) hb9⟩

theorem numBack_7 (u : Nat) (n : Int) (w : World) (hu : u < 18446744073709551616) (hn : -9223372036854775808 ≤ n ∧ n ≤ 9223372036854775807) :
    Calls Try.prog 13 #[.int .u64 u, .int .i64 7, .int .i64 n] w (RetV w (.bool true)) := by
  have e1 : fromLe (leB u 7) = u % 72057594037927936 := by rw [fromLe_leB u 7 (by decide)]
  have e2 : fromBe (beB u 7) = u % 72057594037927936 := by rw [fromBe_beB u 7 (by decide)]
  have E1 := Lib.hid e1
  have E2 := Lib.hid e2
  have EO := Lib.hid (parse_dec n hn).1
  have EN := Lib.hid (parse_dec n hn).2
  have hl : (decI n).length ≤ 9223372036854775807 := by
    obtain ⟨_, _, _, h4⟩ := decL_facts n.natAbs
    have := h4 19 (by omega) (by omega)
    unfold decI; split <;> simp <;> omega
  clear e1 e2
  go_enter Try.func13, Try.ntmps13
  go_wp2_with fail
  refine (le_any u 7 _ hu).mono ?_
  rintro e w1 ⟨A1, n1, c1, rfl, ho1, hb1⟩
  rw [show clamp 7 = 7 by decide] at ho1
  obtain rfl : n1 = 7 := by rw [← ho1.len, leB_length]
  go_wp2_with fail
  refine (be_any u 7 _ hu).mono ?_
  rintro e w2 ⟨A2, n2, c2, rfl, ho2, hb2⟩
  rw [show clamp 7 = 7 by decide] at ho2
  obtain rfl : n2 = 7 := by rw [← ho2.len, beB_length]
  go_wp2_with fail
  refine (dec_any n _ hn).mono ?_
  rintro e w3 ⟨rfl, hb3⟩
  go_wp2_with fail
  refine (parse_any (decI n) _ hl).mono ?_
  rintro e w4 ⟨rfl, hb4⟩
  rw [EO.out, EN.out]
  have B := below_then hb3 hb4
  go_wp2_with fail
  refine (fromLe_any A1 7 c1 _ _ (ho1.rd.below (below_then hb2 B))).mono ?_
  rintro e w5 ⟨rfl, rfl⟩
  rw [E1.out]
  go_wp2_with fail
  refine (fromBe_any A2 7 c2 _ _ (ho2.rd.below B)).mono ?_
  rintro e w5 ⟨rfl, rfl⟩
  rw [E2.out]
  go_wp2_with fail
  refine (heads01 _).mono ?_
  rintro e w9 ⟨rfl, hb9⟩
  go_wp2
  go_ret
  exact ⟨rfl, below_then (below_then hb1 (below_then hb2 B)) hb9⟩

theorem numBack_8 (u : Nat) (n : Int) (w : World) (hu : u < 18446744073709551616) (hn : -9223372036854775808 ≤ n ∧ n ≤ 9223372036854775807) :
    Calls Try.prog 13 #[.int .u64 u, .int .i64 8, .int .i64 n] w (RetV w (.bool true)) := by
  have e1 : fromLe (leB u 8) = u := by rw [fromLe_leB u 8 (by decide)]; exact Nat.mod_eq_of_lt hu
  have e2 : fromBe (beB u 8) = u := by rw [fromBe_beB u 8 (by decide)]; exact Nat.mod_eq_of_lt hu
  have E1 := Lib.hid e1
  have E2 := Lib.hid e2
  have EO := Lib.hid (parse_dec n hn).1
  have EN := Lib.hid (parse_dec n hn).2
  have hl : (decI n).length ≤ 9223372036854775807 := by
    obtain ⟨_, _, _, h4⟩ := decL_facts n.natAbs
    have := h4 19 (by omega) (by omega)
    unfold decI; split <;> simp <;> omega
  clear e1 e2
  go_enter Try.func13, Try.ntmps13
  go_wp2_with fail
  refine (le_any u 8 _ hu).mono ?_
  rintro e w1 ⟨A1, n1, c1, rfl, ho1, hb1⟩
  rw [show clamp 8 = 8 by decide] at ho1
  obtain rfl : n1 = 8 := by rw [← ho1.len, leB_length]
  go_wp2_with fail
  refine (be_any u 8 _ hu).mono ?_
  rintro e w2 ⟨A2, n2, c2, rfl, ho2, hb2⟩
  rw [show clamp 8 = 8 by decide] at ho2
  obtain rfl : n2 = 8 := by rw [← ho2.len, beB_length]
  go_wp2_with fail
  refine (dec_any n _ hn).mono ?_
  rintro e w3 ⟨rfl, hb3⟩
  go_wp2_with fail
  refine (parse_any (decI n) _ hl).mono ?_
  rintro e w4 ⟨rfl, hb4⟩
  rw [EO.out, EN.out]
  have B := below_then hb3 hb4
  go_wp2_with fail
  refine (fromLe_any A1 8 c1 _ _ (ho1.rd.below (below_then hb2 B))).mono ?_
  rintro e w5 ⟨rfl, rfl⟩
  rw [E1.out]
  go_wp2_with fail
  refine (fromBe_any A2 8 c2 _ _ (ho2.rd.below B)).mono ?_
  rintro e w5 ⟨rfl, rfl⟩
  rw [E2.out]
  go_wp2_with fail
  refine (heads01 _).mono ?_
  rintro e w9 ⟨rfl, hb9⟩
  go_wp2
  go_ret
  exact ⟨rfl, below_then (below_then hb1 (below_then hb2 B)) hb9⟩

theorem numBack_law (u : Nat) (s n : Int) (w : World) (hu : u < 18446744073709551616) (hs : -9223372036854775808 ≤ s ∧ s ≤ 9223372036854775807) (hn : -9223372036854775808 ≤ n ∧ n ≤ 9223372036854775807) :
    Calls Try.prog 13 #[.int .u64 u, .int .i64 s, .int .i64 n] w (RetV w (.bool true)) := by
  rcases Int.lt_or_le s 0 with h | h
  · exact numBack_low u s n w h
  · rcases Int.lt_or_le 8 s with h2 | h2
    · exact numBack_high u s n w h2
    · have hc : s = 0 ∨ s = 1 ∨ s = 2 ∨ s = 3 ∨ s = 4 ∨ s = 5 ∨ s = 6 ∨ s = 7 ∨ s = 8 := by omega
      rcases hc with rfl | rfl | rfl | rfl | rfl | rfl | rfl | rfl | rfl
      · exact numBack_0 u n w hu hn
      · exact numBack_1 u n w hu hn
      · exact numBack_2 u n w hu hn
      · exact numBack_3 u n w hu hn
      · exact numBack_4 u n w hu hn
      · exact numBack_5 u n w hu hn
      · exact numBack_6 u n w hu hn
      · exact numBack_7 u n w hu hn
      · exact numBack_8 u n w hu hn
end Go.Proofs.Ythaampcfkmfjcaa
