/-
  Layer 6: ports: Check, lines.
-/
import Derived.Test.YtieilgphcfiapaaOps
namespace Go.Proofs.Ytieilgphcfiapaa
set_option maxRecDepth 20000
open Go.RowKit
set_option linter.unusedVariables false
set_option linter.unusedSimpArgs false
set_option maxHeartbeats 4000000

def ptCheck (k n : Nat) : Bool := decide (k ≤ 1099511627776) && decide (n ≤ 64)

theorem ptCheck_any (l m k : Nat) (A : Option Addr) (n c : Nat) (w : World) (hn : n ≤ 9223372036854775807) (hk : k < 18446744073709551616) :
    Calls Try.prog 57 #[.agg #[.int .u32 l, .int .u32 m, .int .u64 k, .slice A n c]] w (RetV w (.bool (ptCheck k n))) := by
  by_cases h1 : k ≤ 1099511627776
  · have d1 : decide ((k : Int) ≤ 1099511627776) = true := decide_eq_true (by omega)
    have e1 : decide (k ≤ 1099511627776) = true := decide_eq_true h1
    have d2 : decide ((n : Int) ≤ 64) = decide (n ≤ 64) := by rw [Bool.eq_iff_iff, decide_eq_true_iff, decide_eq_true_iff]; omega
    go_enter Try.func57, Try.ntmps57
    go_wp2
    go_ret
    exact ⟨by simp [ptCheck, e1], bstep (below_self w) (below_self _)⟩
  · have d1 : decide ((k : Int) ≤ 1099511627776) = false := decide_eq_false (by omega)
    have e1 : decide (k ≤ 1099511627776) = false := decide_eq_false h1
    go_enter Try.func57, Try.ntmps57
    go_wp2
    go_ret
    exact ⟨by simp [ptCheck, e1], bstep (below_self w) (below_self _)⟩
theorem refCheck06_any (l m k : Nat) (A : Option Addr) (n c : Nat) (w : World) (hn : n ≤ 9223372036854775807) (hk : k < 18446744073709551616) :
    Calls Try.prog 40 #[.agg #[.int .u32 l, .int .u32 m, .int .u64 k, .slice A n c]] w (RetV w (.bool (ptCheck k n))) := by
  by_cases h1 : k ≤ 1099511627776
  · have d1 : decide ((k : Int) ≤ 1099511627776) = true := decide_eq_true (by omega)
    have e1 : decide (k ≤ 1099511627776) = true := decide_eq_true h1
    have d2 : decide ((n : Int) ≤ 64) = decide (n ≤ 64) := by rw [Bool.eq_iff_iff, decide_eq_true_iff, decide_eq_true_iff]; omega
    go_enter Try.func40, Try.ntmps40
    go_wp2
    go_ret
    exact ⟨by simp [ptCheck, e1], bstep (below_self w) (below_self _)⟩
  · have d1 : decide ((k : Int) ≤ 1099511627776) = false := decide_eq_false (by omega)
    have e1 : decide (k ≤ 1099511627776) = false := decide_eq_false h1
    go_enter Try.func40, Try.ntmps40
    go_wp2
    go_ret
    exact ⟨by simp [ptCheck, e1], bstep (below_self w) (below_self _)⟩

def clrN (x i : Nat) : Nat := x ^^^ (x &&& 2 ^ i)
theorem clrN_test (x i j : Nat) : (clrN x i).testBit j = (x.testBit j && !decide (i = j)) := by
  unfold clrN
  rw [Nat.testBit_xor, Nat.testBit_and, Nat.testBit_two_pow]
  cases x.testBit j <;> cases decide (i = j) <;> rfl
theorem pow32 (i : Nat) (hi : i < 32) : 2 ^ i < 4294967296 := by
  have : 2 ^ i < 2 ^ 32 := Nat.pow_lt_pow_right (by decide) hi
  simpa using this
theorem lt32_of_bits (x : Nat) (h : ∀ j, 32 ≤ j → x.testBit j = false) : x < 4294967296 := by
  have := Nat.lt_pow_two_of_testBit (n := 32) x h
  simpa using this
theorem bit_high (x j : Nat) (hx : x < 4294967296) (hj : 32 ≤ j) : x.testBit j = false := by
  apply Nat.testBit_lt_two_pow
  have : 2 ^ 32 ≤ 2 ^ j := Nat.pow_le_pow_right (by decide) hj
  omega
theorem orN_lt (x i : Nat) (hx : x < 4294967296) (hi : i < 32) : x ||| 2 ^ i < 4294967296 := by
  have := Nat.or_lt_two_pow (n := 32) (x := x) (y := 2 ^ i) (by simpa using hx) (by simpa using pow32 i hi)
  simpa using this
theorem clrN_lt (x i : Nat) (hx : x < 4294967296) : clrN x i < 4294967296 := by
  apply lt32_of_bits
  intro j hj
  rw [clrN_test, bit_high x j hx hj]; rfl
theorem andN_lt (x y : Nat) (hx : x < 4294967296) : x &&& y < 4294967296 := Nat.lt_of_le_of_lt Nat.and_le_left hx
theorem ofInt32 (x : Nat) (hx : x < 4294967296) : (BitVec.ofInt 32 (x : Int)).toNat = x := by
  rw [BitVec.toNat_ofInt]; omega
theorem or32 (x y : Nat) (hx : x < 4294967296) (hy : y < 4294967296) : bits .or .u32 (x : Int) (y : Int) = ((x ||| y : Nat) : Int) := by
  show IntKind.u32.wrap ((BitVec.ofInt 32 (x : Int) ||| BitVec.ofInt 32 (y : Int)).toNat : Nat) = _
  rw [BitVec.toNat_or, ofInt32 x hx, ofInt32 y hy]
  have : x ||| y < 2 ^ 32 := Nat.or_lt_two_pow (by simpa using hx) (by simpa using hy)
  rw [IntWalk.u32_in _ (by omega)]
theorem and32 (x y : Nat) (hx : x < 4294967296) (hy : y < 4294967296) : bits .and .u32 (x : Int) (y : Int) = ((x &&& y : Nat) : Int) := by
  show IntKind.u32.wrap ((BitVec.ofInt 32 (x : Int) &&& BitVec.ofInt 32 (y : Int)).toNat : Nat) = _
  rw [BitVec.toNat_and, ofInt32 x hx, ofInt32 y hy]
  have : x &&& y ≤ x := Nat.and_le_left
  rw [IntWalk.u32_in _ (by omega)]
theorem clr32 (x i : Nat) (hx : x < 4294967296) (hi : i < 32) : bits .andNot .u32 (x : Int) ((2 ^ i : Nat) : Int) = (clrN x i : Nat) := by
  have hp := pow32 i hi
  show IntKind.u32.wrap ((BitVec.ofInt 32 (x : Int) &&& ~~~ BitVec.ofInt 32 ((2 ^ i : Nat) : Int)).toNat : Nat) = _
  have e : (BitVec.ofInt 32 (x : Int) &&& ~~~ BitVec.ofInt 32 ((2 ^ i : Nat) : Int)).toNat = clrN x i := by
    apply Nat.eq_of_testBit_eq
    intro j
    rw [clrN_test]
    by_cases hj : j < 32
    · rw [BitVec.testBit_toNat, BitVec.getLsbD_and, BitVec.getLsbD_not, ← BitVec.testBit_toNat, ← BitVec.testBit_toNat, ofInt32 x hx, ofInt32 _ hp, Nat.testBit_two_pow]
      simp [hj]
    · rw [bit_high x j hx (by omega), BitVec.testBit_toNat, BitVec.getLsbD_and, BitVec.getLsbD_not]
      simp [hj]
  rw [e, IntWalk.u32_in _ (by have := clrN_lt x i hx; omega)]
theorem powm (i : Nat) (hi : i < 32) : (2 ^ i % 4294967296 : Int) = ((2 ^ i : Nat) : Int) := by
  have := pow32 i hi
  have e : (2 : Int) ^ i = ((2 ^ i : Nat) : Int) := by rw [Int.natCast_pow]; rfl
  rw [e, Int.emod_eq_of_lt (Int.natCast_nonneg _) (by omega)]
/-- A bit set, or not. -/
def withN (x i : Nat) (on : Bool) : Nat := if on then x ||| 2 ^ i else clrN x i
theorem withN_lt (x i : Nat) (on : Bool) (hx : x < 4294967296) (hi : i < 32) : withN x i on < 4294967296 := by
  unfold withN; split
  · exact orN_lt x i hx hi
  · exact clrN_lt x i hx

theorem ref06with_any (x i : Nat) (on : Bool) (w : World) (hx : x < 4294967296) (hi : i < 32) :
    Calls Try.prog 77 #[.int .u32 x, .int .i64 i, .bool on] w (RetV w (.int .u32 (withN x i on))) := by
  have e0 := powm i hi
  have e1 := clr32 x i hx hi
  have e2 := or32 x _ hx (pow32 i hi)
  have hpw := pow32 i hi
  obtain ⟨p, hp⟩ : ∃ p, 2 ^ i = p := ⟨_, rfl⟩
  rw [hp] at e0 e1 e2 hpw
  cases on with
  | false =>
    go_enter Try.func77, Try.ntmps77
    go_wp2
    go_ret
    exact ⟨rfl, below_self _⟩
  | true =>
    have e3 : ((withN x i true : Nat) : Int) = ((x ||| p : Nat) : Int) := by rw [← hp]; rfl
    rw [e3]
    go_enter Try.func77, Try.ntmps77
    go_wp2
    go_ret
    exact ⟨rfl, below_self _⟩

def askedE (l : Int) (k n : Nat) : Int := if ptCheck k n = true then (if l < 0 ∨ 31 < l then 2 else 0) else 3
theorem asked06_any (l m k : Nat) (A : Option Addr) (n c : Nat) (i : Int) (w : World) (hn : n ≤ 9223372036854775807) (hk : k < 18446744073709551616) :
    Calls Try.prog 76 #[.agg #[.int .u32 l, .int .u32 m, .int .u64 k, .slice A n c], .int .i64 i] w (RetV w (.int .i64 (askedE i k n))) := by
  obtain ⟨er, her⟩ : ∃ er, askedE i k n = er := ⟨_, rfl⟩
  rw [her]
  have HE := Lib.hid her
  clear her
  go_enter Try.func76, Try.ntmps76
  go_wp2_with fail
  refine (refCheck06_any l m k A n c _ hn hk).mono ?_
  rintro e w1 ⟨rfl, hb1⟩
  have hB := bstep (below_self w) hb1
  cases hck : ptCheck k n with
  | false =>
    go_wp2
    go_ret
    exact ⟨by rw [← HE.out]; unfold askedE; rw [hck, if_neg (by decide)]; rfl, hB⟩
  | true =>
    by_cases h1 : i < 0
    · have d1 : decide (i < 0) = true := decide_eq_true h1
      go_wp2
      go_ret
      exact ⟨by rw [← HE.out]; unfold askedE; rw [hck, if_pos rfl, if_pos (.inl h1)]; rfl, hB⟩
    · have d1 : decide (i < 0) = false := decide_eq_false h1
      by_cases h2 : 31 < i
      · have d2 : decide (31 < i) = true := decide_eq_true h2
        go_wp2
        go_ret
        exact ⟨by rw [← HE.out]; unfold askedE; rw [hck, if_pos rfl, if_pos (.inr h2)]; rfl, hB⟩
      · have d2 : decide (31 < i) = false := decide_eq_false h2
        go_wp2
        go_ret
        exact ⟨by rw [← HE.out]; unfold askedE; rw [hck, if_pos rfl, if_neg (by omega)]; rfl, hB⟩
end Go.Proofs.Ytieilgphcfiapaa
