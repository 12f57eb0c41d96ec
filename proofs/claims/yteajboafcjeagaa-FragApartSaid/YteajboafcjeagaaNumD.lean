/-
  The walk of num.Check.
-/
import Derived.Test.YteajboafcjeagaaNumC
namespace Go.Proofs.Yteajboafcjeagaa
set_option maxRecDepth 20000
open Go.RowKit
set_option linter.unusedVariables false
set_option linter.unusedSimpArgs false

theorem i64_and1 (n : Int) : bits .and .i64 n 1 = n % 2 := by
  have h1 : (BitVec.ofInt 64 1).toNat = 2 ^ 1 - 1 := by decide
  have key : (BitVec.ofInt 64 n &&& BitVec.ofInt 64 1).toNat = (n % ((2 ^ 64 : Nat) : Int)).toNat % 2 ^ 1 := by
    rw [BitVec.toNat_and, BitVec.toNat_ofInt, h1, Nat.and_two_pow_sub_one_eq_mod]
  show IntKind.i64.wrap ((BitVec.ofInt 64 n &&& BitVec.ofInt 64 1).toNat : Nat) = n % 2
  rw [key, IntKind.wrap_i64]
  omega
theorem u32_low16 (y : Nat) (h : y < 4294967296) : bits .and .u32 (y : Int) 65535 = ((y % 65536 : Nat) : Int) := by
  rw [show (65535 : Int) = ((65535 : Nat) : Int) from rfl, u32_and_nat y 65535 h (by omega), show (65535 : Nat) = 2 ^ 16 - 1 from rfl, Nat.and_two_pow_sub_one_eq_mod]
theorem not_xor16 {r : Nat} (h : r < 65536) : 65535 - r = r ^^^ 65535 := by
  apply Nat.eq_of_testBit_eq
  intro i
  have e : 65535 - r = 2 ^ 16 - (r + 1) := by omega
  rw [e, Nat.testBit_two_pow_sub_succ h, Nat.testBit_xor, show (65535 : Nat) = 2 ^ 16 - 1 from rfl, Nat.testBit_two_pow_sub_one]
  by_cases hi : i < 16
  · simp [hi]
  · have : r.testBit i = false := Nat.testBit_lt_two_pow (Nat.lt_of_lt_of_le h (Nat.pow_le_pow_right (n := 2) (by decide) (show 16 ≤ i by omega)))
    simp [hi, this]
theorem not_u16 (r : Nat) (h : r < 65536) : bits .xor .u16 IntKind.u16.max (r : Int) = ((65535 - r : Nat) : Int) := by
  rw [show IntKind.u16.max = ((65535 : Nat) : Int) from by decide, u16_xor_nat _ _ (by omega) h, Nat.xor_comm, ← not_xor16 h]
def CkI (n : Nat) (xs : List UInt8) (s i : Value) : Prop :=
  ∃ k : Nat, k ≤ n ∧ s = .int .u32 (ckFold (ckTot 0 (xs.take k)) : Nat) ∧ i = .int .i64 (k : Nat)

end Go.Proofs.Yteajboafcjeagaa
