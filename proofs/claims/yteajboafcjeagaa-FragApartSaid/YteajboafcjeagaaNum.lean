/-
  The walks of package num's Le, Be, FromLe, FromBe, and of the reference's.
-/
import Derived.Test.YteajboafcjeagaaNumMath
import Derived.Test.YteajboafcjeagaaSl
import Derived.Test.YteajboafcjeagaaPlan
import Derived.OwnWalk
namespace Go.Proofs.Yteajboafcjeagaa
set_option maxRecDepth 20000
open Go.RowKit
set_option linter.unusedVariables false
set_option linter.unusedSimpArgs false

theorem clamp_eq (s : Int) : max 0 (min s 8) = (clamp s : Int) := by
  unfold clamp
  split
  · omega
  · split <;> omega
theorem pow_256 (k : Nat) : 256 ^ k = 2 ^ (8 * k) := by rw [show (256 : Nat) = 2 ^ 8 from rfl, ← Nat.pow_mul]
theorem pow_small (k : Nat) (hk : k ≤ 8) : 256 ^ k ≤ 18446744073709551616 := by
  rw [show 18446744073709551616 = 256 ^ 8 from rfl]; exact Nat.pow_le_pow_right (by decide) hk
theorem or_shl (R k u : Nat) (hR : R < 256 ^ k) (hk : k < 8) (hu : u < 256) :
    bits .or .u64 (R : Int) (IntKind.u64.wrap ((u : Int) * 2 ^ (8 * k))) = ((R + 256 ^ k * u : Nat) : Int) := by
  have hp := pow_small (k + 1) (by omega)
  have h1 : u * 256 ^ k < 256 ^ (k + 1) := by rw [Nat.pow_succ, Nat.mul_comm (256 ^ k)]; exact Nat.mul_lt_mul_of_pos_right hu (Nat.pow_pos (by decide))
  have hR' : R < 256 ^ (k + 1) := Nat.lt_of_lt_of_le hR (Nat.pow_le_pow_right (by decide) (by omega))
  have e : (u : Int) * 2 ^ (8 * k) = ((u * 256 ^ k : Nat) : Int) := by rw [pow_256]; push_cast; rfl
  rw [e, IntWalk.u64_in _ (by omega), u64_or_nat _ _ (by omega) (by omega), Nat.or_comm, nat_join (8 * k) _ _ (by rw [pow_256]; exact Nat.mul_mod_left _ _) (by rw [← pow_256]; exact hR)]
  rw [Nat.mul_comm u, Nat.add_comm]

theorem or_256 (R u : Nat) (h : R < 72057594037927936) (hu : u < 256) : bits .or .u64 ((R : Int) * 256) (u : Int) = ((R * 256 + u : Nat) : Int) := by
  have e : (R : Int) * 256 = ((R * 256 : Nat) : Int) := by omega
  have h1 : R * 256 < 18446744073709551616 := by omega
  have h2 : u < 18446744073709551616 := by omega
  have h8 : (2 : Nat) ^ 8 = 256 := by decide
  have h3 : R * 256 % 2 ^ 8 = 0 := by rw [h8]; exact Nat.mul_mod_left R 256
  have h4 : u < 2 ^ 8 := by rw [h8]; exact hu
  have hj := nat_join 8 (R * 256) u h3 h4
  rw [e, u64_or_nat _ _ h1 h2, hj]

def LeI (N : Nat) (xs : List UInt8) (v i : Value) : Prop := ∃ k, k ≤ N ∧ i = .int .i64 (k : Nat) ∧ v = .int .u64 (lev (xs.take k) : Nat)
theorem min_take (xs : List UInt8) (n N : Nat) (hn : xs.length = n) (hN : N = min n 8) : xs.take 8 = xs.take N := by
  rw [hN, ← hn]
  rcases Nat.le_total xs.length 8 with h | h
  · rw [Nat.min_eq_left h, List.take_of_length_le h, List.take_length]
  · rw [Nat.min_eq_right h]

def BeI (N : Nat) (xs : List UInt8) (v i : Value) : Prop := ∃ k, k ≤ N ∧ i = .int .i64 (k : Nat) ∧ v = .int .u64 (bev (xs.take k) : Nat)
end Go.Proofs.Yteajboafcjeagaa
