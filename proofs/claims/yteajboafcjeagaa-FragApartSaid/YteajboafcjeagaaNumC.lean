/-
  The walks of the reference's Le, Be, FromLe, FromBe (layer 1).
-/
import Derived.Test.YteajboafcjeagaaNumB
namespace Go.Proofs.Yteajboafcjeagaa
set_option maxRecDepth 20000
open Go.RowKit
set_option linter.unusedVariables false
set_option linter.unusedSimpArgs false

def RLeI (w : World) (N n : Nat) (v0 v5 v6 : Value) (wr : World) : Prop :=
  ∃ k A c, k ≤ N ∧ v6 = .int .i64 (k : Nat) ∧ v0 = .int .u64 ((n / 256 ^ k : Nat) : Int) ∧ v5 = .slice A k c ∧ OwnB wr w.heap.size A k c (leB n k) ∧ Below w.heap.size w wr
theorem clamp_lt (size : Int) (k : Nat) (h : k < clamp size) : (k : Int) < size ∧ k < 8 := by
  unfold clamp at h
  split at h
  · omega
  · split at h <;> omega
def RBeI (w1 w : World) (N n : Nat) (v6 v7 : Value) (wr : World) : Prop :=
  ∃ k A c, k ≤ N ∧ v7 = .int .i64 ((k + 1 : Nat) : Int) ∧ v6 = .slice A k c ∧ OwnB wr w1.heap.size A k c ((beB n N).take k) ∧ Below w1.heap.size w1 wr
theorem beB_get (n N k : Nat) (h : k < N) (u : UInt8) (hu : (leB n N)[N - (k + 1)]? = some u) : (beB n N).take (k + 1) = (beB n N).take k ++ [u] := by
  rw [List.take_add_one]
  congr 1
  unfold beB
  rw [List.getElem?_reverse (by rw [leB_length]; exact h), leB_length, show N - 1 - k = N - (k + 1) by omega, hu]
  rfl
theorem wide_mul (k u : Nat) (hk : k < 8) (hu : u < 256) : 256 ^ k * u ≤ 256 ^ k * 255 ∧ 256 ^ k * 256 ≤ 18446744073709551616 := by
  refine ⟨Nat.mul_le_mul_left _ (by omega), ?_⟩
  have := pow_small (k + 1) (by omega)
  rwa [Nat.pow_succ] at this
/-- 256 to the k, modulo 2 to the 64. -/
def fpow (k : Nat) : Nat := 256 ^ k % 18446744073709551616
theorem fpow_lt (k : Nat) (hk : k < 8) : fpow k = 256 ^ k := by
  unfold fpow
  have := pow_small (k + 1) (by omega)
  rw [Nat.pow_succ] at this
  have hp : 0 < 256 ^ k := Nat.pow_pos (by decide)
  exact Nat.mod_eq_of_lt (by omega)
theorem fpow_succ (k : Nat) : IntKind.u64.wrap ((fpow k : Int) * 256) = (fpow (k + 1) : Int) := by
  have hw : ∀ x : Int, IntKind.u64.wrap x = x % 18446744073709551616 := fun x => by simp [IntKind.wrap, IntKind.bits, IntKind.signed]
  rw [hw]
  unfold fpow
  have e : 256 ^ (k + 1) % 18446744073709551616 = 256 ^ k % 18446744073709551616 * 256 % 18446744073709551616 := by rw [Nat.pow_succ, Nat.mod_mul_mod]
  rw [e]; rfl
theorem le_step (R k u : Nat) (hk : k < 8) (hR : R < 256 ^ k) (hu : u < 256) : IntKind.u64.wrap ((R : Int) + IntKind.u64.wrap ((fpow k : Int) * (u : Int))) = ((R + 256 ^ k * u : Nat) : Int) := by
  obtain ⟨h1, h2⟩ := wide_mul k u hk hu
  rw [fpow_lt k hk]
  generalize 256 ^ k = F at *
  have e : (F : Int) * (u : Int) = ((F * u : Nat) : Int) := by rw [Int.natCast_mul]
  rw [e]
  generalize F * u = G at *
  rw [IntWalk.u64_in ((G : Nat) : Int) (by omega), IntWalk.u64_in _ (by omega)]
  rfl
def RFlI (N : Nat) (xs : List UInt8) (v3 v4 v5 : Value) : Prop := ∃ k, k ≤ N ∧ v5 = .int .i64 (k : Nat) ∧ v3 = .int .u64 (lev (xs.take k) : Nat) ∧ v4 = .int .u64 (fpow k : Nat)
def RFbI (N : Nat) (xs : List UInt8) (v3 v4 : Value) : Prop := ∃ k, k ≤ N ∧ v4 = .int .i64 (k : Nat) ∧ v3 = .int .u64 (bev (xs.take k) : Nat)
end Go.Proofs.Yteajboafcjeagaa
