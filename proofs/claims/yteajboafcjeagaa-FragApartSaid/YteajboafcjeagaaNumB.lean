/-
  The walks of num.put, Le, Be, and of the reference's four.
-/
import Derived.Test.YteajboafcjeagaaNum
namespace Go.Proofs.Yteajboafcjeagaa
set_option maxRecDepth 20000
open Go.RowKit
set_option linter.unusedVariables false
set_option linter.unusedSimpArgs false

theorem set_le (n size k : Nat) (h : k < size) : (leB n k ++ List.replicate (size - k) 0).set k (UInt8.ofNat (n / 256 ^ k)) = leB n (k + 1) ++ List.replicate (size - (k + 1)) 0 := by
  rw [List.set_append_right _ _ (by rw [leB_length]; omega), leB_length, Nat.sub_self, leB_succ, show size - k = (size - (k + 1)) + 1 by omega, List.replicate_succ, List.set_cons_zero]
  simp
theorem set_be (n size k : Nat) (h : k < size) : (List.replicate (size - k) 0 ++ beB n k).set (size - 1 - k) (UInt8.ofNat (n / 256 ^ k)) = List.replicate (size - (k + 1)) 0 ++ beB n (k + 1) := by
  rw [List.set_append_left _ _ (by simp; omega), show size - k = (size - (k + 1)) + 1 by omega, List.replicate_succ', show size - 1 - k = (List.replicate (size - (k + 1)) (0 : UInt8)).length by simp; omega,
    List.set_append_right _ _ (Nat.le_refl _), Nat.sub_self]
  unfold beB
  rw [leB_succ]
  simp

theorem byte_val (n k : Nat) : IntKind.u8.wrap ((n : Int) / 2 ^ (8 * k)) = ((UInt8.ofNat (n / 256 ^ k)).toNat : Int) := by
  rw [IntKind.wrap_u8, UInt8.toNat_ofNat', pow_256, Int.natCast_emod, Int.natCast_ediv, Int.natCast_pow]; rfl
def PutI (w : World) (size : Nat) (f : Nat → List UInt8) (i : Value) (wr : World) : Prop :=
  ∃ k, k ≤ size ∧ i = .int .i64 (k : Nat) ∧ OwnB wr w.heap.size (some ⟨w.heap.size, 0, none⟩) size size (f k) ∧ Below w.heap.size w wr

end Go.Proofs.Yteajboafcjeagaa
