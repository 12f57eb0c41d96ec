/-
  The walk of the document's answer for num.Dec.
-/
import Derived.Test.YtmbdfanaegadjaaNumF
namespace Go.Proofs.Ytmbdfanaegadjaa
set_option maxRecDepth 20000
open Go.RowKit
set_option linter.unusedVariables false
set_option linter.unusedSimpArgs false

theorem strOf_cons (u : UInt8) (zs : List UInt8) : strOf [u] ++ strOf zs = strOf (u :: zs) := by
  apply ByteArray.ext
  simp [strOf, ByteArray.data_append]
theorem strOf_size (zs : List UInt8) : (strOf zs).size = zs.length := rfl
def RdecJ (w : World) (U : Nat) (v s : Value) (wr : World) : Prop :=
  ∃ (k V : Nat) (zs : List UInt8), 1 ≤ k ∧ k + zs.length ≤ 20 ∧ V < 10 ^ k ∧ V < 18446744073709551616 ∧ v = .int .u64 (V : Nat) ∧ s = .string (strOf zs) ∧ Below w.heap.size w wr ∧ decL U = decL V ++ zs

end Go.Proofs.Ytmbdfanaegadjaa
