/-
  The walk of the document's answer for num.Check.
-/
import Derived.Test.YteajboafcjeagaaNumD
namespace Go.Proofs.Yteajboafcjeagaa
set_option maxRecDepth 20000
open Go.RowKit
set_option linter.unusedVariables false
set_option linter.unusedSimpArgs false

def RckI (n : Nat) (xs : List UInt8) (s i : Value) : Prop :=
  ∃ k : Nat, k ≤ n ∧ s = .int .u64 (ckTot 0 (xs.take k) : Nat) ∧ i = .int .i64 (k : Nat)
def RckJ (T : Nat) (s : Value) : Prop := ∃ t : Nat, t ≤ 65280000000 ∧ ckFold t = ckFold T ∧ s = .int .u64 (t : Nat)

end Go.Proofs.Yteajboafcjeagaa
