/-
  Layer 20: the same packets; a field of a packet's bytes.
-/
import Derived.Test.YtndabecdfccjlaaIpD
-- facts: PkAt
namespace Go.Proofs.Ytndabecdfccjlaa
set_option maxRecDepth 20000
open Go.RowKit
set_option linter.unusedVariables false
set_option linter.unusedSimpArgs false

/-- A field: k bytes from a place on. -/
def fld (xs : List UInt8) (p k : Nat) : Nat := bev ((xs.drop p).take k)
theorem fld_lt (xs : List UInt8) (p k : Nat) : fld xs p k < 256 ^ k := by
  unfold fld
  refine Nat.lt_of_lt_of_le (bev_lt _) (Nat.pow_le_pow_right (by decide) ?_)
  exact List.length_take_le _ _
end Go.Proofs.Ytndabecdfccjlaa
