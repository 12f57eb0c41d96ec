/-
  Layer 20: what packets may be; whole ones.
-/
import Derived.Test.YtndabecdfccjlaaBld
import Derived.Test.YtndabecdfccjlaaIpMath
import Derived.Test.YtndabecdfccjlaaNumE
namespace Go.Proofs.Ytndabecdfccjlaa
set_option maxRecDepth 20000
open Go.RowKit
set_option linter.unusedVariables false
set_option linter.unusedSimpArgs false

def ipCheck (place proto : Int) (n : Nat) : Bool := decide (0 ≤ place) && (decide (place ≤ 65528) && (decide (place % 8 = 0) && (decide (0 ≤ proto) && (decide (proto ≤ 255) && decide (n ≤ 146)))))
theorem ipCheck_iff (place proto : Int) (n : Nat) : ipCheck place proto n = true ↔ 0 ≤ place ∧ place ≤ 65528 ∧ place % 8 = 0 ∧ 0 ≤ proto ∧ proto ≤ 255 ∧ n ≤ 146 := by
  simp [ipCheck]
def ipWhole (more : Bool) (place : Int) : Bool := !more && decide (place = 0)
end Go.Proofs.Ytndabecdfccjlaa
