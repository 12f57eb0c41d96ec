/-
  The walk of num.Dec.
-/
import Derived.Test.YtmbdfanaegadjaaNumE
namespace Go.Proofs.Ytmbdfanaegadjaa
set_option maxRecDepth 20000
open Go.RowKit
set_option linter.unusedVariables false
set_option linter.unusedSimpArgs false

/-- A number's digits. -/
def decL (u : Nat) : List UInt8 := if h : u < 10 then [UInt8.ofNat (48 + u)] else decL (u / 10) ++ [UInt8.ofNat (48 + u % 10)]
termination_by u
decreasing_by omega
theorem decL_small {u : Nat} (h : u < 10) : decL u = [UInt8.ofNat (48 + u)] := by rw [decL, dif_pos h]
theorem decL_big {u : Nat} (h : ¬ u < 10) : decL u = decL (u / 10) ++ [UInt8.ofNat (48 + u % 10)] := by rw [decL, dif_neg h]
/-- What Dec writes. -/
def decI (n : Int) : List UInt8 := if n < 0 then 45 :: decL n.natAbs else decL n.natAbs

end Go.Proofs.Ytmbdfanaegadjaa
