/-
  The walk of num.Parse.
-/
import Derived.Test.YtmbdfanaegadjaaBox
import Derived.Test.YtmbdfanaegadjaaNumH
namespace Go.Proofs.Ytmbdfanaegadjaa
set_option maxRecDepth 20000
open Go.RowKit
set_option linter.unusedVariables false
set_option linter.unusedSimpArgs false

def parseRest (xs : List UInt8) : List UInt8 := if xs.head? = some 45 then xs.tail else xs
def parseU (xs : List UInt8) : Int := if xs.head? = some 45 then -((magV xs.tail : Nat) : Int) else ((magV xs : Nat) : Int)
def parseOk (xs : List UInt8) : Bool := magB (parseRest xs) && decide (decI (IntKind.i64.wrap (parseU xs)) = xs)
def parseN (xs : List UInt8) : Int := if parseOk xs = true then IntKind.i64.wrap (parseU xs) else 0
theorem i64_range (a : Int) : -9223372036854775808 ≤ IntKind.i64.wrap a ∧ IntKind.i64.wrap a ≤ 9223372036854775807 := by rw [IntKind.wrap_i64]; omega
theorem wrap_64 (a : Int) : IntKind.i64.wrap (IntKind.u64.wrap a) = IntKind.i64.wrap a := by rw [IntKind.wrap_i64, IntKind.wrap_u64, IntKind.wrap_i64]; omega
theorem strOf_tail (c : UInt8) (ys : List UInt8) : (strOf (c :: ys)).extract 1 (strOf (c :: ys)).size = strOf ys := by
  apply ByteArray.ext
  simp [strOf, ByteArray.data_extract, strOf_size]
  exact List.take_of_length_le (by show ys.length ≤ (c :: ys).length - 1; simp)

end Go.Proofs.Ytmbdfanaegadjaa
