/-
  Layer 13: a head by value; Check, Home, Place.
-/
import Derived.Test.YteajboafcjeagaaCrcC
import Derived.Test.YteajboafcjeagaaOps
import Derived.Test.YteajboafcjeagaaAid
import Derived.Test.YteajboafcjeagaaSupP
namespace Go.Proofs.Yteajboafcjeagaa
set_option maxRecDepth 20000
open Go.RowKit
set_option linter.unusedVariables false
set_option linter.unusedSimpArgs false
set_option maxHeartbeats 8000000

def suV (g : Nat) (s l : Int) (D : List UInt8) : Array Value := #[.int .u32 g, .int .i64 s, .int .i64 l] ++ (D.map vB).toArray
theorem suV0 (g : Nat) (s l : Int) (D : List UInt8) : (suV g s l D)[0]? = some (.int .u32 g) := by simp [suV, Array.getElem?_append]
theorem suV1 (g : Nat) (s l : Int) (D : List UInt8) : (suV g s l D)[1]? = some (.int .i64 s) := by simp [suV, Array.getElem?_append]
theorem suV2 (g : Nat) (s l : Int) (D : List UInt8) : (suV g s l D)[2]? = some (.int .i64 l) := by simp [suV, Array.getElem?_append]
theorem suV3 (g : Nat) (s l : Int) (D : List UInt8) (k : Nat) : (suV g s l D)[3 + k]? = (D.map vB)[k]? := by rw [suV, Array.getElem?_append_right (by simp)]; simp
theorem suVn (g : Nat) (s l : Int) (D : List UInt8) : (suV g s l D).size = 3 + D.length := by simp [suV]; omega
end Go.Proofs.Yteajboafcjeagaa
