/-
  Layer 12: records: the law's heads (plain).
-/
import Derived.Test.YtnfepikgbdeomaaRecP
namespace Go.Proofs.Ytnfepikgbdeomaa
set_option maxRecDepth 20000
set_option linter.unusedVariables false
set_option linter.unusedSimpArgs false

def rcH0 : Rc := ⟨1, 2, 3, 7, 3, 0, [97, 98, 99], List.replicate 32 0⟩
set_option maxRecDepth 100000 in
theorem rcH_chain : decide (shLink (List.replicate 32 0) (rcBody rcH0) = shLink (1 :: List.replicate 31 0) (rcBody rcH0)) = false := by decide +kernel
end Go.Proofs.Ytnfepikgbdeomaa
