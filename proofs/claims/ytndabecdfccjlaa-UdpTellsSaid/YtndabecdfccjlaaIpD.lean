/-
  Layer 20: Put of the document.
-/
import Derived.Test.YtndabecdfccjlaaIpC
-- facts: PkAt
namespace Go.Proofs.Ytndabecdfccjlaa
set_option maxRecDepth 20000
open Go.RowKit
set_option linter.unusedVariables false
set_option linter.unusedSimpArgs false

end Go.Proofs.Ytndabecdfccjlaa
