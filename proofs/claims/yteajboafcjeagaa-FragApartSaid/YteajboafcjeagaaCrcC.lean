/-
  What must come at any rate (layer 2's heads), and the four laws' walks.
-/
import Derived.Test.YteajboafcjeagaaCrcB
namespace Go.Proofs.Yteajboafcjeagaa
set_option maxRecDepth 20000
open Go.RowKit
set_option linter.unusedVariables false
set_option linter.unusedSimpArgs false

end Go.Proofs.Yteajboafcjeagaa
