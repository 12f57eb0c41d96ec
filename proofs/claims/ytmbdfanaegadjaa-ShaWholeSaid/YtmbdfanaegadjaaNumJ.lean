/-
  num.Parse, of whatever text.
-/
import Derived.Test.YtmbdfanaegadjaaNumI
namespace Go.Proofs.Ytmbdfanaegadjaa
set_option maxRecDepth 20000
open Go.RowKit
set_option linter.unusedVariables false
set_option linter.unusedSimpArgs false

end Go.Proofs.Ytmbdfanaegadjaa
