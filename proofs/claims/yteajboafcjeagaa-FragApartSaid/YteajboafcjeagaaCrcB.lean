/-
  The walks of crc.Holds, of the reference's Closed and Holds, and of the page's Bytes.
-/
import Derived.Test.YteajboafcjeagaaBox
import Derived.Test.YteajboafcjeagaaCrc
import Derived.RegionTactic
import Derived.ChangeAlike
import Derived.Test.YteajboafcjeagaaPlan
import Derived.Deep.RegionHeld3
namespace Go.Proofs.Yteajboafcjeagaa
set_option maxRecDepth 20000
open Go.RowKit
set_option linter.unusedVariables false
set_option linter.unusedSimpArgs false

end Go.Proofs.Yteajboafcjeagaa
