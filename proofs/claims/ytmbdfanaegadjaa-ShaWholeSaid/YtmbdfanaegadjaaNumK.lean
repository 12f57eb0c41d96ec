/-
  What must come at any rate, layer 1.
-/
import Derived.Test.YtmbdfanaegadjaaNumJ
import Derived.Test.YtmbdfanaegadjaaCrcB
namespace Go.Proofs.Ytmbdfanaegadjaa
set_option maxRecDepth 20000
open Go.RowKit
set_option linter.unusedVariables false
set_option linter.unusedSimpArgs false

theorem decI_m12 : decI (-12) = [45, 49, 50] := by
  unfold decI
  rw [if_pos (by decide), show (-12 : Int).natAbs = 12 from rfl, decL_big (by decide), show 12 / 10 = 1 from rfl, decL_small (by decide)]
  rfl
theorem decI_7 : decI 7 = [55] := by
  unfold decI
  rw [if_neg (by decide), show (7 : Int).natAbs = 7 from rfl, decL_small (by decide)]
  rfl
theorem ok_m12 : parseOk [45, 49, 50] = true := by
  unfold parseOk
  rw [show parseRest [45, 49, 50] = [49, 50] from rfl, show parseU [45, 49, 50] = -12 from by decide, show IntKind.i64.wrap (-12) = -12 from by decide, decI_m12]
  decide
theorem n_m12 : parseN [45, 49, 50] = -12 := by
  unfold parseN
  rw [if_pos ok_m12]; decide
theorem ok_007 : parseOk [48, 48, 55] = false := by
  unfold parseOk
  rw [show parseRest [48, 48, 55] = [48, 48, 55] from rfl, show parseU [48, 48, 55] = 7 from by decide, show IntKind.i64.wrap 7 = 7 from by decide, decI_7]
  decide

end Go.Proofs.Ytmbdfanaegadjaa
