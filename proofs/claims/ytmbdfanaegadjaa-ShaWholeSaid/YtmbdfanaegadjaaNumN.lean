/-
  The law NumBack.
-/
import Derived.Test.YtmbdfanaegadjaaNumK
import Derived.Test.YtmbdfanaegadjaaNumM
namespace Go.Proofs.Ytmbdfanaegadjaa
set_option maxRecDepth 20000
open Go.RowKit
set_option linter.unusedVariables false
set_option linter.unusedSimpArgs false

theorem fromLe_leB (u k : Nat) (h : k ≤ 8) : fromLe (leB u k) = u % 256 ^ k := by
  unfold fromLe
  rw [List.take_of_length_le (by rw [leB_length]; exact h), lev_leB]
theorem fromBe_beB (u k : Nat) (h : k ≤ 8) : fromBe (beB u k) = u % 256 ^ k := by
  unfold fromBe
  rw [List.take_of_length_le (by rw [beB_length]; exact h), bev_beB]

end Go.Proofs.Ytmbdfanaegadjaa
