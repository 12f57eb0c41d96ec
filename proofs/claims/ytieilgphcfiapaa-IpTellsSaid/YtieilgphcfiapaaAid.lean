/-
  Small words on stores beside what is known.
-/
import Derived.Test.YtieilgphcfiapaaBox
namespace Go.Proofs.Ytieilgphcfiapaa
set_option maxRecDepth 20000
open Go.RowKit

theorem scell {w : World} {g g' i j : Nat} {u v : Value} (h : g ≠ g') (hc : w.cell? ⟨g, i, none⟩ = some u) : (w.setCell ⟨g', j, none⟩ v).cell? ⟨g, i, none⟩ = some u := by
  rw [World.cell?_setCell_other _ _ _ _ (fun e => h (by cases e; rfl))]; exact hc
theorem scell_off {w : World} {g i j : Nat} {u v : Value} (h : i ≠ j) (hc : w.cell? ⟨g, i, none⟩ = some u) : (w.setCell ⟨g, j, none⟩ v).cell? ⟨g, i, none⟩ = some u := by
  rw [World.cell?_setCell_other _ _ _ _ (fun e => h (by cases e; rfl))]; exact hc
end Go.Proofs.Ytieilgphcfiapaa
