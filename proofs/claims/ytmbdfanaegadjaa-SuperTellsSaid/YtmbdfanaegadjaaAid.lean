/-
  Small words on stores beside what is known.
-/
import Derived.Test.YtmbdfanaegadjaaBox
namespace Go.Proofs.Ytmbdfanaegadjaa
set_option maxRecDepth 20000
open Go.RowKit

theorem scell {w : World} {g g' i j : Nat} {u v : Value} (h : g ≠ g') (hc : w.cell? ⟨g, i, none⟩ = some u) : (w.setCell ⟨g', j, none⟩ v).cell? ⟨g, i, none⟩ = some u := by
  rw [World.cell?_setCell_other _ _ _ _ (fun e => h (by cases e; rfl))]; exact hc
theorem scell_off {w : World} {g i j : Nat} {u v : Value} (h : i ≠ j) (hc : w.cell? ⟨g, i, none⟩ = some u) : (w.setCell ⟨g, j, none⟩ v).cell? ⟨g, i, none⟩ = some u := by
  rw [World.cell?_setCell_other _ _ _ _ (fun e => h (by cases e; rfl))]; exact hc
theorem row1 (w : World) (cs : Array Value) (T : TypeId) : (w.alloc (.cells cs T)).heap[w.heap.size]? = some (.cells cs T (0, 0)) := heap_alloc_new w _
theorem row2a (w : World) (cs ds : Array Value) (T U : TypeId) : ((w.alloc (.cells cs T)).alloc (.cells ds U)).heap[w.heap.size]? = some (.cells cs T (0, 0)) := by
  rw [Below.heap_alloc _ _ _ (by simp)]; exact heap_alloc_new w _
theorem row2b (w : World) (cs ds : Array Value) (T U : TypeId) : ((w.alloc (.cells cs T)).alloc (.cells ds U)).heap[w.heap.size + 1]? = some (.cells ds U (0, 0)) := by
  have := heap_alloc_new (w.alloc (.cells cs T)) (.cells ds U)
  simpa using this
end Go.Proofs.Ytmbdfanaegadjaa
