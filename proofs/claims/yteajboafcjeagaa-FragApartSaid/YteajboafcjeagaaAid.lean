/-
  Small words on stores beside what is known.
-/
import Derived.Test.YteajboafcjeagaaBox
namespace Go.Proofs.Yteajboafcjeagaa
set_option maxRecDepth 20000
open Go.RowKit

theorem scell {w : World} {g g' i j : Nat} {u v : Value} (h : g ≠ g') (hc : w.cell? ⟨g, i, none⟩ = some u) : (w.setCell ⟨g', j, none⟩ v).cell? ⟨g, i, none⟩ = some u := by
  rw [World.cell?_setCell_other _ _ _ _ (fun e => h (by cases e; rfl))]; exact hc
theorem scell_off {w : World} {g i j : Nat} {u v : Value} (h : i ≠ j) (hc : w.cell? ⟨g, i, none⟩ = some u) : (w.setCell ⟨g, j, none⟩ v).cell? ⟨g, i, none⟩ = some u := by
  rw [World.cell?_setCell_other _ _ _ _ (fun e => h (by cases e; rfl))]; exact hc
theorem row1 (w : World) (cs : Array Value) (T : TypeId) : (w.alloc (.cells cs T)).heap[w.heap.size]? = some (.cells cs T (0, 0)) := heap_alloc_new w _
theorem row2a (w : World) (cs ds : Array Value) (T U : TypeId) : ((w.alloc (.cells cs T)).alloc (.cells ds U)).heap[w.heap.size]? = some (.cells cs T (0, 0)) := by
  rw [Below.heap_alloc _ _ _ (by simp)]; exact heap_alloc_new w _
theorem row2b (w : World) (cs ds : Array Value) (T U : TypeId) : ((w.alloc (.cells cs T)).alloc (.cells ds U)).heap[w.heap.size + 1]? = some (.cells ds U (0, 0)) := by
  have := heap_alloc_new (w.alloc (.cells cs T)) (.cells ds U)
  simpa using this
/-- A row of bytes that lies there. -/
theorem rdAt {w : World} {g : Nat} {cs : Array Value} {T : TypeId} {m : Nat × Nat} (h : w.heap[g]? = some (.cells cs T m)) (xs : List UInt8) (n : Nat) (hc : cs.toList = xs.map vB) (hn : xs.length = n) (hm : n ≤ maxLen) : RdB w (some ⟨g, 0, none⟩) n n xs := by
  refine ⟨.inr ⟨g, 0, rfl, ?_, fun i v hv => ?_⟩, hn, Nat.le_refl _, hm⟩
  · rcases Nat.lt_or_ge g w.heap.size with hlt | hge
    · exact hlt
    · rw [Array.getElem?_eq_none hge] at h; cases h
  · rw [Nat.zero_add, cell_of_row _ _ i cs T m h]
    rw [← hc] at hv
    simpa using hv
/-- A part of a row that lies there. -/
theorem rdPart {w : World} {g : Nat} {cs : Array Value} {T : TypeId} {m : Nat × Nat} (h : w.heap[g]? = some (.cells cs T m)) (off : Nat) (xs : List UInt8) (n : Nat) (hc : ∀ i, i < xs.length → cs[off + i]? = (xs.map vB)[i]?) (hn : xs.length = n) (hm : n ≤ maxLen) : RdB w (some ⟨g, off, none⟩) n n xs := by
  refine ⟨.inr ⟨g, off, rfl, ?_, fun i v hv => ?_⟩, hn, Nat.le_refl _, hm⟩
  · rcases Nat.lt_or_ge g w.heap.size with hlt | hge
    · exact hlt
    · rw [Array.getElem?_eq_none hge] at h; cases h
  · have hi : i < xs.length := by have := (List.getElem?_eq_some_iff.1 hv).1; simpa using this
    rw [cell_of_row _ _ (off + i) cs T m h, hc i hi, hv]
/-- A row of values that lies there. -/
theorem rdsAt {w : World} {g : Nat} {cs : Array Value} {T : TypeId} {m : Nat × Nat} (h : w.heap[g]? = some (.cells cs T m)) : Rd w (some ⟨g, 0, none⟩) cs.toList := by
  refine .inr ⟨g, 0, rfl, ?_, fun i v hv => ?_⟩
  · rcases Nat.lt_or_ge g w.heap.size with hlt | hge
    · exact hlt
    · rw [Array.getElem?_eq_none hge] at h; cases h
  · rw [Nat.zero_add, cell_of_row _ _ i cs T m h]
    simpa using hv
theorem setc_rowT {w : World} {g i : Nat} {cs : Array Value} {T : TypeId} {v : Value} (h : w.heap[g]? = some (.cells cs T (0, 0))) : (w.setCell ⟨g, i, none⟩ v).heap[g]? = some (.cells (cs.setIfInBounds i v) T (0, 0)) := by
  rw [setCell_eq_setRow w g i cs T (0, 0) v h]
  exact setRow_heap w g cs _ T (0, 0) h
end Go.Proofs.Yteajboafcjeagaa
