/-
  '[]byte(constant)' among other operations: a mark behind the row's end.
-/
import Derived.Test.YtnfepikgbdeomaaOps
namespace Go.Proofs.Ytnfepikgbdeomaa
set_option maxRecDepth 20000
open Go.RowKit
set_option linter.unusedVariables false
set_option linter.unusedSimpArgs false

theorem freeze_cell (w : World) (a : Addr) (k : Nat) (p : Addr) : (w.freeze a k).cell? p = w.cell? p := by
  unfold World.freeze
  split
  · rfl
  · unfold World.cell?
    simp only [Array.getElem?_modify]
    by_cases h : a.block = p.block
    · rw [if_pos h]
      cases hq : w.heap[p.block]? with
      | none => simp
      | some o => cases o <;> simp
    · rw [if_neg h]
theorem freeze_size (w : World) (a : Addr) (k : Nat) : (w.freeze a k).heap.size = w.heap.size := by
  unfold World.freeze; split <;> simp
theorem freeze_other (w : World) (a : Addr) (k j : Nat) (h : j ≠ a.block) : (w.freeze a k).heap[j]? = w.heap[j]? := by
  unfold World.freeze
  split
  · rfl
  · simp only [Array.getElem?_modify]
    rw [if_neg (by omega)]
theorem freeze_below (w : World) (a : Addr) (k B : Nat) (h : B ≤ a.block) : Below B w (w.freeze a k) := by
  refine ⟨?_, ?_, ?_, by rw [freeze_size]; exact Nat.le_refl _, fun j hj => freeze_other w a k j (by omega)⟩ <;> (unfold World.freeze; split <;> rfl)
theorem run_conv_mark {w : World} {g : Nat} {C : Array Value} {fr : Nat × Nat} (hrow : w.heap[g]? = some (.cells C 5 fr)) (n c : Nat) :
    (convert 26 26 (.slice (some ⟨g, 0, none⟩) n c)).run Try.prog w = .ok (.slice (some ⟨g, 0, none⟩) n c) (w.freeze ⟨g, C.size, none⟩ 1) := by
  have hsh : w.shape? g = some (5, C.size) := by unfold World.shape?; rw [hrow]
  simp [convert, run_underlying Try.underlying26, run_underlying Try.underlying5, markStringish, hsh]
/-- All cells as they were. -/
def SameCells (w w' : World) : Prop := (∀ p, w'.cell? p = w.cell? p) ∧ w'.heap.size = w.heap.size
theorem RdB.same {w w' : World} {A : Option Addr} {n c : Nat} {xs : List UInt8} (h : RdB w A n c xs) (hs : SameCells w w') : RdB w' A n c xs :=
  ⟨h.1.keep (by rw [hs.2]; exact Nat.le_refl _) (fun p _ => hs.1 p), h.2⟩
theorem Rd.same {w w' : World} {A : Option Addr} {xs : List Value} (h : Rd w A xs) (hs : SameCells w w') : Rd w' A xs :=
  h.keep (by rw [hs.2]; exact Nat.le_refl _) (fun p _ => hs.1 p)
theorem op_mark {o : Oper} {a : Act} {Bd : Nat} {w0 w : World} {K : Act → World → Prop} {Q : Exit → Act → World → Prop} (x : Operand) (ho : o.op = .convert 26 26 x) (g n c : Nat) (hx : a.eval x = .slice (some ⟨g, 0, none⟩) n c)
    (C : Array Value) (fr : Nat × Nat) (hrow : w.heap[g]? = some (.cells C 5 fr)) (hb : Below Bd w0 w) (hg : Bd ≤ g)
    (h : ∀ w', SameCells w w' → Below Bd w0 w' → (∀ j, j ≠ g → w'.heap[j]? = w.heap[j]?) → K (a.put o.dst (.slice (some ⟨g, 0, none⟩) n c)) w') : o.wp Try.prog a w K Q := by
  refine op_value (v := .slice (some ⟨g, 0, none⟩) n c) (w' := w.freeze ⟨g, C.size, none⟩ 1) ?_ (h _ ⟨fun p => freeze_cell .., freeze_size ..⟩ (hb.trans (freeze_below w ⟨g, C.size, none⟩ 1 Bd hg)) (fun j hj => freeze_other w ⟨g, C.size, none⟩ 1 j hj))
  unfold execOp
  simp [ho, hx, run_conv_mark hrow n c]
end Go.Proofs.Ytnfepikgbdeomaa
