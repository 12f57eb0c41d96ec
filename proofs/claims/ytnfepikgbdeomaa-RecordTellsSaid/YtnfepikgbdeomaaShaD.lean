/-
  Layer 3: a block taken in (package).
-/
import Derived.Test.YtnfepikgbdeomaaShaC
namespace Go.Proofs.Ytnfepikgbdeomaa
set_option maxRecDepth 20000
open Go.RowKit
set_option linter.unusedVariables false
set_option linter.unusedSimpArgs false
set_option maxHeartbeats 8000000

theorem info8 (ws : List Nat) (h : ws.length = 8) : (Try.prog.info? 127).map (·.size) = some (wsV ws).size := by rw [wsV_size, h]; kernel_rfl
def z8 : List Nat := [0, 0, 0, 0, 0, 0, 0, 0]
section
variable {ops : Array Oper} {rest : List Oper} {o : Oper} {a : Act} {w : World} {Q : Exit → Act → World → Prop}
theorem w8_load (hgd : o.guard = none) (x : Operand) (ho : o.op = .load 127 x) (h : Nat) (hx : a.eval x = .pointer (some ⟨h, 0, none⟩)) (y : List Nat) (T : TypeId) (hrow : w.heap[h]? = some (.cells (wsV y) T (0, 0))) (hl : y.length = 8)
    (hK : wpList Try.prog ops Q rest (a.put o.dst (.agg (wsV y))) w) : wpList Try.prog ops Q (o :: rest) a w :=
  wpList_load_row hgd 127 x ho h hx T (wsV y) (0, 0) _ hrow Try.underlying127 rfl (info8 y hl) hK
theorem w8_store (hgd : o.guard = none) (x z : Operand) (ho : o.op = .store 127 x z) (h : Nat) (hx : a.eval x = .pointer (some ⟨h, 0, none⟩)) (y old : List Nat) (hz : a.eval z = .agg (wsV y)) (T : TypeId) (hrow : w.heap[h]? = some (.cells (wsV old) T (0, 0))) (hl : y.length = 8) (ho2 : old.length = 8)
    (hK : wpList Try.prog ops Q rest (a.put o.dst undef) (w.setRow h (wsV y))) : wpList Try.prog ops Q (o :: rest) a w :=
  wpList_store_row hgd 127 x z ho h (wsV y) hx hz T (wsV old) hrow (info8 y hl) (by rw [wsV_size, wsV_size, hl, ho2]) (wsV_one y) hK
end
theorem H8.len (x : H8) : x.l.length = 8 := rfl
theorem index64 (ws : List Nat) (h : ws.length = 64) (k : Nat) (hk : k < 64) (W : World) : (Instr.index 162 (.agg (wsV ws)) (.int .i64 (k : Int))).run Try.prog W = .ok (.int .u32 ((ws.getD k 0 : Nat) : Int)) W := by
  have hs : ∃ i, Try.prog.info? 23 = some i ∧ i.size = 1 := by
    have : (Try.prog.info? 23).map (·.size) = some 1 := by kernel_rfl
    cases hq : Try.prog.info? 23 with
    | none => rw [hq] at this; cases this
    | some i => rw [hq] at this; exact ⟨i, rfl, by simpa using this⟩
  obtain ⟨i, hi, hsz⟩ := hs
  have hk2 : (k : Int) < 64 := by omega
  have hg := wsV_get ws k (by omega)
  have hagg : (isAgg 23).run Try.prog W = .ok false W := by
    unfold isAgg
    rw [Sem.run_bind, run_underlying Try.underlying23 W]
    rfl
  have hg2 : (wsV ws)[k]! = .int .u32 ((ws.getD k 0 : Nat) : Int) := by
    rw [getElem!_def, hg]
  simp [Instr.index, asIntOf, run_underlying Try.underlying162, hk2, sizeOf, typeInfo, hi, hsz, part, hagg, hg, hg2]
  intro h9
  omega
/-- The eight words, the first k of which are summed. -/
def adP (x y : H8) (k : Nat) : List Nat := (x.add y).l.take k ++ x.l.drop k
theorem adP_zero (x y : H8) : adP x y 0 = x.l := by simp [adP]
theorem adP_all (x y : H8) : adP x y 8 = (x.add y).l := by simp [adP, H8.l]
theorem adP_len (x y : H8) (k : Nat) (h : k ≤ 8) : (adP x y k).length = 8 := by simp [adP, H8.l]; omega
theorem adP_step (x y : H8) (k : Nat) (h : k < 8) : (adP x y k).getD k 0 = x.l.getD k 0 ∧ (adP x y k).set k ((x.l.getD k 0 + y.l.getD k 0) % 4294967296) = adP x y (k + 1) := by
  match k, h with
  | 0, _ | 1, _ | 2, _ | 3, _ | 4, _ | 5, _ | 6, _ | 7, _ => exact ⟨rfl, rfl⟩
theorem H8.l_lt {x : H8} (h : x.ok) (k : Nat) : x.l.getD k 0 < 4294967296 := by
  obtain ⟨h1, h2, h3, h4, h5, h6, h7, h8⟩ := h
  match k with
  | 0 => exact h1
  | 1 => exact h2
  | 2 => exact h3
  | 3 => exact h4
  | 4 => exact h5
  | 5 => exact h6
  | 6 => exact h7
  | 7 => exact h8
  | k + 8 => simp [H8.l, List.getD]
end Go.Proofs.Ytnfepikgbdeomaa
