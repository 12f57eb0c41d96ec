/-
  Layer 3: the numbers; a block's words (package).
-/
import Derived.Test.YtnfepikgbdeomaaSha
namespace Go.Proofs.Ytnfepikgbdeomaa
set_option maxRecDepth 20000
open Go.RowKit
set_option linter.unusedVariables false
set_option linter.unusedSimpArgs false
set_option maxHeartbeats 8000000

def vW (k : Nat) : Value := .int .u32 (k : Int)
def wsV (ws : List Nat) : Array Value := (ws.map vW).toArray
theorem wsV_size (ws : List Nat) : (wsV ws).size = ws.length := by simp [wsV]
theorem wsV_one (ws : List Nat) : (wsV ws).all (·.oneCell') = true := by simp [wsV, vW, Value.oneCell']
theorem wsV_get (ws : List Nat) (k : Nat) (h : k < ws.length) : (wsV ws)[k]? = some (.int .u32 ((ws.getD k 0 : Nat) : Int)) := by simp [wsV, vW, List.getD, h]
def z64 : List Nat := List.replicate 64 0
theorem z64_V : wsV z64 = #[.int .u32 0, .int .u32 0, .int .u32 0, .int .u32 0, .int .u32 0, .int .u32 0, .int .u32 0, .int .u32 0, .int .u32 0, .int .u32 0, .int .u32 0, .int .u32 0, .int .u32 0, .int .u32 0, .int .u32 0, .int .u32 0, .int .u32 0, .int .u32 0, .int .u32 0, .int .u32 0, .int .u32 0, .int .u32 0, .int .u32 0, .int .u32 0, .int .u32 0, .int .u32 0, .int .u32 0, .int .u32 0, .int .u32 0, .int .u32 0, .int .u32 0, .int .u32 0, .int .u32 0, .int .u32 0, .int .u32 0, .int .u32 0, .int .u32 0, .int .u32 0, .int .u32 0, .int .u32 0, .int .u32 0, .int .u32 0, .int .u32 0, .int .u32 0, .int .u32 0, .int .u32 0, .int .u32 0, .int .u32 0, .int .u32 0, .int .u32 0, .int .u32 0, .int .u32 0, .int .u32 0, .int .u32 0, .int .u32 0, .int .u32 0, .int .u32 0, .int .u32 0, .int .u32 0, .int .u32 0, .int .u32 0, .int .u32 0, .int .u32 0, .int .u32 0] := by rfl
theorem info64 (ws : List Nat) (h : ws.length = 64) : (Try.prog.info? 162).map (·.size) = some (wsV ws).size := by rw [wsV_size, h]; kernel_rfl
/-- A result that lies in a block. -/
def RetW (w : World) (ws : List Nat) (e : Ending) (w' : World) : Prop := e = .returned (.agg (wsV ws)) ∧ Below w.heap.size w w'
section
variable {ops : Array Oper} {rest : List Oper} {o : Oper} {a : Act} {w : World} {Q : Exit → Act → World → Prop}
theorem w64_load (hgd : o.guard = none) (x : Operand) (ho : o.op = .load 162 x) (h : Nat) (hx : a.eval x = .pointer (some ⟨h, 0, none⟩)) (y : List Nat) (T : TypeId) (hrow : w.heap[h]? = some (.cells (wsV y) T (0, 0))) (hl : y.length = 64)
    (hK : wpList Try.prog ops Q rest (a.put o.dst (.agg (wsV y))) w) : wpList Try.prog ops Q (o :: rest) a w :=
  wpList_load_row hgd 162 x ho h hx T (wsV y) (0, 0) _ hrow Try.underlying162 rfl (info64 y hl) hK
theorem w64_store (hgd : o.guard = none) (x z : Operand) (ho : o.op = .store 162 x z) (h : Nat) (hx : a.eval x = .pointer (some ⟨h, 0, none⟩)) (y old : List Nat) (hz : a.eval z = .agg (wsV y)) (T : TypeId) (hrow : w.heap[h]? = some (.cells (wsV old) T (0, 0))) (hl : y.length = 64) (ho2 : old.length = 64)
    (hK : wpList Try.prog ops Q rest (a.put o.dst undef) (w.setRow h (wsV y))) : wpList Try.prog ops Q (o :: rest) a w :=
  wpList_store_row hgd 162 x z ho h (wsV y) hx hz T (wsV old) hrow (info64 y hl) (by rw [wsV_size, wsV_size, hl, ho2]) (wsV_one y) hK
end
theorem shaConst_any (w : World) : Calls Try.prog 166 #[] w (RetW w shK) := by
  have H0 := Lib.hid (show (w.alloc (.cells #[.int .u32 0, .int .u32 0, .int .u32 0, .int .u32 0, .int .u32 0, .int .u32 0, .int .u32 0, .int .u32 0, .int .u32 0, .int .u32 0, .int .u32 0, .int .u32 0, .int .u32 0, .int .u32 0, .int .u32 0, .int .u32 0, .int .u32 0, .int .u32 0, .int .u32 0, .int .u32 0, .int .u32 0, .int .u32 0, .int .u32 0, .int .u32 0, .int .u32 0, .int .u32 0, .int .u32 0, .int .u32 0, .int .u32 0, .int .u32 0, .int .u32 0, .int .u32 0, .int .u32 0, .int .u32 0, .int .u32 0, .int .u32 0, .int .u32 0, .int .u32 0, .int .u32 0, .int .u32 0, .int .u32 0, .int .u32 0, .int .u32 0, .int .u32 0, .int .u32 0, .int .u32 0, .int .u32 0, .int .u32 0, .int .u32 0, .int .u32 0, .int .u32 0, .int .u32 0, .int .u32 0, .int .u32 0, .int .u32 0, .int .u32 0, .int .u32 0, .int .u32 0, .int .u32 0, .int .u32 0, .int .u32 0, .int .u32 0, .int .u32 0, .int .u32 0] 162)).heap[w.heap.size]? = some (.cells (wsV z64) 162 (0, 0)) by rw [z64_V]; exact row1 ..)
  go_enter Try.func166, Try.ntmps166
  go_wp2_with (refine w64_store rfl _ _ rfl w.heap.size rfl shK z64 rfl 162 H0.out rfl rfl ?_)
  refine bodyPost_ret (results_cell_row Try.results166 _ _ w.heap.size 162 (wsV shK) (0, 0) _ rfl (setRow_heap _ _ _ (wsV shK) _ _ H0.out) Try.underlying162 rfl (info64 shK rfl)) rfl ?_
  exact ⟨rfl, below_setRow ((below_self w).alloc (Nat.le_refl _) _) (Nat.le_refl _) _⟩
theorem refK_any (w : World) : Calls Try.prog 128 #[] w (RetW w shK) := by
  have H0 := Lib.hid (show (w.alloc (.cells #[.int .u32 0, .int .u32 0, .int .u32 0, .int .u32 0, .int .u32 0, .int .u32 0, .int .u32 0, .int .u32 0, .int .u32 0, .int .u32 0, .int .u32 0, .int .u32 0, .int .u32 0, .int .u32 0, .int .u32 0, .int .u32 0, .int .u32 0, .int .u32 0, .int .u32 0, .int .u32 0, .int .u32 0, .int .u32 0, .int .u32 0, .int .u32 0, .int .u32 0, .int .u32 0, .int .u32 0, .int .u32 0, .int .u32 0, .int .u32 0, .int .u32 0, .int .u32 0, .int .u32 0, .int .u32 0, .int .u32 0, .int .u32 0, .int .u32 0, .int .u32 0, .int .u32 0, .int .u32 0, .int .u32 0, .int .u32 0, .int .u32 0, .int .u32 0, .int .u32 0, .int .u32 0, .int .u32 0, .int .u32 0, .int .u32 0, .int .u32 0, .int .u32 0, .int .u32 0, .int .u32 0, .int .u32 0, .int .u32 0, .int .u32 0, .int .u32 0, .int .u32 0, .int .u32 0, .int .u32 0, .int .u32 0, .int .u32 0, .int .u32 0, .int .u32 0] 162)).heap[w.heap.size]? = some (.cells (wsV z64) 162 (0, 0)) by rw [z64_V]; exact row1 ..)
  go_enter Try.func128, Try.ntmps128
  go_wp2_with (refine w64_store rfl _ _ rfl w.heap.size rfl shK z64 rfl 162 H0.out rfl rfl ?_)
  refine bodyPost_ret (results_cell_row Try.results128 _ _ w.heap.size 162 (wsV shK) (0, 0) _ rfl (setRow_heap _ _ _ (wsV shK) _ _ H0.out) Try.underlying162 rfl (info64 shK rfl)) rfl ?_
  exact ⟨rfl, below_setRow ((below_self w).alloc (Nat.le_refl _) _) (Nat.le_refl _) _⟩
theorem shaBegin_any (w : World) : Calls Try.prog 152 #[] w (RetW w shBegin.l) := by
  go_enter Try.func152, Try.ntmps152
  go_wp2
  exact bodyPost_ret (v := .agg (wsV shBegin.l)) (by simp [results, Try.results152, go_sem, alloc_box, wsV, shBegin, H8.l, vW]) rfl ⟨rfl, (below_self w).alloc (Nat.le_refl _) _⟩
end Go.Proofs.Ytnfepikgbdeomaa
