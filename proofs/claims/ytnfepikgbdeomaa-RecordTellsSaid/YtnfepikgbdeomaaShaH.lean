/-
  Layer 3: digests (package).
-/
import Derived.Test.YtnfepikgbdeomaaShaG
namespace Go.Proofs.Ytnfepikgbdeomaa
set_option maxRecDepth 20000
open Go.RowKit Go.Shelf
set_option linter.unusedVariables false
set_option linter.unusedSimpArgs false
set_option maxHeartbeats 8000000
attribute [local go_sem] Oper.semAt_some

section
variable {F : Fence} {n : Nat} {ops : Array Oper} {rest : List Oper} {o : Oper} {a : Act} {w : World} {Q : Exit → Act → World → Prop}
theorem w8_loadIn (hgd : o.guard = none) (x : Operand) (ho : o.op = .load 127 x) (h : Nat) (hx : a.eval x = .pointer (some ⟨h, 0, none⟩)) (y : List Nat) (T : TypeId) (hrow : w.heap[h]? = some (.cells (wsV y) T (0, 0))) (hl : y.length = 8)
    (hK : wpListIn F n Try.prog ops Q rest (a.put o.dst (.agg (wsV y))) w) : wpListIn F n Try.prog ops Q (o :: rest) a w := by
  refine wpListIn_plain hgd fun K hK' => ?_
  unfold Oper.wpIn
  refine ⟨?_, ?_⟩
  · simp [Oper.about, ho]
  · rw [Oper.semAt_plain F _ _ (by rw [ho]; intro c hc'; cases hc')]
    have hr := run_loadVar_row (P := Try.prog) w h T 127 (wsV y) (0, 0) _ hrow Try.underlying127 rfl (info8 y hl)
    unfold execOp
    simp only [ho, hx, Instr.loadAt, Instr.sureAddr, Sem.run_bind, Sem.run_pure, Result.andThen_ok, hr]
    exact hK' _ _ hK
theorem w8_storeIn (hgd : o.guard = none) (x z : Operand) (ho : o.op = .store 127 x z) (h : Nat) (hx : a.eval x = .pointer (some ⟨h, 0, none⟩)) (y old : List Nat) (hz : a.eval z = .agg (wsV y)) (T : TypeId) (hrow : w.heap[h]? = some (.cells (wsV old) T (0, 0))) (hl : y.length = 8) (ho2 : old.length = 8)
    (hK : wpListIn F n Try.prog ops Q rest (a.put o.dst undef) (w.setRow h (wsV y))) : wpListIn F n Try.prog ops Q (o :: rest) a w := by
  refine wpListIn_plain hgd fun K hK' => ?_
  unfold Oper.wpIn
  refine ⟨?_, ?_⟩
  · simp [Oper.about, ho]
  · rw [Oper.semAt_plain F _ _ (by rw [ho]; intro c hc'; cases hc')]
    have hr := run_storeVar_row (P := Try.prog) w h T 127 (wsV old) (wsV y) hrow (info8 y hl) (by rw [wsV_size, wsV_size, hl, ho2]) (wsV_one y)
    unfold execOp
    simp only [ho, hx, hz, Instr.storeAt, Instr.sureAddr, Sem.run_bind, Sem.run_pure, Result.andThen_ok, hr]
    exact hK' _ _ hK
end

/-- Chunk(s, 64): the function value, its two boxes. -/
def RetCh (w : World) (A : Option Addr) (L c : Nat) (e : Ending) (w' : World) : Prop :=
  e = .returned (.func (.func 165) #[] #[.pointer (some ⟨w.heap.size, 0, none⟩), .pointer (some ⟨w.heap.size + 1, 0, none⟩)]) ∧ w'.cell? ⟨w.heap.size, 0, none⟩ = some (.slice A L c) ∧ w'.cell? ⟨w.heap.size + 1, 0, none⟩ = some (.int .i64 64) ∧ Below w.heap.size w w' ∧ w.heap.size + 1 < w'.heap.size
theorem chunk_any (A : Option Addr) (L c : Nat) (w : World) : Calls Try.prog 153 #[.slice A L c, .int .i64 64] w (RetCh w A L c) := by
  go_enter Try.func153, Try.ntmps153
  go_wp2
  go_ret
  exact ⟨rfl, cell_of_row _ _ 0 _ _ _ (row2a ..), cell_of_row _ _ 0 _ _ _ (row2b ..), ((below_self w).alloc (Nat.le_refl _) _).alloc (by simp) _, by simp⟩
theorem chunk_stops (n Bs Bn n₁ g b o L M c : Nat) (hn : 1 ≤ n) (hL : L = 64 * M) (hLc : L ≤ c) (hc : c ≤ 9223372036854775807) (hb : b < n₁ ∧ b ≠ g) (hs : Bs < n₁ ∧ Bs ≠ g) (hn2 : Bn < n₁ ∧ Bn ≠ g) (w : World) (hz : n₁ ≤ w.heap.size)
    (hBs : w.cell? ⟨Bs, 0, none⟩ = some (.slice (some ⟨b, o, none⟩) L c)) (hBn : w.cell? ⟨Bn, 0, none⟩ = some (.int .i64 64)) :
    SeqStopsK Fence.wide n Try.prog 165 #[.pointer (some ⟨Bs, 0, none⟩), .pointer (some ⟨Bn, 0, none⟩)] (fun x : Nat => #[Value.slice (some ⟨b, o + 64 * (x % M), none⟩) 64 64]) (KpX n₁ g) (fun ys => ys = List.range M) (fun pre => ∃ k, k ≤ M ∧ pre = List.range k) M w := by
  intro l J Jx W hW hJ hJx hY h0
  refine (chunk1_in W.heap.size n l Bs Bn n₁ g b o L M c hn hL hLc hc hb hs hn2 (fun ys => J (List.range ys.length)) (fun ys => Jx (List.range ys.length)) (fun s A B row h hg hr => hJ (List.range s.length) A B row h hg hr) ?_ W ((hW.cell (p := ⟨Bs, 0, none⟩) (by show Bs < _; omega)).trans hBs) ((hW.cell (p := ⟨Bn, 0, none⟩) (by show Bn < _; omega)).trans hBn) h0).mono ?_
  · intro pre x W1 hp hl hx
    have h := hY (List.range pre.length) pre.length W1 hp (by rw [List.length_range]; exact hl)
    dsimp only at h
    rw [Nat.mod_eq_of_lt hl, ← hx] at h
    refine h.mono ?_
    intro e W2 hh
    have e1 : List.range (pre ++ [x]).length = List.range pre.length ++ [pre.length] := by simp [List.range_succ]
    rw [e1]
    exact hh
  · rintro e W2 ⟨hv, (⟨ys, rfl, h⟩ | ⟨pre, ⟨k, hk, rfl⟩, h⟩)⟩
    · rw [chOff_len] at h
      exact ⟨hv, .inl ⟨_, rfl, h⟩⟩
    · rw [chOff_len] at h
      exact ⟨hv, .inr ⟨_, ⟨k, hk, rfl⟩, h⟩⟩
end Go.Proofs.Ytnfepikgbdeomaa
