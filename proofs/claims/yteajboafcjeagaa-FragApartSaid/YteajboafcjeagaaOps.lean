/-
  Operations of a region, one at a time, each leaving a world without a name of its own and what is known of it.
-/
import Derived.Test.YteajboafcjeagaaBox
import Derived.Test.YteajboafcjeagaaPlanT
namespace Go.Proofs.Yteajboafcjeagaa
set_option maxRecDepth 20000
open Go.RowKit
set_option linter.unusedVariables false
set_option linter.unusedSimpArgs false

section
variable {P : Program} {o : Oper} {a : Act} {w : World} {K : Act → World → Prop} {Q : Exit → Act → World → Prop}
theorem op_value {v : Value} {w' : World} (hrun : (execOp a.eval o).run P w = .ok (.value v) w') (h : K (a.put o.dst v) w') : o.wp P a w K Q := by
  unfold Oper.wp
  rw [hrun]
  exact h
/-- A variable that is made. -/
theorem op_new (cs : Array Value) (T : TypeId) (hrun : ∀ w : World, (execOp a.eval o).run P w = .ok (.value (.pointer (some ⟨w.heap.size, 0, none⟩))) (w.alloc (.cells cs T)))
    (h : ∀ g w', w.heap.size = g → w'.heap[g]? = some (.cells cs T (0, 0)) → Below w.heap.size w w' → w'.heap.size = g + 1 → K (a.put o.dst (.pointer (some ⟨g, 0, none⟩))) w') : o.wp P a w K Q :=
  op_value (hrun w) (h _ _ rfl (heap_alloc_new w _) ((below_self w).alloc (Nat.le_refl _) _) (by simp))
/-- A literal slice that is made. -/
theorem op_lit (cs : Array Value) (T : TypeId) (n : Nat) (hn : cs.size = n) (hrun : ∀ w : World, (execOp a.eval o).run P w = .ok (.value (.slice (some ⟨w.heap.size, 0, none⟩) n n)) (w.alloc (.cells cs T)))
    (h : ∀ g w', w.heap.size = g → w'.heap[g]? = some (.cells cs T (0, 0)) → Below w.heap.size w w' → w'.heap.size = g + 1 → K (a.put o.dst (.slice (some ⟨g, 0, none⟩) n n)) w') : o.wp P a w K Q :=
  op_value (hrun w) (h _ _ rfl (heap_alloc_new w _) ((below_self w).alloc (Nat.le_refl _) _) (by simp))
end

/-- The world of a call gets a name. -/
theorem named {P : Program} {f : FuncId} {args : Array Value} {W : World} {R : Ending → World → Prop} (h : ∀ W', W' = W → Calls P f args W' R) : Calls P f args W R := h W rfl
/-- A literal of bytes, just laid. -/
theorem rdK {W : World} {k : Nat} (h : W.heap.size = k) (cs : Array Value) (xs : List UInt8) (n : Nat) (hc : cs.toList = xs.map vB) (hn : xs.length = n) (hm : n ≤ maxLen) : RdB (W.alloc (.cells cs 5)) (some ⟨k, 0, none⟩) n n xs := by
  subst h
  exact RdB.litM W cs (0, 0) xs n hc hn hm

/-- 'make([]byte, n)', the new block by its number. -/
theorem wp_makeK {ops : Array Oper} {rest : List Oper} {o : Oper} {a : Act} {w : World} {Q : Exit → Act → World → Prop} (hgd : o.guard = none) (l c : Operand) (ho : o.op = Op.makeSlice 35 l c)
    (kl kc : IntKind) (n : Nat) (hl : a.eval l = .int kl n) (hc : a.eval c = .int kc n) (hn : n ≤ 70368744177664) (k : Nat) (hk : w.heap.size = k)
    (h : ∀ w', OwnB w' k (some ⟨k, 0, none⟩) n n (List.replicate n 0) → Below w.heap.size w w' → wpList Try.prog ops Q rest (a.put o.dst (.slice (some ⟨k, 0, none⟩) n n)) w') : wpList Try.prog ops Q (o :: rest) a w := by
  subst hk
  exact wp_makeB hgd l c ho kl kc n hl hc hn h

/-- An empty row, just laid. -/
theorem own_at0 {w : World} {g : Nat} (h : w.heap[g]? = some (.cells #[] 5 (0, 0))) {base : Nat} (hb : base ≤ g) : OwnB w base (some ⟨g, 0, none⟩) 0 0 [] :=
  ⟨rfl, .inr ⟨g, 0, #[], rfl, hb, h, Nat.le_refl _, by simp [maxLen], rfl, rfl⟩⟩
/-- 's = append(s, x...)' at []byte. -/
theorem op_appB {o : Oper} {a : Act} {w0 w : World} {K : Act → World → Prop} {Q : Exit → Act → World → Prop} (s x : Operand)
    (ho : o.op = .call { callee := .builtin .append, args := #[s, x], argTypes := #[35, 35] })
    (hb : Below w0.heap.size w0 w) {base : Nat} (hbase : w0.heap.size ≤ base) (hbw : base ≤ w.heap.size) (A : Option Addr) (n c : Nat) (xs : List UInt8) (hs : a.eval s = .slice A n c) (hown : OwnB w base A n c xs)
    (B : Option Addr) (m d : Nat) (ys : List UInt8) (hx : a.eval x = .slice B m d) (hr : RdB w B m d ys) (hm : n + m ≤ 70368744177664) (k : Nat) (zs : List UInt8) (hk : n + m = k) (hz : xs ++ ys = zs)
    (h : ∀ A' c' w', OwnB w' base A' k c' zs → Below w0.heap.size w0 w' → w.grownBy w' (Value.slice A n c).ownBlock → K (a.put o.dst (.slice A' k c')) w') : o.wp Try.prog a w K Q := by
  subst hk hz
  obtain ⟨A', c', w', hr', h2, h3⟩ := run_app (P := Try.prog) (w := w) elemB o.type base _ n _ hown B m d _ hr.1 (by simpa using hr.2.1) (oneCell_vB _) (by unfold maxLen; omega) (by omega) hbw
  unfold Oper.wp execOp
  simp only [ho, resolve, invoke, builtin, Sem.run_bind, Sem.run_pure, Result.andThen_ok, List.map_toArray, List.map_cons, List.map_nil, hs, hx, hr']
  refine h A' c' w' ?_ ?_ h3
  · unfold OwnB; rw [List.map_append]; exact h2
  · exact hb.grown h3 hb.size (fun q hq => Nat.le_trans hbase (hown.lt q hq).1)
/-- A block beside the row that grew. -/
theorem grown_keep {w w' : World} {A : Option Addr} {n c g : Nat} {o : Obj} (hg : w.grownBy w' (Value.slice A n c).ownBlock) (h : w.heap[g]? = some o) (hne : ∀ a, A = some a → a.block ≠ g) : w'.heap[g]? = some o := by
  have hlt : g < w.heap.size := by
    rcases Nat.lt_or_ge g w.heap.size with hlt | hge
    · exact hlt
    · rw [Array.getElem?_eq_none hge] at h; cases h
  rw [hg.block g hlt ?_, h]
  intro e
  rcases A with _ | a
  · cases e
  · exact hne a rfl (by simpa [Value.ownBlock] using e.symm)
/-- A row of bytes is no row of another type. -/
theorem own_ne {w : World} {base : Nat} {A : Option Addr} {n c : Nat} {xs : List UInt8} (h : OwnB w base A n c xs) {g : Nat} {cs : Array Value} {T : TypeId} {fr : Nat × Nat} (hg : w.heap[g]? = some (.cells cs T fr)) (hT : T ≠ 5) :
    ∀ a, A = some a → a.block ≠ g ∧ base ≤ a.block := by
  intro a ha
  rcases h.2 with ⟨h1, _⟩ | ⟨g', cap, cur, hv, hb, hh, _⟩
  · injection h1 with h1
    rw [ha] at h1
    cases h1
  · injection hv with hv
    rw [ha] at hv
    injection hv with hv
    subst hv
    refine ⟨fun e => ?_, hb⟩
    subst e
    rw [hg] at hh
    injection hh with hh
    injection hh with _ hh
    exact hT hh
end Go.Proofs.Yteajboafcjeagaa
