/-
  Rows of elements of K cells that lie in a block of their own: copy, append in place, append of make, clear. No program is named here.
-/
import Derived.Test.YteajboafcjeagaaAid
import Derived.Lib.AppendZerosOnto
import Derived.ArgAppend
import Derived.Laws.CopyRow
import Derived.Laws.IdiomCopy
namespace Go.Proofs.Yteajboafcjeagaa
set_option maxRecDepth 20000
open Go.RowKit
set_option linter.unusedVariables false
set_option linter.unusedSimpArgs false

/-- Block g holds these cells, of type e. -/
def RowAt (w : World) (e : TypeId) (g : Nat) (zs : List Value) : Prop := w.heap[g]? = some (.cells zs.toArray e (0, 0))
/-- What a store into block g leaves: that row is another one, all else is as it was. -/
structure Wrote (w w' : World) (e : TypeId) (g : Nat) (zs : List Value) : Prop where
  row : RowAt w' e g zs
  size : w'.heap.size = w.heap.size
  other : ∀ j, j ≠ g → w'.heap[j]? = w.heap[j]?
  below : ∀ B, B ≤ g → Below B w w'
theorem RowAt.lt {w : World} {e : TypeId} {g : Nat} {zs : List Value} (h : RowAt w e g zs) : g < w.heap.size := (Array.getElem?_eq_some_iff.1 h).1
theorem RowAt.up {w w' : World} {e : TypeId} {g : Nat} {zs : List Value} (h : RowAt w e g zs) (hb : Below w.heap.size w w') : RowAt w' e g zs := (hb.block g h.lt).trans h
theorem RowAt.alloc {w : World} {e : TypeId} {g : Nat} {zs : List Value} (h : RowAt w e g zs) (o : Obj) : RowAt (w.alloc o) e g zs := (Below.heap_alloc w o g h.lt).trans h
theorem RowAt.drew {w : World} {e : TypeId} {g : Nat} {zs : List Value} (h : RowAt w e g zs) : RowAt w.drew e g zs := h
theorem RowAt.cell {w : World} {e : TypeId} {g : Nat} {zs : List Value} (h : RowAt w e g zs) (i : Nat) : w.cell? ⟨g, i, none⟩ = zs[i]? := by
  rw [cell_of_row w g i _ e (0, 0) h]; simp
theorem RowAt.frozen {w : World} {e : TypeId} {g : Nat} {zs : List Value} (h : RowAt w e g zs) (i : Nat) : w.frozen? ⟨g, i, none⟩ = false := frozen_of_row w g i _ e h
theorem RowAt.shape {w : World} {e : TypeId} {g : Nat} {zs : List Value} (h : RowAt w e g zs) : w.shape? g = some (e, zs.length) := by
  unfold World.shape?
  have h' : w.heap[g]? = _ := h
  rw [h']
  simp
/-- A part of the row, as it is read. -/
theorem RowAt.rd {w : World} {e : TypeId} {g : Nat} {zs : List Value} (h : RowAt w e g zs) (o k : Nat) : Rd w (some ⟨g, o, none⟩) ((zs.drop o).take k) := by
  refine .inr ⟨g, o, rfl, h.lt, fun i v hv => ?_⟩
  rw [h.cell, ← hv]
  rw [List.getElem?_take] at hv ⊢
  split at hv
  · rename_i hi; rw [if_pos hi, List.getElem?_drop]
  · cases hv
theorem wrote_setRow {w : World} {e : TypeId} {g : Nat} {zs : List Value} (h : RowAt w e g zs) (ys : List Value) : Wrote w (w.setRow g ys.toArray) e g ys :=
  ⟨setRow_heap w g _ _ e _ h, by simp, fun j hj => setRow_other w g j _ hj, fun B hB => below_setRow (Below.refl _ w) hB _⟩
theorem wrote_cells {P : Program} {w : World} {e : TypeId} {g o : Nat} {zs cs : List Value} (h : RowAt w e g zs) (hfit : o + cs.length ≤ zs.length) (h1 : ∀ v ∈ cs, v.oneCell' = true) :
    ∃ w', (storeCells ⟨g, o, none⟩ cs).run P w = .ok () w' ∧ Wrote w w' e g (zs.take o ++ cs ++ zs.drop (o + cs.length)) := by
  have := run_storeCells_at P g o e cs 0 zs.toArray w h (by simpa using hfit) h1
  exact ⟨_, by simpa using this, wrote_setRow h _⟩
theorem Wrote.then_ {w w1 w2 : World} {e : TypeId} {g : Nat} {ys zs : List Value} (h : Wrote w w1 e g ys) (k : Wrote w1 w2 e g zs) : Wrote w w2 e g zs :=
  ⟨k.row, k.size.trans h.size, fun j hj => (k.other j hj).trans (h.other j hj), fun B hB => (h.below B hB).trans (k.below B hB)⟩
theorem Wrote.drew {w w1 : World} {e : TypeId} {g : Nat} {ys : List Value} (h : Wrote w.drew w1 e g ys) : Wrote w w1 e g ys :=
  ⟨h.row, h.size, h.other, fun B hB => ((Below.refl B w).drew).trans (h.below B hB)⟩
theorem Wrote.keep {w w1 : World} {e f : TypeId} {g j : Nat} {ys zs : List Value} (h : Wrote w w1 e g ys) (hj : j ≠ g) (k : RowAt w f j zs) : RowAt w1 f j zs := (h.other j hj).trans k
theorem Wrote.rd {w w1 : World} {e : TypeId} {g : Nat} {ys xs : List Value} {A : Option Addr} (h : Wrote w w1 e g ys) (hA : ∀ a, A = some a → a.block ≠ g) (k : Rd w A xs) : Rd w1 A xs := by
  rcases k with rfl | ⟨b, o, rfl, hb, hc⟩
  · exact .inl rfl
  · exact .inr ⟨b, o, rfl, by rw [h.size]; exact hb, fun i v hv => (World.cell?_of_block (w := w) (w' := w1) (a := ⟨b, o + i, none⟩) (h.other b (hA _ rfl))).trans (hc i v hv)⟩

/-- The element type's row of the table. -/
structure ElemK (P : Program) (t e : TypeId) (z : Value) (K bytes : Nat) : Prop where
  slice : P.underlying t = some (.slice e)
  info : ∃ i : TypeInfo, P.info? e = some i ∧ i.zero = some z ∧ i.size = K ∧ i.bytes = bytes
  zs : z.cells.size = K
  pos : 0 < K
theorem ElemK.of {P : Program} {t e : TypeId} {z : Value} {K bytes : Nat} (h1 : P.underlying t = some (.slice e)) (h2 : (P.info? e).map (fun i => (i.zero, i.size, i.bytes)) = some (some z, K, bytes)) (h3 : z.cells.size = K) (h4 : 0 < K) : ElemK P t e z K bytes := by
  refine ⟨h1, ?_, h3, h4⟩
  obtain ⟨i, hi, he⟩ := Option.map_eq_some_iff.1 h2
  injection he with e1 e2
  injection e2 with e2 e3
  exact ⟨i, hi, e1, e2, e3⟩
theorem zeroCells_list (z : Array Value) (n : Nat) : (Builtin.zeroCells z n).toList = (List.replicate n z.toList).flatten := by
  induction n with
  | zero => simp [Builtin.zeroCells]
  | succ n ih =>
    rw [List.replicate_succ', List.flatten_append, ← ih]
    have hz : ((List.replicate 1 z.toList)).flatten = z.toList := by simp
    show _ = _ ++ [z.toList].flatten
    apply List.ext_getElem?
    intro i
    simp only [Builtin.zeroCells, Array.toList_map, Array.toList_range, List.flatten_cons, List.flatten_nil, List.append_nil]
    rw [List.getElem?_append]
    simp only [List.length_map, List.length_range, List.getElem?_map]
    by_cases hi : i < n * z.size
    · rw [if_pos hi, List.getElem?_range (by rw [Nat.succ_mul]; omega), List.getElem?_range hi]
    · rw [if_neg hi]
      by_cases hi2 : i < (n + 1) * z.size
      · rw [List.getElem?_range hi2]
        have hlt : i - n * z.size < z.size := by rw [Nat.succ_mul] at hi2; omega
        have hm : i % z.size = i - n * z.size := by
          have hh : i = (i - n * z.size) + z.size * n := by rw [Nat.mul_comm z.size n]; omega
          rw [hh, Nat.add_mul_mod_self_left]
          rw [Nat.mod_eq_of_lt hlt]
          rw [Nat.mul_comm z.size n]; omega
        simp [hm, hlt]
      · have h1 : (List.range ((n + 1) * z.size))[i]? = none := by
          rw [List.getElem?_eq_none]; simp; omega
        have h2 : z.toList[i - n * z.size]? = none := by
          rw [List.getElem?_eq_none]; rw [Nat.succ_mul] at hi2; simp; omega
        rw [h1, h2]; rfl
section
variable {P : Program} {t e : TypeId} {z : Value} {K bytes : Nat}
theorem run_copyK (he : ElemK P t e z K bytes) {w : World} {g : Nat} {zs : List Value} (h : RowAt w e g zs) (ty t' : TypeId) (o dn dc : Nat) (A : Option Addr) (sn sc : Nat) (cs : List Value) (hr : Rd w A cs) (hn : cs.length = Nat.min sn dn * K)
    (hfit : o + cs.length ≤ zs.length) (h1 : ∀ v ∈ cs, v.oneCell' = true) :
    ∃ w', (Builtin.copy_ #[t, t'] ty #[.slice (some ⟨g, o, none⟩) dn dc, .slice A sn sc]).run P w = .ok (goInt (Nat.min sn dn)) w' ∧ Wrote w w' e g (zs.take o ++ cs ++ zs.drop (o + cs.length)) := by
  obtain ⟨i, hi, hz, hsz, hby⟩ := he.info
  obtain ⟨w', hst, hW⟩ := wrote_cells (P := P) (o := o) h hfit h1
  refine ⟨w', ?_, hW⟩
  rcases hr with rfl | ⟨b, o', rfl, hb, hc⟩
  · rcases A with _ | a
    · simp [Builtin.copy_, run_underlying he.slice, Builtin.lenOf, Builtin.firstCells, sizeOf, typeInfo, hi, hst]
    · have hl : (loadCells a 0).run P w = .ok #[] w := run_loadCells_list (P := P) w a [] (by simp)
      have h0 : Nat.min sn dn * K = 0 := by simpa using hn.symm
      have h00 : Nat.min sn dn = 0 := by rcases Nat.mul_eq_zero.1 h0 with h | h; exact h; have := he.pos; omega
      simp [Builtin.copy_, run_underlying he.slice, Builtin.lenOf, Builtin.firstCells, sizeOf, typeInfo, hi, hsz, h00, hl, hst]
  · have hl := run_loadCells_list (P := P) w ⟨b, o', none⟩ cs (fun j v hj => by rw [Addr.add_lit]; exact hc j v hj)
    rw [hn] at hl
    simp [Builtin.copy_, run_underlying he.slice, Builtin.lenOf, Builtin.firstCells, sizeOf, typeInfo, hi, hsz, hl, hst]
theorem run_appK_room (he : ElemK P t e z K bytes) {w : World} {g : Nat} {zs : List Value} (h : RowAt w e g zs) (ty : TypeId) (n c : Nat) (A : Option Addr) (m d : Nat) (cs : List Value) (hr : Rd w A cs) (hn : cs.length = m * K)
    (hroom : n + m ≤ c) (hfit : n * K + cs.length ≤ zs.length) (h1 : ∀ v ∈ cs, v.oneCell' = true) :
    ∃ w', (Builtin.append_ #[t, t] ty #[.slice (some ⟨g, 0, none⟩) n c, .slice A m d]).run P w = .ok (.slice (some ⟨g, 0, none⟩) (n + m) c) w' ∧ Wrote w w' e g (zs.take (n * K) ++ cs ++ zs.drop (n * K + cs.length)) := by
  obtain ⟨i, hi, hz, hsz, hby⟩ := he.info
  obtain ⟨w', hst, hW⟩ := wrote_cells (P := P) (o := n * K) h hfit h1
  refine ⟨w', ?_, hW⟩
  rcases hr with rfl | ⟨b, o', rfl, hb, hc⟩
  · have h00 : m = 0 := by rcases Nat.mul_eq_zero.1 (by simpa using hn.symm) with h | h; exact h; have := he.pos; omega
    subst h00
    rcases A with _ | a
    · simp [Builtin.append_, run_underlying he.slice, Builtin.lenOf, Builtin.firstCells, sizeOf, typeInfo, hi, hsz, Addr.add_lit, hst, show n ≤ c by omega]
    · have hl : (loadCells a 0).run P w = .ok #[] w := run_loadCells_list (P := P) w a [] (by simp)
      simp [Builtin.append_, run_underlying he.slice, Builtin.lenOf, Builtin.firstCells, sizeOf, typeInfo, hi, hsz, Addr.add_lit, hst, hl, show n ≤ c by omega]
  · have hl := run_loadCells_list (P := P) w ⟨b, o', none⟩ cs (fun j v hj => by rw [Addr.add_lit]; exact hc j v hj)
    rw [hn] at hl
    simp [Builtin.append_, run_underlying he.slice, Builtin.lenOf, Builtin.firstCells, sizeOf, typeInfo, hi, hsz, Addr.add_lit, hst, hl, hroom]
/-- 'append(s[:n], make(S, k)...)' where there is no room: a new row. -/
theorem run_appK_zeros (he : ElemK P t e z K bytes) {w : World} {g : Nat} {zs : List Value} (h : RowAt w e g zs) (ty tn : TypeId) (kq kn : IntKind) (htn : P.underlying tn = some (.int kn)) (n c k : Nat) (hzs : n * K ≤ zs.length)
    (h0 : 0 < k) (hg : c < n + k) (hm : n + k ≤ 1000000) (hby : (n + k) * bytes ≤ 140737488355328) :
    ∃ c' w', (Builtin.append_ #[t, tn] ty #[.slice (some ⟨g, 0, none⟩) n c, .int kq k]).run P w = .ok (.slice (some ⟨w.heap.size, 0, none⟩) (n + k) c') w' ∧ n + k ≤ c' ∧ c' ≤ maxLen ∧ Below w.heap.size w w' ∧ w'.heap.size = w.heap.size + 1 ∧
      ∃ rest : List Value, RowAt w' e w.heap.size (zs.take (n * K) ++ (List.replicate k z.cells.toList).flatten ++ rest) ∧ (zs.take (n * K) ++ (List.replicate k z.cells.toList).flatten ++ rest).length = c' * K := by
  obtain ⟨i, hi, hz, hsz, hb⟩ := he.info
  subst hsz hb
  have hold : (Builtin.firstCells i.size n (.slice (some ⟨g, 0, none⟩) n c)).run P w.drew = .ok (zs.take (n * i.size)).toArray w.drew := by
    refine run_firstCells_some (P := P) w.drew i.size n ⟨g, 0, none⟩ n c _ (by simp; omega) ?_
    intro j u hj
    rw [Addr.add_lit, Nat.zero_add]
    have h' := (RowAt.drew h).cell j
    rw [h']
    rw [List.getElem?_take] at hj
    split at hj
    · exact hj
    · cases hj
  have h48 : k * i.bytes ≤ 281474976710656 := by
    have : k * i.bytes ≤ (n + k) * i.bytes := Nat.mul_le_mul_right _ (by omega)
    omega
  have hr := Lib.run_append_grow_zeros (P := P) w t tn ty e i z kq kn he.slice htn hi hz (some ⟨g, 0, none⟩) n c _ hold k h0 he.pos hg (by omega) h48 (growslice_fits hg hby)
  have hge := grownCap_ge w (n + k) c e
  have hcm : grownCap w (n + k) c e ≤ maxLen := grownCap_le_maxLen w (n + k) c e (by unfold maxLen; omega)
  refine ⟨_, _, hr, hge, hcm, ((Below.refl _ w).drew).alloc (Nat.le_refl _) _, by simp, (Builtin.zeroCells z.cells (grownCap w (n + k) c e - (n + k))).toList, ?_, ?_⟩
  · have := heap_alloc_new w.drew (.cells ((zs.take (n * i.size)).toArray ++ Builtin.zeroCells z.cells k ++ Builtin.zeroCells z.cells (grownCap w (n + k) c e - (n + k))) e)
    unfold RowAt
    rw [← zeroCells_list]
    refine this.trans ?_
    congr 2
    apply Array.toList_inj.1
    simp
  · rw [← zeroCells_list]
    simp only [List.length_append, List.length_take, Array.length_toList, size_zeroCells, he.zs]
    rw [Nat.min_eq_left hzs, ← Nat.add_mul, ← Nat.add_mul]
    congr 1
    omega
theorem run_clearK (he : ElemK P t e z K bytes) (h1 : ∀ v ∈ z.cells.toList, v.oneCell' = true) {w : World} {g : Nat} {zs : List Value} (h : RowAt w e g zs) (ty : TypeId) (o m c : Nat) (hfit : o + m * K ≤ zs.length) :
    ∃ w', (Builtin.clear_ #[t] ty #[.slice (some ⟨g, o, none⟩) m c]).run P w = .ok (.tuple #[]) w' ∧ Wrote w w' e g (zs.take o ++ (List.replicate m z.cells.toList).flatten ++ zs.drop (o + m * K)) := by
  obtain ⟨i, hi, hz, hsz, hb⟩ := he.info
  have hl : ((List.replicate m z.cells.toList).flatten).length = m * K := by rw [← zeroCells_list]; simp [size_zeroCells, he.zs]
  obtain ⟨w', hst, hW⟩ := wrote_cells (P := P) (o := o) (cs := (List.replicate m z.cells.toList).flatten) h (by rw [hl]; exact hfit) (fun v hv => by
    obtain ⟨l, hl1, hl2⟩ := List.mem_flatten.1 hv
    rw [List.eq_of_mem_replicate hl1] at hl2
    exact h1 v hl2)
  rw [hl] at hW
  rcases Nat.eq_zero_or_pos m with rfl | hm
  · refine ⟨w, by simp [Builtin.clear_, run_underlying he.slice], ?_⟩
    have := wrote_setRow h zs
    have e2 : zs.take o ++ (List.replicate 0 z.cells.toList).flatten ++ zs.drop (o + 0 * K) = zs := by simp
    rw [e2]
    exact ⟨h, rfl, fun _ _ => rfl, fun B _ => Below.refl B w⟩
  · refine ⟨w', ?_, hW⟩
    obtain ⟨m, rfl⟩ : ∃ q, m = q + 1 := ⟨m - 1, by omega⟩
    have hzv : (zeroValue e).run P w = .ok z w := by simp [zeroValue, typeInfo, hi, hz]
    have e3 := zeroCells_list z.cells (m + 1)
    simp [Builtin.clear_, run_underlying he.slice, hzv, e3, hst]
theorem zer_len (he : ElemK P t e z K bytes) (m : Nat) : ((List.replicate m z.cells.toList).flatten).length = m * K := by rw [← zeroCells_list]; simp [size_zeroCells, he.zs]
/-! ### as steps of a walk -/
variable {ops : Array Oper} {rest : List Oper} {o : Oper} {a : Act} {w : World} {Q : Exit → Act → World → Prop} {K' : Act → World → Prop}
theorem op_copyRun (d x : Operand) (t1 t2 : TypeId) (ho : o.op = .call { callee := .builtin .copy, args := #[d, x], argTypes := #[t1, t2] }) (v u : Value) (hd : a.eval d = v) (hx : a.eval x = u) {v' : Value} {w' : World}
    (hr : (Builtin.copy_ #[t1, t2] o.type #[v, u]).run P w = .ok v' w') (h : K' (a.put o.dst v') w') : o.wp P a w K' Q := by
  unfold Oper.wp execOp
  simp only [ho, resolve, invoke, builtin, Sem.run_bind, Sem.run_pure, Result.andThen_ok, List.map_toArray, List.map_cons, List.map_nil, hd, hx, hr]
  exact h
theorem op_appRun (d x : Operand) (t1 t2 : TypeId) (ho : o.op = .call { callee := .builtin .append, args := #[d, x], argTypes := #[t1, t2] }) (v u : Value) (hd : a.eval d = v) (hx : a.eval x = u) {v' : Value} {w' : World}
    (hr : (Builtin.append_ #[t1, t2] o.type #[v, u]).run P w = .ok v' w') (h : K' (a.put o.dst v') w') : o.wp P a w K' Q := by
  unfold Oper.wp execOp
  simp only [ho, resolve, invoke, builtin, Sem.run_bind, Sem.run_pure, Result.andThen_ok, List.map_toArray, List.map_cons, List.map_nil, hd, hx, hr]
  exact h
theorem op_clearRun (d : Operand) (t1 : TypeId) (ho : o.op = .call { callee := .builtin .clear, args := #[d], argTypes := #[t1] }) (v : Value) (hd : a.eval d = v) {v' : Value} {w' : World}
    (hr : (Builtin.clear_ #[t1] o.type #[v]).run P w = .ok v' w') (h : K' (a.put o.dst v') w') : o.wp P a w K' Q := by
  unfold Oper.wp execOp
  simp only [ho, resolve, invoke, builtin, Sem.run_bind, Sem.run_pure, Result.andThen_ok, List.map_toArray, List.map_cons, List.map_nil, hd, hr]
  exact h
theorem wp_copyRun (hgd : o.guard = none) (d x : Operand) (t1 t2 : TypeId) (ho : o.op = .call { callee := .builtin .copy, args := #[d, x], argTypes := #[t1, t2] }) (v u : Value) (hd : a.eval d = v) (hx : a.eval x = u) {v' : Value} {w' : World}
    (hr : (Builtin.copy_ #[t1, t2] o.type #[v, u]).run P w = .ok v' w') (h : wpList P ops Q rest (a.put o.dst v') w') : wpList P ops Q (o :: rest) a w :=
  wpList_plain hgd fun _ hK => op_copyRun d x t1 t2 ho v u hd hx hr (hK _ _ h)
theorem wp_appRun (hgd : o.guard = none) (d x : Operand) (t1 t2 : TypeId) (ho : o.op = .call { callee := .builtin .append, args := #[d, x], argTypes := #[t1, t2] }) (v u : Value) (hd : a.eval d = v) (hx : a.eval x = u) {v' : Value} {w' : World}
    (hr : (Builtin.append_ #[t1, t2] o.type #[v, u]).run P w = .ok v' w') (h : wpList P ops Q rest (a.put o.dst v') w') : wpList P ops Q (o :: rest) a w :=
  wpList_plain hgd fun _ hK => op_appRun d x t1 t2 ho v u hd hx hr (hK _ _ h)
theorem wp_clearRun (hgd : o.guard = none) (d : Operand) (t1 : TypeId) (ho : o.op = .call { callee := .builtin .clear, args := #[d], argTypes := #[t1] }) (v : Value) (hd : a.eval d = v) {v' : Value} {w' : World}
    (hr : (Builtin.clear_ #[t1] o.type #[v]).run P w = .ok v' w') (h : wpList P ops Q rest (a.put o.dst v') w') : wpList P ops Q (o :: rest) a w :=
  wpList_plain hgd fun _ hK => op_clearRun d t1 ho v hd hr (hK _ _ h)
end
end Go.Proofs.Yteajboafcjeagaa
