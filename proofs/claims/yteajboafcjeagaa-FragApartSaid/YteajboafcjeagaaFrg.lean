/-
  Layer 21: frag: a datagram that comes in pieces, as cells.
-/
import Derived.Test.YteajboafcjeagaaIp
import Derived.Test.YteajboafcjeagaaRowK
import Derived.Test.YteajboafcjeagaaOps
import Derived.Test.YteajboafcjeagaaPlanT
import Derived.Deep.MidRow
namespace Go.Proofs.Yteajboafcjeagaa
set_option maxRecDepth 20000
open Go.RowKit
set_option linter.unusedVariables false
set_option linter.unusedSimpArgs false
set_option maxHeartbeats 4000000

theorem frw_at {w : World} {k : Nat} (o : Obj) (h : w.heap.size = k) : (w.alloc o).heap[k]? = some o := by subst h; exact heap_alloc_new w o
theorem frw_old {w : World} {g : Nat} {o : Obj} (o' : Obj) (h : w.heap[g]? = some o) : (w.alloc o').heap[g]? = some o := (heap_alloc_old _ _ (Array.getElem?_eq_some_iff.1 h).1).trans h
theorem frw_up {w w' : World} {g : Nat} {o : Obj} (h : w.heap[g]? = some o) (hb : Below w.heap.size w w') : w'.heap[g]? = some o := (hb.block g (Array.getElem?_eq_some_iff.1 h).1).trans h
theorem frw_lt {w : World} {g : Nat} {o : Obj} (h : w.heap[g]? = some o) : g < w.heap.size := (Array.getElem?_eq_some_iff.1 h).1
structure Fr where
  src : Nat
  dst : Nat
  id : Nat
  proto : Int
  D : List UInt8
  H : List Bool
  ln : Int
  till : Nat
def vBo (b : Bool) : Value := .bool b
/-- Its 262 cells. -/
def frV (x : Fr) : List Value := [.int .u32 (x.src : Int), .int .u32 (x.dst : Int), .int .u16 (x.id : Int), .int .i64 x.proto] ++ (x.D.map vB ++ (x.H.map vBo ++ [.int .i64 x.ln, .int .u64 (x.till : Int)]))
def frA (x : Fr) : Array Value := (frV x).toArray
structure Fr.ok (x : Fr) : Prop where
  src : x.src < 4294967296
  dst : x.dst < 4294967296
  id : x.id < 65536
  proto : -9223372036854775808 ≤ x.proto ∧ x.proto ≤ 9223372036854775807
  D : x.D.length = 128
  H : x.H.length = 128
  ln : -9223372036854775808 ≤ x.ln ∧ x.ln ≤ 9223372036854775807
  till : x.till < 18446744073709551616
def fr0 : Fr := ⟨0, 0, 0, 0, List.replicate 128 0, List.replicate 128 false, 0, 0⟩
theorem fr0_ok : fr0.ok := ⟨by decide, by decide, by decide, by decide, by simp [fr0], by simp [fr0], by decide, by decide⟩
theorem frV_len {x : Fr} (h : x.ok) : (frV x).length = 262 := by
  simp [frV, h.D, h.H]
theorem frA_size {x : Fr} (h : x.ok) : (frA x).size = 262 := by simp [frA, frV_len h]
theorem frV_D {x : Fr} (h : x.ok) (i : Nat) (hi : i < 128) : (frV x)[4 + i]? = some (.int .u8 ((x.D.getD i 0).toNat : Int)) := by
  unfold frV
  rw [List.getElem?_append_right (by simp), List.getElem?_append_left (by simp [h.D]; omega)]
  simp only [List.length_cons, List.length_nil, Nat.add_sub_cancel_left, Nat.zero_add]
  have hd : i < x.D.length := by rw [h.D]; exact hi
  simp [List.getD, hd, vB]
theorem frV_H {x : Fr} (h : x.ok) (i : Nat) (hi : i < 128) : (frV x)[132 + i]? = some (.bool (x.H.getD i false)) := by
  unfold frV
  rw [List.getElem?_append_right (by simp; omega), List.getElem?_append_right (by simp [h.D]; omega), List.getElem?_append_left (by simp [h.D, h.H]; omega)]
  have hd : i < x.H.length := by rw [h.H]; exact hi
  have e : 132 + i - 4 - 128 = i := by omega
  simp [h.D, e, List.getD, hd, vBo]
theorem frV_ln {x : Fr} (h : x.ok) : (frV x)[260]? = some (.int .i64 x.ln) := by
  unfold frV
  rw [List.getElem?_append_right (by simp), List.getElem?_append_right (by simp [h.D]), List.getElem?_append_right (by simp [h.D, h.H])]
  simp [h.D, h.H]
theorem frV_till {x : Fr} (h : x.ok) : (frV x)[261]? = some (.int .u64 (x.till : Int)) := by
  unfold frV
  rw [List.getElem?_append_right (by simp), List.getElem?_append_right (by simp [h.D]), List.getElem?_append_right (by simp [h.D, h.H])]
  simp [h.D, h.H]
theorem frV_one (x : Fr) : ∀ v ∈ frV x, v.oneCell' = true := fun v hv => by
  unfold frV at hv
  simp only [List.mem_append, List.mem_cons, List.not_mem_nil, or_false, List.mem_map] at hv
  rcases hv with (rfl | rfl | rfl | rfl) | ⟨u, _, rfl⟩ | ⟨b, _, rfl⟩ | rfl | rfl <;> rfl
theorem frs_one (l : List Fr) : ∀ v ∈ l.flatMap frV, v.oneCell' = true := fun v hv => by
  obtain ⟨x, _, hx⟩ := List.mem_flatMap.1 hv
  exact frV_one x v hx
theorem frA_one (x : Fr) : (frA x).all (·.oneCell') = true := by
  rw [Array.all_eq_true_iff_forall_mem]
  intro v hv
  exact frV_one x v (by simpa [frA] using hv)
theorem frs_len {l : List Fr} (h : ∀ x ∈ l, x.ok) : (l.flatMap frV).length = l.length * 262 := by
  induction l with
  | nil => rfl
  | cons x l ih => rw [List.flatMap_cons, List.length_append, ih (fun y hy => h y (by simp [hy])), frV_len (h x (by simp)), List.length_cons]; omega
theorem frs_get (i : Nat) (hi : i < 262) : ∀ (l : List Fr) (k : Nat), (∀ x ∈ l, x.ok) → (l.flatMap frV)[k * 262 + i]? = l[k]?.bind (fun x => (frV x)[i]?)
  | [], k, _ => by simp
  | x :: l, 0, h => by
    rw [List.flatMap_cons, List.getElem?_append_left (by rw [frV_len (h x (by simp))]; omega)]
    simp
  | x :: l, k + 1, h => by
    have hx := frV_len (h x (by simp))
    rw [List.flatMap_cons, List.getElem?_append_right (by rw [hx]; omega), hx, show (k + 1) * 262 + i - 262 = k * 262 + i by omega, frs_get i hi l k (fun y hy => h y (by simp [hy]))]
    simp
theorem frs_take (k : Nat) : ∀ (l : List Fr), (∀ x ∈ l, x.ok) → (l.flatMap frV).take (k * 262) = (l.take k).flatMap frV := by
  induction k with
  | zero => intro l _; simp
  | succ k ih =>
    intro l h
    cases l with
    | nil => simp
    | cons x l =>
      have hx := frV_len (h x (by simp))
      rw [List.take_succ_cons, List.flatMap_cons, List.flatMap_cons, List.take_append, hx, ← ih l (fun y hy => h y (by simp [hy])), List.take_of_length_le (by rw [hx]; omega)]
      congr 2; omega
theorem frs_drop (k : Nat) : ∀ (l : List Fr), (∀ x ∈ l, x.ok) → (l.flatMap frV).drop (k * 262) = (l.drop k).flatMap frV := by
  induction k with
  | zero => intro l _; simp
  | succ k ih =>
    intro l h
    cases l with
    | nil => simp
    | cons x l =>
      have hx := frV_len (h x (by simp))
      rw [List.drop_succ_cons, List.flatMap_cons, List.drop_append, hx, ← ih l (fun y hy => h y (by simp [hy])), List.drop_of_length_le (by rw [hx]; omega), List.nil_append]
      congr 1; omega
/-- Datagrams that are read. -/
def RdFr (w : World) (A : Option Addr) (n c : Nat) (l : List Fr) : Prop := Rd w A (l.flatMap frV) ∧ l.length = n ∧ n ≤ c ∧ c ≤ maxLen ∧ ∀ x ∈ l, x.ok
theorem RdFr.below {w w' : World} {A : Option Addr} {n c : Nat} {l : List Fr} (h : RdFr w A n c l) (hb : Below w.heap.size w w') : RdFr w' A n c l := ⟨h.1.below hb, h.2⟩
theorem RdFr.n63 {w : World} {A : Option Addr} {n c : Nat} {l : List Fr} (h : RdFr w A n c l) : n ≤ 9223372036854775807 := by have := h.2.2; unfold maxLen at this; omega
theorem rdFr_nil (w : World) : RdFr w none 0 0 [] := ⟨.inl rfl, rfl, Nat.le_refl _, by simp [maxLen], fun x hx => by cases hx⟩
/-- One among others. -/
def FrIn (w : World) (b o : Nat) (x : Fr) : Prop := b < w.heap.size ∧ w.rangeAt b o (frV x)
theorem FrIn.up {w w' : World} {b o : Nat} {x : Fr} (h : FrIn w b o x) (hb : Below w.heap.size w w') : FrIn w' b o x := ⟨Nat.lt_of_lt_of_le h.1 hb.size, fun j v hv => (hb.cell (p := ⟨b, o + j, none⟩) h.1).trans (h.2 j v hv)⟩
theorem FrIn.far {w w' : World} {b o B : Nat} {x : Fr} (h : FrIn w b o x) (hb : Below B w w') (hlt : b < B) : FrIn w' b o x := ⟨Nat.lt_of_lt_of_le h.1 hb.size, fun j v hv => (hb.cell (p := ⟨b, o + j, none⟩) hlt).trans (h.2 j v hv)⟩
theorem RdFr.fr {w : World} {A : Option Addr} {n c : Nat} {l : List Fr} (h : RdFr w A n c l) (k : Nat) (hk : k < n) : ∃ b o, A = some ⟨b, o, none⟩ ∧ b < w.heap.size ∧ (l.getD k fr0).ok ∧ FrIn w b (o + k * 262) (l.getD k fr0) := by
  obtain ⟨hr, hl, _, _, hok⟩ := h
  have hk' : k < l.length := by omega
  have hm : l[k] ∈ l := List.getElem_mem hk'
  have e : l.getD k fr0 = l[k] := by simp [List.getD, hk']
  obtain ⟨b, o, rfl, hb, hc⟩ := hr.resolve_left (by
    intro h0
    have h2 := frs_len hok
    rw [h0] at h2
    simp at h2; omega)
  rw [e]
  refine ⟨b, o, rfl, hb, hok _ hm, hb, fun j v hv => ?_⟩
  have hj : j < 262 := by have := (List.getElem?_eq_some_iff.1 hv).1; rwa [frV_len (hok _ hm)] at this
  have hg := frs_get j hj l k hok
  rw [List.getElem?_eq_getElem hk'] at hg
  rw [Nat.add_assoc]
  exact hc _ v (hg.trans (by simpa using hv))
/-- A variable that holds one. -/
def FrgAt (w : World) (g : Nat) (x : Fr) : Prop := w.heap[g]? = some (.cells (frA x) 85 (0, 0))
theorem FrgAt.up {w w' : World} {g : Nat} {x : Fr} (h : FrgAt w g x) (hb : Below w.heap.size w w') : FrgAt w' g x := frw_up h hb
theorem FrgAt.lt {w : World} {g : Nat} {x : Fr} (h : FrgAt w g x) : g < w.heap.size := frw_lt h
theorem FrgAt.cell {w : World} {g : Nat} {x : Fr} (h : FrgAt w g x) (i : Nat) : w.cell? ⟨g, i, none⟩ = (frV x)[i]? := by
  rw [cell_of_row w g i _ _ _ h]; simp [frA]
theorem fr_cells : (Try.prog.info? 85).map (·.size) = some 262 := by kernel_rfl
theorem fr_info {x : Fr} (h : x.ok) : (Try.prog.info? 85).map (·.size) = some (frA x).size := by rw [frA_size h]; exact fr_cells
theorem fr_infoV {x : Fr} (h : x.ok) : (Try.prog.info? 85).map (·.size) = some (frV x).length := by rw [frV_len h]; exact fr_cells
theorem elemFr : ElemK Try.prog 56 85 (.agg (frA fr0)) 262 296 :=
  .of Try.underlying56 (by kernel_rfl) (by kernel_rfl) (by decide)
section
variable {ops : Array Oper} {rest : List Oper} {o : Oper} {a : Act} {w : World} {Q : Exit → Act → World → Prop} {h : Nat} {x : Fr}
theorem fr_load (hok : x.ok) (hgd : o.guard = none) (z : Operand) (ho : o.op = .load 85 z) (hx : a.eval z = .pointer (some ⟨h, 0, none⟩)) (v : FrgAt w h x)
    (hK : wpList Try.prog ops Q rest (a.put o.dst (.agg (frA x))) w) : wpList Try.prog ops Q (o :: rest) a w :=
  wpList_load_row hgd 85 z ho h hx 85 (frA x) (0, 0) _ v Try.underlying85 rfl (fr_info hok) hK
theorem fr_mid (hok : x.ok) (hgd : o.guard = none) (z : Operand) (ho : o.op = .load 85 z) (b f : Nat) (hx : a.eval z = .pointer (some ⟨b, f, none⟩)) (v : FrIn w b f x)
    (hK : wpList Try.prog ops Q rest (a.put o.dst (.agg (frA x))) w) : wpList Try.prog ops Q (o :: rest) a w :=
  wpList_load_mid hgd 85 z ho b f hx (frV x) _ v.2 Try.underlying85 rfl (fr_infoV hok) hK
end
end Go.Proofs.Yteajboafcjeagaa
