/-
  Words for memory that all walks of this seat use: what a slice reads, what the call owns, and the law of append over them. No program is named here.
-/
import Derived.WalkKit
import Derived.WalkLawsBesides
import Derived.WalkSpells
import Derived.WalkSmall
import Derived.Maps.AppendAt
import Derived.Deep.AppendLies
import Derived.Lib.Hide
namespace Go.Proofs.Yteajboafcjeagaa
set_option maxRecDepth 20000
open Go.RowKit

/-- A byte as a value. -/
def vB (u : UInt8) : Value := .int .u8 (u.toNat : Int)

/-- The address leads to the cells xs. -/
def Rd (w : World) (A : Option Addr) (xs : List Value) : Prop :=
  xs = [] ∨ ∃ b o, A = some ⟨b, o, none⟩ ∧ b < w.heap.size ∧ ∀ i v, xs[i]? = some v → w.cell? ⟨b, o + i, none⟩ = some v

theorem Rd.nil_ (w : World) (A : Option Addr) : Rd w A [] := .inl rfl

theorem Rd.at_ {w : World} {A : Option Addr} {xs : List Value} (h : Rd w A xs) (k : Nat) (hk : k < xs.length) :
    ∃ b o, A = some ⟨b, o, none⟩ ∧ b < w.heap.size ∧ w.cell? ⟨b, o + k, none⟩ = some xs[k] := by
  rcases h with rfl | ⟨b, o, hA, hb, hc⟩
  · simp at hk
  · exact ⟨b, o, hA, hb, hc k _ (List.getElem?_eq_getElem hk)⟩

theorem Rd.keep {w w' : World} {A : Option Addr} {xs : List Value} (h : Rd w A xs) (hs : w.heap.size ≤ w'.heap.size) (hk : ∀ p : Addr, p.block < w.heap.size → w'.cell? p = w.cell? p) : Rd w' A xs := by
  rcases h with rfl | ⟨b, o, hA, hb, hc⟩
  · exact .inl rfl
  · exact .inr ⟨b, o, hA, by omega, fun i v hv => (hk _ hb).trans (hc i v hv)⟩

theorem Rd.below {w w' : World} {A : Option Addr} {xs : List Value} (h : Rd w A xs) (hb : Below w.heap.size w w') : Rd w' A xs :=
  h.keep hb.size fun _ hp => hb.cell hp

theorem Rd.alloc {w : World} {A : Option Addr} {xs : List Value} (h : Rd w A xs) (o : Obj) : Rd (w.alloc o) A xs :=
  h.keep (by simp) fun p hp => World.cell?_alloc_lt w o p hp
theorem Rd.drew {w : World} {A : Option Addr} {xs : List Value} (h : Rd w A xs) : Rd w.drew A xs := h
theorem Rd.drewN {w : World} {A : Option Addr} {xs : List Value} (h : Rd w A xs) (n : Nat) : Rd (w.drewN n) A xs := h

/-- A block that was just laid. -/
theorem Rd.new (w : World) (cs : Array Value) (t : TypeId) : Rd (w.alloc (.cells cs t)) (some ⟨w.heap.size, 0, none⟩) cs.toList := by
  refine .inr ⟨w.heap.size, 0, rfl, by simp, fun i v hv => ?_⟩
  rw [Nat.zero_add, cell_of_row _ _ i cs t (0, 0) (heap_alloc_new w _)]
  simpa using hv

theorem Rd.newM (w : World) (cs : Array Value) (t : TypeId) (m : Nat × Nat) : Rd (w.alloc (.cells cs t m)) (some ⟨w.heap.size, 0, none⟩) cs.toList := by
  refine .inr ⟨w.heap.size, 0, rfl, by simp, fun i v hv => ?_⟩
  rw [Nat.zero_add, cell_of_row _ _ i cs t m (heap_alloc_new w _)]
  simpa using hv

/-- What lies in no written row is read on. -/
theorem Rd.grown {w w' : World} {A : Option Addr} {xs : List Value} {row : Option Nat} (h : Rd w A xs) (hg : w.grownBy w' row) (hr : ∀ a, A = some a → row ≠ some a.block) : Rd w' A xs := by
  rcases h with rfl | ⟨b, o, rfl, hb, hc⟩
  · exact .inl rfl
  · exact .inr ⟨b, o, rfl, Nat.lt_of_lt_of_le hb hg.size, fun i v hv => hg.cell (hc i v hv) (fun e => hr _ rfl e.symm)⟩

/-- What is read lies ahead of block B. -/
def Lies (A : Option Addr) (B : Nat) : Prop := ∀ a, A = some a → a.block < B

theorem Rd.take {w : World} {A : Option Addr} {xs : List Value} (h : Rd w A xs) (n : Nat) : Rd w A (xs.take n) := by
  rcases h with rfl | ⟨b, o, rfl, hb, hc⟩
  · simp [Rd]
  · refine .inr ⟨b, o, rfl, hb, fun i v hv => hc i v ?_⟩
    rw [List.getElem?_take] at hv
    split at hv
    · exact hv
    · cases hv

/-- A cut 's[k:..]': the address as the model lays it. -/
theorem Rd.drop {w : World} {A : Option Addr} {xs : List Value} (h : Rd w A xs) (k cap : Nat) (hk : xs.length ≤ cap) :
    Rd w (if cap = k then A else A.map (·.add k)) (xs.drop k) := by
  rcases h with rfl | ⟨b, o, rfl, hb, hc⟩
  · simp [Rd]
  · by_cases e : cap = k
    · left; simp; omega
    · right
      refine ⟨b, o + k, by rw [if_neg e]; simp [Addr.add_lit], hb, fun i v hv => ?_⟩
      rw [List.getElem?_drop] at hv
      have := hc (k + i) v hv
      rwa [Nat.add_assoc]

theorem Rd.of_own {w : World} {base : Nat} {e : TypeId} {A : Option Addr} {n c : Nat} {xs : List Value} (h : w.ownsRow base e 1 (.slice A n c) n xs) : Rd w A xs := by
  rcases h.2 with ⟨he, rfl⟩ | ⟨g, cap, cur, he, _, hg, _⟩
  · left; exact List.eq_nil_of_length_eq_zero (by simpa using h.1)
  · right
    injection he with hA
    subst hA
    have hlt : g < w.heap.size := by
      rcases Nat.lt_or_ge g w.heap.size with hlt | hge
      · exact hlt
      · rw [Array.getElem?_eq_none hge] at hg; cases hg
    refine ⟨g, 0, rfl, hlt, fun i v hv => ?_⟩
    have := h.cells (g := g) rfl i v hv
    simpa [Addr.add_lit] using this

theorem own_mono {w : World} {base base' : Nat} {e : TypeId} {v : Value} {n : Nat} {xs : List Value} (h : w.ownsRow base e 1 v n xs) (hb : base' ≤ base) : w.ownsRow base' e 1 v n xs := by
  refine ⟨h.1, ?_⟩
  rcases h.2 with h2 | ⟨g, cap, cur, hv, hg, r⟩
  · exact .inl h2
  · exact .inr ⟨g, cap, cur, hv, Nat.le_trans hb hg, r⟩
theorem own_len {w : World} {base : Nat} {e : TypeId} {v : Value} {n : Nat} {xs : List Value} (h : w.ownsRow base e 1 v n xs) : xs.length = n := by simpa using h.1

/-- The value's form: a slice of that length, its capacity no less. -/
theorem own_form {w : World} {base : Nat} {e : TypeId} {v : Value} {n : Nat} {xs : List Value} (h : w.ownsRow base e 1 v n xs) : ∃ A c, v = .slice A n c ∧ n ≤ c ∧ c ≤ maxLen ∧ (∀ a, A = some a → base ≤ a.block ∧ a.block < w.heap.size) := by
  have h0 := h
  rcases h.2 with ⟨rfl, rfl⟩ | ⟨g, cap, cur, rfl, hb, hg, hc, hm, _⟩
  · exact ⟨_, _, rfl, Nat.le_refl _, by simp [maxLen], by simp⟩
  · refine ⟨_, _, rfl, hc, hm, fun a ha => ?_⟩
    injection ha with ha
    subst ha
    exact h0.lt g rfl

/-- The element type's row of the table, as the laws on append and make ask it. -/
structure ElemAt (P : Program) (t e : TypeId) (z : Value) (bytes : Nat) : Prop where
  slice : P.underlying t = some (.slice e)
  info : (P.info? e).map (fun i => (i.zero, i.size, i.bytes)) = some (some z, 1, bytes)
  one : z.cells.size = 1

section
variable {P : Program} {w : World}

theorem run_app {t e : TypeId} {z : Value} {bytes : Nat} (he : ElemAt P t e z bytes) (ty : TypeId) (base : Nat) (v : Value) (n : Nat) (xs : List Value) (hown : w.ownsRow base e 1 v n xs)
    (A : Option Addr) (m c : Nat) (news : List Value) (hr : Rd w A news) (hm : news.length = m) (h1 : ∀ u ∈ news, u.oneCell' = true)
    (h63 : n + m ≤ maxLen) (hbytes : (n + m) * bytes ≤ 140737488355328) (hbase : base ≤ w.heap.size) :
    ∃ A' c' w', (Builtin.append_ #[t, t] ty #[v, .slice A m c]).run P w = .ok (.slice A' (n + m) c') w' ∧ w'.ownsRow base e 1 (.slice A' (n + m) c') (n + m) (xs ++ news) ∧ w.grownBy w' v.ownBlock := by
  obtain ⟨i, hi, hz, hsz, hby⟩ := info_parts he.info
  have fin : ∀ (v' : Value) (w' : World), w'.ownsRow base e 1 v' (n + m) (xs ++ news) → ∃ A' c', v' = .slice A' (n + m) c' := fun v' w' h => by
    obtain ⟨A', c', h', _⟩ := own_form h
    exact ⟨A', c', h'⟩
  by_cases h0 : news = []
  · subst h0
    obtain rfl : m = 0 := by simpa using hm.symm
    rcases A with _ | a
    · have hrun : (Builtin.append_ #[t, t] ty #[v, .slice none 0 c]).run P w = .ok v w := by
        rcases hown.2 with ⟨rfl, rfl⟩ | ⟨g, cap, cur, rfl, _, _, hnc, _⟩
        · simp [Builtin.append_, run_underlying he.slice, sizeOf, typeInfo, hi, Builtin.lenOf, Builtin.firstCells]
        · simp [Builtin.append_, run_underlying he.slice, sizeOf, typeInfo, hi, Builtin.lenOf, Builtin.firstCells, hnc, storeCells]
      obtain ⟨A', c', rfl⟩ := fin v w (by simpa using hown)
      exact ⟨A', c', w, by simpa using hrun, by simpa using hown, World.grownBy.refl _ _⟩
    · obtain ⟨v', w', hrun, ho, hg, _⟩ := run_append_own_at (P := P) w base t ty e i z 1 bytes he.slice hi hz hsz hby he.one (by decide) v n xs hown a 0 c [] (by simp) (by simp) (by simp) h63 hbytes hbase
      obtain ⟨A', c', rfl⟩ := fin v' w' ho
      exact ⟨A', c', w', hrun, ho, hg⟩
  · rcases hr with h | ⟨b, o, rfl, hb, hc⟩
    · exact absurd h h0
    · obtain ⟨v', w', hrun, ho, hg, _⟩ := run_append_own_at (P := P) w base t ty e i z 1 bytes he.slice hi hz hsz hby he.one (by decide) v n xs hown ⟨b, o, none⟩ m c news (by omega) (fun j u hj => by
        have := hc j u hj
        rwa [Addr.add_lit]) h1 h63 hbytes hbase
      obtain ⟨A', c', rfl⟩ := fin v' w' ho
      exact ⟨A', c', w', hrun, ho, hg⟩

/-- 'append(s, x...)': s owned, x whatever slice is read. -/
theorem wp_app {ops : Array Oper} {rest : List Oper} {o : Oper} {a : Act} {Q : Exit → Act → World → Prop} (hgd : o.guard = none) (s x : Operand) (t e : TypeId) {z : Value} {bytes : Nat}
    (ho : o.op = .call { callee := .builtin .append, args := #[s, x], argTypes := #[t, t] }) (he : ElemAt P t e z bytes)
    (base : Nat) (v : Value) (n : Nat) (xs : List Value) (hs : a.eval s = v) (hown : w.ownsRow base e 1 v n xs)
    (A : Option Addr) (m c : Nat) (news : List Value) (hx : a.eval x = .slice A m c) (hr : Rd w A news) (hm : news.length = m) (h1 : ∀ u ∈ news, u.oneCell' = true)
    (h63 : n + m ≤ maxLen) (hbytes : (n + m) * bytes ≤ 140737488355328) (hbase : base ≤ w.heap.size)
    (h : ∀ A' c' w', w'.ownsRow base e 1 (.slice A' (n + m) c') (n + m) (xs ++ news) → w.grownBy w' v.ownBlock → wpList P ops Q rest (a.put o.dst (.slice A' (n + m) c')) w') : wpList P ops Q (o :: rest) a w := by
  refine wpList_plain hgd fun K hK => ?_
  obtain ⟨A', c', w', hr, h2, h3⟩ := run_app (P := P) (w := w) he o.type base v n xs hown A m c news hr hm h1 h63 hbytes hbase
  unfold Oper.wp execOp
  simp only [ho, resolve, invoke, builtin, Sem.run_bind, Sem.run_pure, Result.andThen_ok, List.map_toArray, List.map_cons, List.map_nil, hs, hx, hr]
  exact hK _ _ (h A' c' w' h2 h3)
end

/-- One world behind another, each new thing above. -/
theorem below_then {a b c : World} (h : Below a.heap.size a b) (k : Below b.heap.size b c) : Below a.heap.size a c := h.trans (k.mono h.size)

/-- A block laid, then what comes behind it. -/
theorem bstep {a b c : World} {o : Obj} (h : Below a.heap.size a b) (k : Below (b.alloc o).heap.size (b.alloc o) c) : Below a.heap.size a c := below_then (h.alloc h.size o) k
theorem below_self (w : World) : Below w.heap.size w w := Below.refl _ w
theorem undrew {w w' : World} (h : Below w.drew.heap.size w.drew w') : Below w.heap.size w w' := (Below.drew (Below.refl _ w)).trans h

theorem oneCell_vB (xs : List UInt8) : ∀ u ∈ xs.map vB, u.oneCell' = true := by
  intro u hu
  obtain ⟨x, _, rfl⟩ := List.mem_map.1 hu
  rfl

theorem take_snoc {α : Type} (l : List α) (k : Nat) (h : k < l.length) : l.take (k + 1) = l.take k ++ [l[k]] := by
  rw [List.take_succ_eq_append_getElem h]

end Go.Proofs.Yteajboafcjeagaa
