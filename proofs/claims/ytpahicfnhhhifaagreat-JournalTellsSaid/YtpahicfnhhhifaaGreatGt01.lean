/-
 Proved here, for the statement JournalTells:
 Words for memory that all walks of this seat use: what a slice reads, what the c
 The library's slices.Grow (nil), Concat, Equal and bytes.Clone at []byte, walked
-/
import Derived.WalkKit
import Derived.WalkLawsBesides
import Derived.WalkSpells
import Derived.WalkSmall
import Derived.Maps.AppendAt
import Derived.Deep.AppendLies
import Derived.Lib.Hide
import Derived.Outline
import Derived.LoopTactic
import Derived.Deep.LoopGhost
import Derived.Deep.QuietTactic
import Derived.BigQuiet
import Derived.Lib.AppendZerosOnto
import Derived.OneCell
import Derived.Laws.CopyOwn
import Derived.OwnWalk
import Derived.Lib.SlBytesConst
import Derived.Shelf.Bytes.SlEqualAll
import Derived.Test.YtpahicfnhhhifaaGreatRows
import Derived.ProofKit
import Derived.OpenShut
import Derived.ShutString
import Derived.ChangeOld
import Derived.Below
import Derived.Lib.SmallJoins
import Derived.Laws.Tables
set_option linter.unusedVariables false
set_option linter.unusedSimpArgs false
namespace Go.Proofs.YtpahicfnhhhifaaGreat
theorem pst3 {α : Type _} : (∀ (xs : List α) (i : Nat) (a : α), xs.toArray.setIfInBounds i a = (xs.set i a).toArray) ∧ (∀ (x b : α) (xs : List α), (x :: xs).set 0 b = b :: xs) ∧ ∀ (x b : α) (xs : List α) (n : Nat), (x :: xs).set (n + 1) b = x :: xs.set n b := ⟨fun _ _ _ => List.setIfInBounds_toArray .., fun _ _ _ => List.set_cons_zero .., fun _ _ _ _ => List.set_cons_succ ..⟩
def brw9 (n k : Nat) : Array Bool := ((List.range n).map fun i => k.testBit i).toArray
abbrev zz1 : Array Go.Value := #[.int .u32 0, .int .i64 0, .int .i64 0, .int .u8 0, .int .u8 0, .int .u8 0, .int .u8 0, .int .u8 0, .int .u8 0, .int .u8 0, .int .u8 0, .int .u8 0, .int .u8 0, .int .u8 0, .int .u8 0, .int .u8 0, .int .u8 0, .int .u8 0, .int .u8 0, .int .u8 0, .int .u8 0, .int .u8 0, .int .u8 0, .int .u8 0, .int .u8 0, .int .u8 0, .int .u8 0, .int .u8 0, .int .u8 0, .int .u8 0, .int .u8 0, .int .u8 0, .int .u8 0, .int .u8 0, .int .u8 0]
abbrev zz2 : Array Go.Value := #[.int .u32 0, .int .u32 0, .int .u32 0, .int .u32 0, .int .u32 0, .int .u32 0, .int .u32 0, .int .u32 0, .int .u32 0, .int .u32 0, .int .u32 0, .int .u32 0, .int .u32 0, .int .u32 0, .int .u32 0, .int .u32 0, .int .u32 0, .int .u32 0, .int .u32 0, .int .u32 0, .int .u32 0, .int .u32 0, .int .u32 0, .int .u32 0, .int .u32 0, .int .u32 0, .int .u32 0, .int .u32 0, .int .u32 0, .int .u32 0, .int .u32 0, .int .u32 0, .int .u32 0, .int .u32 0, .int .u32 0, .int .u32 0, .int .u32 0, .int .u32 0, .int .u32 0, .int .u32 0, .int .u32 0, .int .u32 0, .int .u32 0, .int .u32 0, .int .u32 0, .int .u32 0, .int .u32 0, .int .u32 0, .int .u32 0, .int .u32 0, .int .u32 0, .int .u32 0, .int .u32 0, .int .u32 0, .int .u32 0, .int .u32 0, .int .u32 0, .int .u32 0, .int .u32 0, .int .u32 0, .int .u32 0, .int .u32 0, .int .u32 0, .int .u32 0]
abbrev zz3 : Array Go.Value := #[.int .u32 0, .int .u32 0, .int .u32 0, .int .u64 0, .int .i64 0, .int .u64 0, .slice none 0 0, .int .u8 0, .int .u8 0, .int .u8 0, .int .u8 0, .int .u8 0, .int .u8 0, .int .u8 0, .int .u8 0, .int .u8 0, .int .u8 0, .int .u8 0, .int .u8 0, .int .u8 0, .int .u8 0, .int .u8 0, .int .u8 0, .int .u8 0, .int .u8 0, .int .u8 0, .int .u8 0, .int .u8 0, .int .u8 0, .int .u8 0, .int .u8 0, .int .u8 0, .int .u8 0, .int .u8 0, .int .u8 0, .int .u8 0, .int .u8 0, .int .u8 0, .int .u8 0]
abbrev zz4 : Array Go.Value := #[.int .u8 0, .int .u8 0, .int .u8 0, .int .u8 0, .int .u8 0, .int .u8 0, .int .u8 0, .int .u8 0, .int .u8 0, .int .u8 0, .int .u8 0, .int .u8 0, .int .u8 0, .int .u8 0, .int .u8 0, .int .u8 0, .int .u8 0, .int .u8 0, .int .u8 0, .int .u8 0, .int .u8 0, .int .u8 0, .int .u8 0, .int .u8 0, .int .u8 0, .int .u8 0, .int .u8 0, .int .u8 0, .int .u8 0, .int .u8 0, .int .u8 0, .int .u8 0]
end Go.Proofs.YtpahicfnhhhifaaGreat
namespace Go.Proofs.YtpahicfnhhhifaaGreat
set_option maxRecDepth 20000
open Go.RowKit
def vB (u : UInt8) : Value := .int .u8 (u.toNat : Int)
def Rd (w : World) (A : Option Addr) (xs : List Value) : Prop :=
 xs = [] ∨ ∃ b o, A = some ⟨b, o, none⟩ ∧ b < w.heap.size ∧ ∀ i v, xs[i]? = some v → w.cell? ⟨b, o + i, none⟩ = some v
theorem Rd.at_ {w : World} {A : Option Addr} {xs : List Value} (h : Rd w A xs) (k : Nat) (hk : k < xs.length) :
  ∃ b o, A = some ⟨b, o, none⟩ ∧ b < w.heap.size ∧ w.cell? ⟨b, o + k, none⟩ = some xs[k] := by
 rcases h with rfl | ⟨b, o, hA, hb, hc⟩
 ·simp at hk
 ·exact ⟨b, o, hA, hb, hc k _ (List.getElem?_eq_getElem hk)⟩
theorem Rd.keep {w w' : World} {A : Option Addr} {xs : List Value} (h : Rd w A xs) (hs : w.heap.size ≤ w'.heap.size) (hk : ∀ p : Addr, p.block < w.heap.size → w'.cell? p = w.cell? p) : Rd w' A xs := by
 rcases h with rfl | ⟨b, o, hA, hb, hc⟩
 ·exact .inl rfl
 ·exact .inr ⟨b, o, hA, by omega, fun i v hv => (hk _ hb).trans (hc i v hv)⟩
theorem Rd.below {w w' : World} {A : Option Addr} {xs : List Value} (h : Rd w A xs) (hb : Below w.heap.size w w') : Rd w' A xs :=
 h.keep hb.size fun _ hp => hb.cell hp
theorem Rd.alloc {w : World} {A : Option Addr} {xs : List Value} (h : Rd w A xs) (o : Obj) : Rd (w.alloc o) A xs :=
 h.keep (by simp) fun p hp => World.cell?_alloc_lt w o p hp
theorem Rd.new (w : World) (cs : Array Value) (t : TypeId) : Rd (w.alloc (.cells cs t)) (some ⟨w.heap.size, 0, none⟩) cs.toList := by
 refine .inr ⟨w.heap.size, 0, rfl, by simp, fun i v hv => ?_⟩
 rw [Nat.zero_add, cell_of_row _ _ i cs t (0, 0) (heap_alloc_new w _)]
 simpa using hv
theorem Rd.newM (w : World) (cs : Array Value) (t : TypeId) (m : Nat × Nat) : Rd (w.alloc (.cells cs t m)) (some ⟨w.heap.size, 0, none⟩) cs.toList := by
 refine .inr ⟨w.heap.size, 0, rfl, by simp, fun i v hv => ?_⟩
 rw [Nat.zero_add, cell_of_row _ _ i cs t m (heap_alloc_new w _)]
 simpa using hv
theorem Rd.take {w : World} {A : Option Addr} {xs : List Value} (h : Rd w A xs) (n : Nat) : Rd w A (xs.take n) := by
 rcases h with rfl | ⟨b, o, rfl, hb, hc⟩
 ·simp [Rd]
 ·refine .inr ⟨b, o, rfl, hb, fun i v hv => hc i v ?_⟩
  rw [List.getElem?_take] at hv
  split at hv
  ·exact hv
  ·cases hv
theorem Rd.drop {w : World} {A : Option Addr} {xs : List Value} (h : Rd w A xs) (k cap : Nat) (hk : xs.length ≤ cap) :
  Rd w (if cap = k then A else A.map (·.add k)) (xs.drop k) := by
 rcases h with rfl | ⟨b, o, rfl, hb, hc⟩
 ·simp [Rd]
 ·by_cases e : cap = k
  ·left; simp; omega
  ·right
   refine ⟨b, o + k, by rw [if_neg e]; simp [Addr.add_lit], hb, fun i v hv => ?_⟩
   rw [List.getElem?_drop] at hv
   have := hc (k + i) v hv
   rwa [Nat.add_assoc]
theorem Rd.of_own {w : World} {base : Nat} {e : TypeId} {A : Option Addr} {n c : Nat} {xs : List Value} (h : w.ownsRow base e 1 (.slice A n c) n xs) : Rd w A xs := by
 rcases h.2 with ⟨he, rfl⟩ | ⟨g, cap, cur, he, _, hg, _⟩
 ·left; exact List.eq_nil_of_length_eq_zero (by simpa using h.1)
 ·right
  injection he with hA
  subst hA
  have hlt : g < w.heap.size := by
   rcases Nat.lt_or_ge g w.heap.size with hlt | hge
   ·exact hlt
   ·rw [Array.getElem?_eq_none hge] at hg; cases hg
  refine ⟨g, 0, rfl, hlt, fun i v hv => ?_⟩
  have := h.cells (g := g) rfl i v hv
  simpa [Addr.add_lit] using this
theorem own_mono {w : World} {base base' : Nat} {e : TypeId} {v : Value} {n : Nat} {xs : List Value} (h : w.ownsRow base e 1 v n xs) (hb : base' ≤ base) : w.ownsRow base' e 1 v n xs := by
 refine ⟨h.1, ?_⟩
 rcases h.2 with h2 | ⟨g, cap, cur, hv, hg, r⟩
 ·exact .inl h2
 ·exact .inr ⟨g, cap, cur, hv, Nat.le_trans hb hg, r⟩
theorem own_len {w : World} {base : Nat} {e : TypeId} {v : Value} {n : Nat} {xs : List Value} (h : w.ownsRow base e 1 v n xs) : xs.length = n := by simpa using h.1
theorem own_form {w : World} {base : Nat} {e : TypeId} {v : Value} {n : Nat} {xs : List Value} (h : w.ownsRow base e 1 v n xs) : ∃ A c, v = .slice A n c ∧ n ≤ c ∧ c ≤ maxLen ∧ (∀ a, A = some a → base ≤ a.block ∧ a.block < w.heap.size) := by
 have h0 := h
 rcases h.2 with ⟨rfl, rfl⟩ | ⟨g, cap, cur, rfl, hb, hg, hc, hm, _⟩
 ·exact ⟨_, _, rfl, Nat.le_refl _, by simp [maxLen], by simp⟩
 ·refine ⟨_, _, rfl, hc, hm, fun a ha => ?_⟩
  injection ha with ha
  subst ha
  exact h0.lt g rfl
structure ElemAt (P : Program) (t e : TypeId) (z : Value) (bytes : Nat) : Prop where
 slice : P.underlying t = some (.slice e)
 info : (P.info? e).map (fun i => (i.zero, i.size, i.bytes)) = some (some z, 1, bytes)
 one : z.cells.size = 1
section
variable {P : Program} {w : World}
theorem run_app {t e : TypeId} {z : Value} {bytes : Nat} (he : ElemAt P t e z bytes) (ty : TypeId) (base : Nat) (v : Value) (n : Nat) (xs : List Value) (hown : w.ownsRow base e 1 v n xs)
  (A : Option Addr) (m c : Nat) (news : List Value) (hr : Rd w A news) (hm : news.length = m) (h1 : ∀ u ∈ news, u.oneCell' = true)
  (h63 : n + m ≤ maxLen) (hbytes : (n + m) * bytes ≤ 140737488355328) (hbase : base ≤ w.heap.size) :
  ∃ A' c' w', (Builtin.append_ #[t, t] ty #[v, .slice A m c]).run P w = .ok (.slice A' (n + m) c') w' ∧ w'.ownsRow base e 1 (.slice A' (n + m) c') (n + m) (xs ++ news) ∧ w.grownBy w' v.ownBlock := by
 obtain ⟨i, hi, hz, hsz, hby⟩ := info_parts he.info
 have fin : ∀ (v' : Value) (w' : World), w'.ownsRow base e 1 v' (n + m) (xs ++ news) → ∃ A' c', v' = .slice A' (n + m) c' := fun v' w' h => by
  obtain ⟨A', c', h', _⟩ := own_form h
  exact ⟨A', c', h'⟩
 by_cases h0 : news = []
 ·subst h0
  obtain rfl : m = 0 := by simpa using hm.symm
  rcases A with _ | a
  ·have hrun : (Builtin.append_ #[t, t] ty #[v, .slice none 0 c]).run P w = .ok v w := by
    rcases hown.2 with ⟨rfl, rfl⟩ | ⟨g, cap, cur, rfl, _, _, hnc, _⟩
    ·simp [Builtin.append_, run_underlying he.slice, sizeOf, typeInfo, hi, Builtin.lenOf, Builtin.firstCells]
    ·simp [Builtin.append_, run_underlying he.slice, sizeOf, typeInfo, hi, Builtin.lenOf, Builtin.firstCells, hnc, storeCells]
   obtain ⟨A', c', rfl⟩ := fin v w (by simpa using hown)
   exact ⟨A', c', w, by simpa using hrun, by simpa using hown, World.grownBy.refl _ _⟩
  ·obtain ⟨v', w', hrun, ho, hg, _⟩ := run_append_own_at (P := P) w base t ty e i z 1 bytes he.slice hi hz hsz hby he.one (by decide) v n xs hown a 0 c [] (by simp) (by simp) (by simp) h63 hbytes hbase
   obtain ⟨A', c', rfl⟩ := fin v' w' ho
   exact ⟨A', c', w', hrun, ho, hg⟩
 ·rcases hr with h | ⟨b, o, rfl, hb, hc⟩
  ·exact absurd h h0
  ·obtain ⟨v', w', hrun, ho, hg, _⟩ := run_append_own_at (P := P) w base t ty e i z 1 bytes he.slice hi hz hsz hby he.one (by decide) v n xs hown ⟨b, o, none⟩ m c news (by omega) (fun j u hj => by
    have := hc j u hj
    rwa [Addr.add_lit]) h1 h63 hbytes hbase
   obtain ⟨A', c', rfl⟩ := fin v' w' ho
   exact ⟨A', c', w', hrun, ho, hg⟩
theorem wp_app {ops : Array Oper} {rest : List Oper} {o : Oper} {a : Act} {Q : Exit → Act → World → Prop} (hgd : o.guard = none) (s x : Operand) (t e : TypeId) {z : Value} {bytes : Nat}
  (ho : o.op = .call { callee := .builtin .append, args := #[s, x], argTypes := #[t, t] }) (he : ElemAt P t e z bytes)
  (base : Nat) (v : Value) (n : Nat) (xs : List Value) (hs : a.eval s = v) (hown : w.ownsRow base e 1 v n xs)
  (A : Option Addr) (m c : Nat) (news : List Value) (hx : a.eval x = .slice A m c) (hr : Rd w A news) (hm : news.length = m) (h1 : ∀ u ∈ news, u.oneCell' = true)
  (h63 : n + m ≤ maxLen) (hbytes : (n + m) * bytes ≤ 140737488355328) (hbase : base ≤ w.heap.size)
  (h : ∀ A' c' w', w'.ownsRow base e 1 (.slice A' (n + m) c') (n + m) (xs ++ news) → w.grownBy w' v.ownBlock → wpList P ops Q rest (a.put o.dst (.slice A' (n + m) c')) w') : wpList P ops Q (o :: rest) a w := by
 refine wpList_plain hgd fun K hK => ?_
 obtain ⟨A', c', w', hr, h2, h3⟩ := run_app (P := P) (w := w) he o.type base v n xs hown A m c news hr hm h1 h63 hbytes hbase
 unfold Oper.wp execOp
 simp only [ho, resolve, invoke, builtin, Sem.run_bind, Sem.run_pure, Result.andThen_ok, List.map_toArray, List.map_cons, List.map_nil, hs, hx, hr]
 exact hK _ _ (h A' c' w' h2 h3)
end
theorem below_then {a b c : World} (h : Below a.heap.size a b) (k : Below b.heap.size b c) : Below a.heap.size a c := h.trans (k.mono h.size)
theorem bstep {a b c : World} {o : Obj} (h : Below a.heap.size a b) (k : Below (b.alloc o).heap.size (b.alloc o) c) : Below a.heap.size a c := below_then (h.alloc h.size o) k
theorem below_self (w : World) : Below w.heap.size w w := Below.refl _ w
theorem undrew {w w' : World} (h : Below w.drew.heap.size w.drew w') : Below w.heap.size w w' := (Below.drew (Below.refl _ w)).trans h
theorem oneCell_vB (xs : List UInt8) : ∀ u ∈ xs.map vB, u.oneCell' = true := by
 intro u hu
 obtain ⟨x, _, rfl⟩ := List.mem_map.1 hu
 rfl
theorem take_snoc {α : Type} (l : List α) (k : Nat) (h : k < l.length) : l.take (k + 1) = l.take k ++ [l[k]] := by
 rw [List.take_succ_eq_append_getElem h]
def RdB (w : World) (A : Option Addr) (n c : Nat) (xs : List UInt8) : Prop := Rd w A (xs.map vB) ∧ xs.length = n ∧ n ≤ c ∧ c ≤ maxLen
def OwnB (w : World) (base : Nat) (A : Option Addr) (n c : Nat) (xs : List UInt8) : Prop := w.ownsRow base 5 1 (.slice A n c) n (xs.map vB)
def RetB (w : World) (ys : List UInt8) (e : Ending) (w' : World) : Prop := ∃ A n c, e = .returned (.slice A n c) ∧ OwnB w' w.heap.size A n c ys ∧ Below w.heap.size w w'
def RetV (w : World) (v : Value) (e : Ending) (w' : World) : Prop := e = .returned v ∧ Below w.heap.size w w'
theorem elemB : ElemAt Tryz.prog 47 5 (.int .u8 0) 1 := ⟨Tryz.underlying47, by kernel_rfl, rfl⟩
section
variable {w w' : World} {A : Option Addr} {n c base : Nat} {xs ys : List UInt8}
theorem OwnB.len (h : OwnB w base A n c xs) : xs.length = n := by have := own_len h; simpa using this
theorem OwnB.rd (h : OwnB w base A n c xs) : RdB w A n c xs := by
 obtain ⟨A', c', he, h1, h2, _⟩ := own_form h
 injection he with hA _ hc
 subst hA hc
 exact ⟨Rd.of_own h, h.len, h1, h2⟩
theorem RdB.below (h : RdB w A n c xs) (hb : Below w.heap.size w w') : RdB w' A n c xs := ⟨h.1.below hb, h.2⟩
theorem RdB.alloc (h : RdB w A n c xs) (o : Obj) : RdB (w.alloc o) A n c xs := ⟨h.1.alloc o, h.2⟩
theorem RdB.drew (h : RdB w A n c xs) : RdB w.drew A n c xs := h
theorem RdB.at_ (h : RdB w A n c xs) (k : Nat) (hk : k < n) : ∃ b o u, A = some ⟨b, o, none⟩ ∧ b < w.heap.size ∧ xs[k]? = some u ∧ w.cell? ⟨b, o + k, none⟩ = some (.int .u8 (u.toNat : Int)) := by
 have hl : k < xs.length := by have := h.2.1; omega
 obtain ⟨b, o, hA, hb, hc⟩ := h.1.at_ k (by simpa using hl)
 refine ⟨b, o, xs[k], hA, hb, List.getElem?_eq_getElem hl, ?_⟩
 simpa [vB] using hc
theorem RdB.lt (h : RdB w A n c xs) (hn : 0 < n) : ∀ a, A = some a → a.block < w.heap.size := by
 obtain ⟨b, o, _, rfl, hb, _⟩ := h.at_ 0 hn
 rintro a ⟨rfl⟩
 exact hb
theorem RdB.n63 (h : RdB w A n c xs) : n ≤ 9223372036854775807 := by have := h.2.2; unfold maxLen at this; omega
theorem RdB.c63 (h : RdB w A n c xs) : c ≤ 9223372036854775807 := by have := h.2.2.2; unfold maxLen at this; omega
theorem RdB.take (h : RdB w A n c xs) (k : Nat) (hk : k ≤ n) : RdB w A k c (xs.take k) := ⟨by rw [List.map_take]; exact h.1.take k, by rw [List.length_take, h.2.1]; omega, by have := h.2.2.1; omega, h.2.2.2⟩
theorem RdB.drop (h : RdB w A n c xs) (k : Nat) (hk : k ≤ n) : RdB w (if c = k then A else A.map (·.add k)) (n - k) (c - k) (xs.drop k) :=
 ⟨by rw [List.map_drop]; exact h.1.drop k c (by have := h.2; simp; omega), by rw [List.length_drop, h.2.1], by have := h.2.2.1; omega, by have := h.2.2.2; omega⟩
theorem RdB.cut (h : RdB w A n c xs) (k j : Nat) (hn : n = k + j) (hk : k < c) : RdB w (Option.map (fun x => x.add k) A) j (c - k) (xs.drop k) := by
 have := h.drop k (by omega)
 rw [if_neg (by omega), show n - k = j by omega] at this
 exact this
theorem RdB.nilB (w : World) : RdB w none 0 0 [] := ⟨.inl rfl, rfl, Nat.le_refl _, by simp [maxLen]⟩
theorem OwnB.alloc (h : OwnB w base A n c xs) (o : Obj) : OwnB (w.alloc o) base A n c xs := World.ownsRow.alloc h o
theorem OwnB.lit (w : World) (cs : Array Value) (xs : List UInt8) (n : Nat) (h : cs.toList = xs.map vB) (hn : xs.length = n) (hm : n ≤ maxLen) :
  OwnB (w.alloc (.cells cs 5)) w.heap.size (some ⟨w.heap.size, 0, none⟩) n n xs := by
 have hs : cs.size = n * 1 := by rw [← Array.length_toList, h, List.length_map, hn, Nat.mul_one]
 have := World.ownsRow_lit (size := 1) (e := 5) w cs n (Nat.le_refl _) hm hs
 rwa [h] at this
theorem OwnB.mono {base' : Nat} (h : OwnB w base A n c xs) (hb : base' ≤ base) : OwnB w base' A n c xs := own_mono h hb
theorem RdB.litM (w : World) (cs : Array Value) (m : Nat × Nat) (xs : List UInt8) (n : Nat) (h : cs.toList = xs.map vB) (hn : xs.length = n) (hm : n ≤ maxLen) :
  RdB (w.alloc (.cells cs 5 m)) (some ⟨w.heap.size, 0, none⟩) n n xs := ⟨by rw [← h]; exact Rd.newM w cs _ m, hn, Nat.le_refl _, hm⟩
theorem OwnB.below (h : OwnB w base A n c xs) (hb : Below w.heap.size w w') : OwnB w' base A n c xs := by
 refine ⟨h.1, ?_⟩
 rcases h.2 with h2 | ⟨g, cap, cur, hv, hg, hh, r⟩
 ·exact .inl h2
 ·refine .inr ⟨g, cap, cur, hv, hg, ?_, r⟩
  have hlt : g < w.heap.size := by
   rcases Nat.lt_or_ge g w.heap.size with hlt | hge
   ·exact hlt
   ·rw [Array.getElem?_eq_none hge] at hh; cases hh
  rw [hb.block g hlt, hh]
theorem OwnB.addr (h : OwnB w base A n c xs) (hn : 0 < n) : ∃ g, A = some ⟨g, 0, none⟩ ∧ base ≤ g ∧ g < w.heap.size := by
 obtain ⟨g, cap, hv, hb, hlt⟩ := World.ownsRow.form h hn
 injection hv with hA
 exact ⟨g, hA, hb, hlt⟩
theorem OwnB.cell_ {g : Nat} (h : OwnB w base (some ⟨g, 0, none⟩) n c xs) (k : Nat) (hk : k < n) : ∃ u, xs[k]? = some u ∧ w.cell? ⟨g, k, none⟩ = some (.int .u8 (u.toNat : Int)) := by
 have hl : k < xs.length := by rw [h.len]; exact hk
 refine ⟨xs[k], List.getElem?_eq_getElem hl, ?_⟩
 rw [World.ownsRow.cellAt h k (by omega)]
 simp [hl, vB]
theorem OwnB.free {g : Nat} (h : OwnB w base (some ⟨g, 0, none⟩) n c xs) (k : Nat) : w.frozen? ⟨g, k, none⟩ = false := World.ownsRow.frozenAt h k
theorem OwnB.set_ {g : Nat} (h : OwnB w base (some ⟨g, 0, none⟩) n c xs) (k : Nat) (u : UInt8) : OwnB (w.setCell ⟨g, k, none⟩ (.int .u8 (u.toNat : Int))) base (some ⟨g, 0, none⟩) n c (xs.set k u) := by
 have := (World.ownsRow.stored h k (vB u)).1
 unfold OwnB
 rw [List.map_set]
 exact this
theorem kconst (w : World) (C : Array Value) (n c : Nat) : (convert 47 47 (.slice (some ⟨w.heap.size, 0, none⟩) n c)).run Tryz.prog (w.alloc (.cells C 5)) = .ok (.slice (some ⟨w.heap.size, 0, none⟩) n c) (w.alloc (.cells C 5 (C.size, C.size + 1))) :=
 Lib.run_convert_bytes_const (P := Tryz.prog) w 47 5 C n c Tryz.underlying47 Tryz.underlying5
theorem OwnB.nilB (w : World) (base : Nat) : OwnB w base none 0 0 [] := World.ownsRow_nil w base _ _
end
theorem own0 (W : World) : OwnB (W.alloc (.cells #[] 5)) W.heap.size (some ⟨W.heap.size, 0, none⟩) 0 0 [] :=
 World.ownsRow_lit (size := 1) (e := 5) W #[] 0 (Nat.le_refl _) (by simp [maxLen]) rfl
theorem wp_appB {ops : Array Oper} {rest : List Oper} {o : Oper} {a : Act} {w0 w : World} {Q : Exit → Act → World → Prop} (hgd : o.guard = none) (s x : Operand)
  (ho : o.op = .call { callee := .builtin .append, args := #[s, x], argTypes := #[47, 47] })
  (hb : Below w0.heap.size w0 w) {base : Nat} (hbase : w0.heap.size ≤ base) (hbw : base ≤ w.heap.size) (A : Option Addr) (n c : Nat) (xs : List UInt8) (hs : a.eval s = .slice A n c) (hown : OwnB w base A n c xs)
  (B : Option Addr) (m d : Nat) (ys : List UInt8) (hx : a.eval x = .slice B m d) (hr : RdB w B m d ys) (hm : n + m ≤ 70368744177664) (k : Nat) (zs : List UInt8) (hk : n + m = k) (hz : xs ++ ys = zs)
  (h : ∀ A' c' w', OwnB w' base A' k c' zs → Below w0.heap.size w0 w' → w.grownBy w' (Value.slice A n c).ownBlock → wpList Tryz.prog ops Q rest (a.put o.dst (.slice A' k c')) w') : wpList Tryz.prog ops Q (o :: rest) a w := by
 subst hk hz
 refine wp_app hgd s x _ _ ho elemB base _ n _ hs hown B m d _ hx hr.1 (by simpa using hr.2.1) (oneCell_vB _) (by unfold maxLen; omega) (by omega) hbw (fun A' c' w' h1 h2 => h A' c' w' ?_ ?_ h2)
 ·unfold OwnB; rw [List.map_append]; exact h1
 ·exact hb.grown h2 hb.size (fun q hq => Nat.le_trans hbase (hown.lt q hq).1)
theorem wp_makeB {ops : Array Oper} {rest : List Oper} {o : Oper} {a : Act} {w : World} {Q : Exit → Act → World → Prop} (hgd : o.guard = none) (l c : Operand) (ho : o.op = Op.makeSlice 47 l c)
  (kl kc : IntKind) (n : Nat) (hl : a.eval l = .int kl n) (hc : a.eval c = .int kc n) (hn : n ≤ 70368744177664)
  (h : ∀ w', OwnB w' w.heap.size (some ⟨w.heap.size, 0, none⟩) n n (List.replicate n 0) → Below w.heap.size w w' → wpList Tryz.prog ops Q rest (a.put o.dst (.slice (some ⟨w.heap.size, 0, none⟩) n n)) w') : wpList Tryz.prog ops Q (o :: rest) a w := by
 obtain ⟨i, hi, hz, hsz, hby⟩ := info_parts elemB.info
 refine wpList_make_full w hgd l c _ ho w.heap.size _ i _ 1 elemB.slice hi hz hsz kl kc n n n hl hc rfl rfl (by rw [hby]; omega) (by unfold maxLen; omega) (Nat.le_refl _) (fun w' h1 h2 => h w' ?_ ?_)
 ·unfold OwnB
  have e : (madeCells (Value.int .u8 0).cells (n * 1)).toList = (List.replicate n (0 : UInt8)).map vB := by
   rw [Nat.mul_one, show (Value.int .u8 0).cells = #[Value.int .u8 0] from rfl, toList_madeCells_one, List.map_replicate]; rfl
  rw [← e]
  exact h1
 ·exact ⟨h2.os, h2.tape, h2.output, h2.size, fun k hk => h2.block k hk (by simp)⟩
theorem rd1 (W : World) (x : Int) (u : UInt8) (h : x = (u.toNat : Int)) : RdB (W.alloc (.cells #[.int .u8 x] 5)) (some ⟨W.heap.size, 0, none⟩) 1 1 [u] := by
 subst h
 exact RdB.litM W _ (0, 0) [u] 1 rfl rfl (by simp [maxLen])
theorem RdB.cap {w : World} {A : Option Addr} {n c : Nat} {xs : List UInt8} (h : RdB w A n c xs) (c' : Nat) (h1 : n ≤ c') (h2 : c' ≤ maxLen) : RdB w A n c' xs := ⟨h.1, h.2.1, h1, h2⟩
def strOf (xs : List UInt8) : ByteArray := ⟨xs.toArray⟩
theorem strOf_nums (xs : List UInt8) : strOfNums (xs.map fun u => (u.toNat : Int)) = strOf xs := by
 unfold strOfNums strOf
 congr 2
 rw [List.map_map]
 exact List.map_id'' (fun u => by simp) xs
theorem strOf_eq (xs ys : List UInt8) : ((strOf xs).toList == (strOf ys).toList) = decide (xs = ys) := by
 have e : ∀ zs : List UInt8, (strOf zs).toList = zs := fun zs => by rw [Lib.toList_data]; rfl
 rw [e, e]
 by_cases h : xs = ys <;> simp [h]
theorem RdB.str {w : World} {A : Option Addr} {n c : Nat} {xs : List UInt8} (h : RdB w A n c xs) : (convert 47 9 (.slice A n c)).run Tryz.prog w = .ok (.string (strOf xs)) w := by
 have hb : Lib.BytesIn w A n (xs.map fun u => (u.toNat : Int)) := fun hn => by
  obtain ⟨b, o, _, rfl, _⟩ := h.at_ 0 hn
  refine ⟨b, o, rfl, fun i hi => ?_⟩
  obtain ⟨b', o', u, he, _, hx, hc⟩ := h.at_ i hi
  injection he with he
  injection he with hb ho
  subst hb ho
  rw [hc]
  simp [List.getD, hx]
 have := hb.convert (P := Tryz.prog) (by simpa using h.2.1) c 47 5 9 Tryz.underlying47 Tryz.underlying5 Tryz.underlying9
 rwa [strOf_nums] at this
theorem grow_zero (w : World) : Calls Tryz.prog 131 #[.slice none 0 0, .int .i64 0] w fun e w' => e = .returned (.slice none 0 0) ∧ w = w' := by
 go_enter Tryz.func131, Tryz.ntmps131
 go_wp2
 go_ret
 exact ⟨rfl, rfl⟩
def GrowRet (w : World) (e : Ending) (w' : World) : Prop := ∃ A c, e = .returned (.slice A 0 c) ∧ OwnB w' w.heap.size A 0 c [] ∧ Below w.heap.size w w'
theorem wp_appmake {P : Program} {w : World} {ops : Array Oper} {rest : List Oper} {o : Oper} {a : Act} {Q : Exit → Act → World → Prop} (hgd : o.guard = none) (s x : Operand) (t tn e : TypeId) {z : Value} {bytes : Nat}
  (ho : o.op = .call { callee := .builtin .append, args := #[s, x], argTypes := #[t, tn] }) (he : ElemAt P t e z bytes) (kn : IntKind) (htn : P.underlying tn = some (.int kn))
  (n : Nat) (hs : a.eval s = .slice none 0 0) (hx : a.eval x = .int .i64 n) (hn : 0 < n) (hb : n * bytes ≤ 140737488355328) (hm : n ≤ 70368744177664)
  (h : ∀ c w', n ≤ c → c ≤ maxLen → w'.ownsRow w.heap.size e 1 (.slice (some ⟨w.heap.size, 0, none⟩) 0 c) 0 [] → Below w.heap.size w w' → wpList P ops Q rest (a.put o.dst (.slice (some ⟨w.heap.size, 0, none⟩) n c)) w') : wpList P ops Q (o :: rest) a w := by
 obtain ⟨i, hi, hz, hsz, hby⟩ := info_parts he.info
 have hr := Lib.run_append_grow_zeros (P := P) w t tn o.type e i z .i64 kn he.slice htn hi hz none 0 0 [] (run_firstCells_none w.drew i.size 0 0 0) n hn (by omega) (by omega) (by omega)
   (by rw [hby]; omega) (growslice_fits (by omega) (by rw [hby, Nat.zero_add]; omega))
 rw [Nat.zero_add] at hr
 have hGn : n ≤ grownCap w n 0 e := grownCap_ge w _ _ _
 have hGm : grownCap w n 0 e ≤ maxLen := grownCap_le_maxLen w n 0 _ (by unfold maxLen; omega)
 generalize grownCap w n 0 e = G at hr hGn hGm
 refine wpList_plain hgd fun K hK => ?_
 unfold Oper.wp execOp
 simp only [ho, resolve, invoke, builtin, Sem.run_bind, Sem.run_pure, Result.andThen_ok, List.map_toArray, List.map_cons, List.map_nil, hs, hx, hr]
 refine hK _ _ (h G _ hGn hGm ⟨rfl, .inr ⟨w.heap.size, G, _, rfl, Nat.le_refl _, heap_alloc_new w.drew _, Nat.zero_le _, hGm, ?_, rfl⟩⟩ ?_)
 ·simp [Builtin.zeroCells, he.one]; omega
 ·exact ((Below.refl _ _).drew).alloc (Nat.le_refl _) _
theorem grow_pos (n : Nat) (w : World) (hn : 0 < n) (hm : n ≤ 70368744177664) : Calls Tryz.prog 131 #[.slice none 0 0, .int .i64 n] w (GrowRet w) := by
 have h2 : (n : Int) > 0 := by omega
 go_enter Tryz.func131, Tryz.ntmps131
 go_wp2_with (at_builtin; refine wp_appmake rfl _ _ 47 3 5 rfl elemB .i64 Tryz.underlying3 n rfl rfl hn (by omega) hm ?_; intro G w1 hG1 hG2 hG3 hG4)
 have hG5 : G ≤ 9223372036854775807 := by unfold maxLen at hG2; omega
 go_wp2
 go_ret
 exact ⟨_, _, rfl, hG3, hG4⟩
theorem grow_any (n : Nat) (w : World) (hm : n ≤ 70368744177664) : Calls Tryz.prog 131 #[.slice none 0 0, .int .i64 n] w (GrowRet w) := by
 rcases Nat.eq_zero_or_pos n with rfl | hn
 ·exact (grow_zero w).mono fun e w' ⟨he, hw⟩ => ⟨none, 0, he, OwnB.nilB _ _, by rw [hw]; exact Below.refl _ _⟩
 ·exact grow_pos n w hn hm
def Parts (w : World) : List Value → List (List UInt8) → Prop
 | [], [] => True
 | v :: vs, ys :: yss => (∃ A n c, v = .slice A n c ∧ RdB w A n c ys) ∧ Parts w vs yss
 | _, _ => False
theorem Parts.length {w : World} : ∀ {vs : List Value} {yss : List (List UInt8)}, Parts w vs yss → vs.length = yss.length
 | [], [], _ => rfl
 | _ :: _, _ :: _, h => by simp [Parts.length h.2]
theorem Parts.at_ {w : World} : ∀ {vs : List Value} {yss : List (List UInt8)}, Parts w vs yss → ∀ (k : Nat) (hv : k < vs.length) (hy : k < yss.length), ∃ A n c, vs[k] = .slice A n c ∧ RdB w A n c yss[k]
 | v :: vs, ys :: yss, h, 0, _, _ => h.1
 | v :: vs, ys :: yss, h, k + 1, hv, hy => by
  have := Parts.at_ h.2 k (by simpa using hv) (by simpa using hy)
  simpa using this
theorem Parts.below {w w' : World} (hb : Below w.heap.size w w') : ∀ {vs : List Value} {yss : List (List UInt8)}, Parts w vs yss → Parts w' vs yss
 | [], [], _ => trivial
 | _ :: _, _ :: _, ⟨⟨A, n, c, he, hr⟩, h⟩ => ⟨⟨A, n, c, he, hr.below hb⟩, Parts.below hb h⟩
theorem flat_take_le (yss : List (List UInt8)) (k : Nat) : (yss.take k).flatten.length ≤ yss.flatten.length := by
 conv => rhs; rw [← List.take_append_drop k yss]
 simp only [List.flatten_append, List.length_append]; omega
theorem flat_snoc (yss : List (List UInt8)) (k : Nat) (h : k < yss.length) : (yss.take (k + 1)).flatten = (yss.take k).flatten ++ yss[k] := by
 rw [take_snoc _ _ h]; simp only [List.flatten_append, List.flatten_cons, List.flatten_nil, List.append_nil]
def ConcatI (w : World) (yss : List (List UInt8)) (K : Nat) (v i : Value) (wr : World) : Prop :=
 ∃ k A n c, k ≤ K ∧ i = .int .i64 (k : Nat) ∧ v = .slice A n c ∧ OwnB wr w.heap.size A n c (yss.take k).flatten ∧ Below w.heap.size w wr
theorem concat_any (A : Option Addr) (K c : Nat) (ss : List Value) (yss : List (List UInt8)) (w : World) (hr : Rd w A ss) (hK : ss.length = K) (hK2 : K ≤ 1000000) (hp : Parts w ss yss) (hm : yss.flatten.length ≤ 70368744177664) :
  Calls Tryz.prog 92 #[.slice A K c] w (RetB w yss.flatten) := by
 have hlen : yss.length = K := by rw [← hp.length]; exact hK
 go_enter Tryz.func92, Tryz.ntmps92
 go_wp2
 go_loop [3, 11] (fun s i => ∃ k : Nat, k ≤ K ∧ i = .int .i64 k ∧ s = .int .i64 ((yss.take k).flatten.length : Nat)) (fun _ i => K - (intOf i).toNat)
 case atStart => exact ⟨0, Nat.zero_le _, rfl, by simp⟩
 case round =>
  obtain ⟨k, hk, rfl, rfl⟩ := hrel
  have hle := flat_take_le yss k
  by_cases hlt : k < K
  ·obtain ⟨b, o, rfl, hb, hc⟩ := hr.at_ k (by omega)
   obtain ⟨A1, n1, c1, he, hr1⟩ := hp.at_ k (by omega) (by omega)
   rw [he] at hc
   have hn1 := hr1.2.1
   have hf := flat_snoc yss k (by omega)
   have hle2 := flat_take_le yss (k + 1)
   have hl2 : (yss.take (k + 1)).flatten.length = (yss.take k).flatten.length + n1 := by rw [hf, List.length_append, hn1]
   have hsum : (yss.take k).flatten.length + n1 ≤ 70368744177664 := by omega
   generalize hG : (yss.take k).flatten.length = L at *
   have HL := Lib.hid hl2
   clear hl2 hf hle2 he hG hn1
   go_wp2
   go_round
   case rel => exact ⟨k + 1, by omega, by go_num, by rw [HL.out]; go_num⟩
   case measure => simp [intOf]; omega
  ·obtain rfl : k = K := by omega
   have hall : (yss.take k).flatten = yss.flatten := by rw [← hlen, List.take_length]
   rw [hall]
   generalize hG : yss.flatten.length = L at *
   have HL := Lib.hid hG
   have HA := Lib.hid hall
   clear hall hG hle
   go_wp2_with (go_at_call 131; refine (grow_any L _ hm).mono ?_; rintro e w1 ⟨A1, c1, rfl, ho1, hb1⟩)
   go_loopw [6, 27] (ConcatI w yss k) (fun _ i _ => k - (intOf i).toNat)
   case atStart => exact ⟨0, A1, 0, c1, Nat.zero_le _, rfl, rfl, by simpa using ho1, hb1⟩
   case round =>
    obtain ⟨j, A2, n2, c2, hj, rfl, rfl, ho2, hb2⟩ := hrel
    by_cases hlt2 : j < k
    ·obtain ⟨b, o, rfl, hb, hc⟩ := (hr.below hb2).at_ j (by omega)
     obtain ⟨A3, n3, c3, he, hr3⟩ := (hp.below hb2).at_ j (by omega) (by omega)
     rw [he] at hc
     have hf := flat_snoc yss j (by omega)
     have hle2 := flat_take_le yss (j + 1)
     rw [hf, List.length_append, HL.out, hr3.2.1, ho2.len] at hle2
     have HF := Lib.hid hf
     have hln := hb2.size
     clear hf he
     have hn3 := hr3.2.1
     have HN := Lib.hid hn3
     clear hn3
     go_wp2_with (at_builtin; refine wp_app rfl _ _ 47 5 rfl elemB _ _ n2 _ rfl ho2 _ n3 c3 _ rfl hr3.1 (by simpa using HN.out) (oneCell_vB _) (by unfold maxLen; omega) (by omega) hln ?_; intro A4 c4 w4 ho4 hg4)
     have hb4 : Below w.heap.size w w4 := hb2.grown hg4 hln (fun q hq => (ho2.lt q hq).1)
     have ho4' : OwnB w4 w.heap.size A4 (n2 + n3) c4 (yss.take (j + 1)).flatten := by
      unfold OwnB
      rw [HF.out, List.map_append]
      exact ho4
     clear ho4 hg4
     go_wp2
     go_roundw
     case rel => exact ⟨j + 1, _, _, _, by omega, by go_num, rfl, ho4', hb4⟩
     case measure => simp [intOf]; omega
    ·obtain rfl : j = k := by omega
     go_wp2
     go_ret
     rw [HA.out] at ho2
     exact ⟨_, _, _, rfl, ho2, hb2⟩
theorem clone_any (A : Option Addr) (n c : Nat) (xs : List UInt8) (w : World) (hr : RdB w A n c xs) (hm : n ≤ 70368744177664) :
  Calls Tryz.prog 88 #[.slice A n c] w (RetB w xs) := by
 have kn := fun (W : World) (A : Option Addr) (n c n' c' : Nat) => Lib.run_eql_slice_nil (P := Tryz.prog) W 47 5 A n c n' c' Tryz.underlying47
 rcases A with _ | a
 ·obtain ⟨h1, h2, h3, h4⟩ := hr
  have hx : xs = [] := by
   rcases h1 with h1 | ⟨b, o, h, _⟩
   ·simpa using h1
   ·cases h
  subst hx
  go_enter Tryz.func88, Tryz.ntmps88
  go_wp2
  go_ret
  exact ⟨none, 0, 0, rfl, OwnB.nilB _ _, Below.refl _ _⟩
 ·have hown := World.ownsRow_lit (size := 1) (e := 5) w #[] 0 (Nat.le_refl _) (by simp [maxLen]) rfl
  have hlen := hr.2.1
  have HL := Lib.hid hlen
  clear hlen
  go_enter Tryz.func88, Tryz.ntmps88
  go_wp2_with (at_builtin; refine wp_app rfl _ _ 47 5 rfl elemB _ _ 0 _ rfl hown _ n c _ rfl (hr.1.alloc _) (by simpa using HL.out) (oneCell_vB _) (by unfold maxLen; omega) (by omega) (by simp) ?_; intro A4 c4 w4 ho4 hg4)
  have hb4 : Below w.heap.size w w4 := ((Below.refl _ _).alloc (Nat.le_refl _) _).grown hg4 (by simp) (fun q hq => by have := (hown.lt q hq).1; omega)
  go_wp2
  go_ret
  exact ⟨_, _, _, rfl, by simpa [OwnB] using ho4, hb4⟩
def EqI (w : World) (n : Nat) (xs ys : List UInt8) (i : Value) (wr : World) : Prop := ∃ k q, k ≤ n ∧ i = .int .i64 (k : Nat) ∧ xs.take k = ys.take k ∧ wr = w.drewN q
def RetQ (w : World) (v : Value) (e : Ending) (w' : World) : Prop := e = .returned v ∧ ∃ q, w' = w.drewN q
theorem equal_len (A1 A2 : Option Addr) (n c m d : Nat) (w : World) (hne : n ≠ m) :
  Calls Tryz.prog 156 #[.slice A1 n c, .slice A2 m d] w (RetQ w (.bool false)) := by
 have h : ((n : Int) != (m : Int)) = true := by rw [bne_iff_ne]; omega
 go_enter Tryz.func156, Tryz.ntmps156
 go_wp2
 go_ret
 exact ⟨rfl, 0, rfl⟩
theorem equal_any (A1 A2 : Option Addr) (n c m d : Nat) (xs ys : List UInt8) (w : World) (h1 : RdB w A1 n c xs) (h2 : RdB w A2 m d ys) :
  Calls Tryz.prog 156 #[.slice A1 n c, .slice A2 m d] w (RetQ w (.bool (decide (xs = ys)))) := by
 by_cases hne : n ≠ m
 ·rw [decide_eq_false (by rintro rfl; exact hne (h1.2.1.symm.trans h2.2.1))]
  exact equal_len A1 A2 n c m d w hne
 obtain rfl : n = m := by omega
 have hn63 : n ≤ 9223372036854775807 := by have := h1.2.2; unfold maxLen at this; omega
 have h : ((n : Int) != (n : Int)) = false := by simp
 go_enter Tryz.func156, Tryz.ntmps156
 go_wp2
 go_loopw [13] (EqI w n xs ys) (fun i _ => n - (intOf i).toNat)
 case atStart => exact ⟨0, 0, Nat.zero_le _, rfl, rfl, rfl⟩
 case round =>
  obtain ⟨k, q, hk, rfl, he, rfl⟩ := hrel
  have HE := Lib.hid he
  clear he
  by_cases hlt : k < n
  ·obtain ⟨b1, o1, u1, rfl, hb1, hx1, hc1⟩ := h1.at_ k hlt
   obtain ⟨b2, o2, u2, rfl, hb2, hx2, hc2⟩ := h2.at_ k hlt
   have hl1 := h1.2.1
   have hl2 := h2.2.1
   have k0 : (0 : Int) ≤ (k : Int) := by omega
   have k1 : (k : Int) < (n : Int) := by omega
   by_cases hu : u1 = u2
   ·have hb : ((u1.toNat : Int) != (u2.toNat : Int)) = false := by subst hu; simp
    have ht : xs.take (k + 1) = ys.take (k + 1) := by rw [List.take_add_one, List.take_add_one, HE.out, hx1, hx2, hu]
    have HT := Lib.hid ht
    clear ht hx1 hx2 hl1 hl2 hu
    go_wp2_with fail
    go_quiet (fail)
    go_wp2
    go_roundw
    case rel => exact ⟨k + 1, _, by omega, by go_num, HT.out, rfl⟩
    case measure => simp [intOf]; omega
   ·have hb : ((u1.toNat : Int) != (u2.toNat : Int)) = true := by
     rw [bne_iff_ne]
     intro e
     exact hu (UInt8.toNat_inj.1 (by omega))
    have hd : decide (xs = ys) = false := decide_eq_false (by
     rintro rfl
     rw [hx1] at hx2
     exact hu (Option.some.inj hx2))
    have HD := Lib.hid hd
    clear hd hx1 hx2 hl1 hl2 hu
    go_wp2_with fail
    go_quiet (fail)
    go_wp2
    go_ret
    rw [HD.out]
    exact ⟨rfl, _, World.drewN_drewN _ _ _⟩
  ·obtain rfl : k = n := by omega
   have hd : decide (xs = ys) = true := decide_eq_true (by
    have := HE.out
    rwa [List.take_of_length_le (by rw [h1.2.1]; omega), List.take_of_length_le (by rw [h2.2.1]; omega)] at this)
   have HD := Lib.hid hd
   clear hd
   go_wp2
   go_ret
   rw [HD.out]
   exact ⟨rfl, _, rfl⟩
end Go.Proofs.YtpahicfnhhhifaaGreat
namespace Go.Proofs.YtpahicfnhhhifaaGreat
set_option maxRecDepth 20000
open Go.ChangeShapes Go.WideShapes Go.ChangeAt Go.RowKit
open Go.ChangeMaps (open_string shut_string)
theorem own : ownKnob Tryz.prog.godebug = none := by kernel_rfl
theorem laidOut : laidOutB Tryz.prog = true := by kernel_rfl
theorem nat_u8 {a : Int} (h : (Lit.int .u8 a).wf = true) : ∃ n : Nat, a = n ∧ n < 256 := by
 simp [Lit.wf, IntKind.min, IntKind.max, IntKind.signed, IntKind.bits] at h
 exact ⟨a.toNat, by omega, by omega⟩
theorem nat_u32 {a : Int} (h : (Lit.int .u32 a).wf = true) : ∃ n : Nat, a = n ∧ n < 4294967296 := by
 simp [Lit.wf, IntKind.min, IntKind.max, IntKind.signed, IntKind.bits] at h
 exact ⟨a.toNat, by omega, by omega⟩
theorem nat_u64 {a : Int} (h : (Lit.int .u64 a).wf = true) : ∃ n : Nat, a = n ∧ n < 18446744073709551616 := by
 simp [Lit.wf, IntKind.min, IntKind.max, IntKind.signed, IntKind.bits] at h
 exact ⟨a.toNat, by omega, by omega⟩
theorem int_i64 {a : Int} (h : (Lit.int .i64 a).wf = true) : -9223372036854775808 ≤ a ∧ a ≤ 9223372036854775807 := by
 simp [Lit.wf, IntKind.min, IntKind.max, IntKind.signed, IntKind.bits] at h
 exact ⟨by omega, by omega⟩
theorem rd_of_cells {W : World} {x : Addr} {l c : Nat} {zs : List Int} (hl : l ≤ c) (hm : c ≤ maxLen) (hz : zs.length = c) (hcell : ∀ i, i < zs.length → W.cell? (x.add i) = some (.int .u8 (zs.getD i 0)))
  (hwz : ∀ n ∈ zs, (Lit.int .u8 n).wf = true) : RdB W (some x) l c ((zs.take l).map fun z => UInt8.ofNat z.toNat) := by
 refine ⟨?_, by simp; omega, hl, hm⟩
 rcases Nat.eq_zero_or_pos l with rfl | hpos
 ·left; simp
 ·right
  obtain ⟨b, o, spot⟩ := x
  have hc0 := hcell 0 (by omega)
  have hspot : spot = none := by simpa [Addr.add] using World.cell?_spot hc0
  subst hspot
  refine ⟨b, o, rfl, ?_, fun i v hv => ?_⟩
  ·have := World.block_lt_of_cell? W _ hc0
   simpa [Addr.add] using this
  ·have hi : i < (((zs.take l).map fun z => UInt8.ofNat z.toNat).map vB).length := (List.getElem?_eq_some_iff.1 hv).1
   have hi' : i < l := by simp at hi; omega
   have hc := hcell i (by omega)
   rw [Addr.add_lit] at hc
   rw [hc, ← hv]
   have hzi : i < zs.length := by omega
   have hmem : zs[i] ∈ zs := List.getElem_mem hzi
   obtain ⟨k, hk, hk2⟩ := nat_u8 (hwz _ hmem)
   have e : zs.getD i 0 = (k : Int) := by rw [← hk]; simp [List.getD, hzi]
   rw [e]
   simp only [List.getElem?_map, List.getElem?_take, hi', if_true, List.getElem?_eq_getElem hzi, Option.map_some, hk, vB]
   congr 2
   simp only [Int.toNat_natCast, UInt8.toNat_ofNat']
   omega
theorem open_bytes {H : Type} {enc : TypeId × Value → H} {W : World} {base : Nat} {v : Value} {d : DataW H} {p : List MemPlace} (hv : Value.okWide Tryz.prog W .any base 47 v)
  (h : ∃ fuel, DataW.trod enc Tryz.prog W 0 (fun _ => true) true fuel 47 v.cells.toList = some (d, p)) :
  ∃ A n c xs, v = .slice A n c ∧ RdB W A n c xs := by
 obtain ⟨a0, len0, cap0, rfl⟩ := okWide_slice Tryz.underlying47 hv
 obtain ⟨fuel, hf⟩ := h
 rcases open_ints Tryz.underlying47 Tryz.underlying5 (by kernel_rfl) hf with ⟨hcs, _⟩ | ⟨x, l, c, zs, hcs, _, hl, hm, hz, _, hcell, hwz⟩
 ·simp [Value.cells] at hcs
  obtain ⟨rfl, rfl, rfl⟩ := hcs
  exact ⟨_, _, _, [], rfl, RdB.nilB _⟩
 ·simp [Value.cells] at hcs
  obtain ⟨rfl, rfl, rfl⟩ := hcs
  exact ⟨_, _, _, _, rfl, rd_of_cells hl hm (by simpa using hz) hcell hwz⟩
end Go.Proofs.YtpahicfnhhhifaaGreat
namespace Go.Proofs.YtpahicfnhhhifaaGreat
set_option maxRecDepth 20000
open Go.ChangeShapes Go.WideShapes Go.ChangeAt Go.RowKit Go.Deep
open Go.ChangeMaps (open_string shut_string)
theorem bytes_cell {H : Type} {enc : TypeId × Value → H} {W : World} {fuel : Nat} {v : Value} {y : DataW H × List MemPlace} (hf : DataW.trod enc Tryz.prog W 0 (fun _ => true) true fuel 47 [v] = some y) :
  ∃ A n c xs, v = .slice A n c ∧ RdB W A n c xs := by
 rcases open_ints Tryz.underlying47 Tryz.underlying5 (by kernel_rfl) hf with ⟨hcs, _⟩ | ⟨x, l, c, zs, hcs, _, hl, hm, hz, _, hcell, hwz⟩
 ·simp at hcs
  exact ⟨_, _, _, [], hcs, RdB.nilB _⟩
 ·simp at hcs
  exact ⟨_, _, _, _, hcs, rd_of_cells hl hm (by simpa using hz) hcell hwz⟩
theorem open_event {H : Type} {enc : TypeId × Value → H} {W : World} {base : Nat} {v : Value} {d0 : DataW H} {p : List MemPlace} (hv : Value.okWide Tryz.prog W .any base 49 v)
  (h : ∃ fuel, DataW.trod enc Tryz.prog W 0 (fun _ => true) true fuel 49 v.cells.toList = some (d0, p)) :
  ∃ (et : Nat) (ek : Int) (ec : Nat) (A : Option Addr) (n c : Nat) (xs : List UInt8), v = .agg #[.int .u64 et, .int .i64 ek, .int .u64 ec, .slice A n c] ∧ et < 18446744073709551616 ∧ (-9223372036854775808 ≤ ek ∧ ek ≤ 9223372036854775807) ∧ ec < 18446744073709551616 ∧ RdB W A n c xs := by
 obtain ⟨cs, rfl, hsz⟩ := okWide_struct Tryz.underlying49 hv
 obtain ⟨fuel, hf⟩ := h
 have hN : Tryz.prog.cellsOf 49 = 4 := by kernel_rfl
 rw [hN] at hsz
 obtain ⟨l⟩ := cs
 match l, hsz with
 | [c0, c1, c2, c3], _ =>
  obtain ⟨ys, m, _, _, _, hl, hg⟩ := DataW.trod_struct Tryz.underlying49 hf
  match ys, hl with
  | [y0, y1, y2, y3], _ =>
   have z_bytes : Tryz.prog.cellsOf 47 = 1 := by kernel_rfl
   have z_int : Tryz.prog.cellsOf 3 = 1 := by kernel_rfl
   have z_u64 : Tryz.prog.cellsOf 46 = 1 := by kernel_rfl
   have h0 : DataW.trod enc Tryz.prog W 0 (fun _ => true) true m 46 [c0] = some y0 := by
    have q : DataW.trod enc Tryz.prog W 0 (fun _ => true) true m 46 ((([c0, c1, c2, c3] : List Value).drop 0).take (Tryz.prog.cellsOf 46)) = [y0, y1, y2, y3][0]? := hg 0 _ rfl
    rw [z_u64] at q
    exact q
   have h1 : DataW.trod enc Tryz.prog W 0 (fun _ => true) true m 3 [c1] = some y1 := by
    have q : DataW.trod enc Tryz.prog W 0 (fun _ => true) true m 3 ((([c0, c1, c2, c3] : List Value).drop 1).take (Tryz.prog.cellsOf 3)) = [y0, y1, y2, y3][1]? := hg 1 _ rfl
    rw [z_int] at q
    exact q
   have h2 : DataW.trod enc Tryz.prog W 0 (fun _ => true) true m 46 [c2] = some y2 := by
    have q : DataW.trod enc Tryz.prog W 0 (fun _ => true) true m 46 ((([c0, c1, c2, c3] : List Value).drop 2).take (Tryz.prog.cellsOf 46)) = [y0, y1, y2, y3][2]? := hg 2 _ rfl
    rw [z_u64] at q
    exact q
   have h3 : DataW.trod enc Tryz.prog W 0 (fun _ => true) true m 47 [c3] = some y3 := by
    have q : DataW.trod enc Tryz.prog W 0 (fun _ => true) true m 47 ((([c0, c1, c2, c3] : List Value).drop 3).take (Tryz.prog.cellsOf 47)) = [y0, y1, y2, y3][3]? := hg 3 _ rfl
    rw [z_bytes] at q
    exact q
   obtain ⟨i0, e0, _, hw0⟩ := DataW.trod_int Tryz.underlying46 h0
   obtain rfl : c0 = .int .u64 i0 := by simpa using e0
   obtain ⟨n0, rfl, hn0⟩ := nat_u64 hw0
   obtain ⟨i1, e1, _, hw1⟩ := DataW.trod_int Tryz.underlying3 h1
   obtain rfl : c1 = .int .i64 i1 := by simpa using e1
   obtain ⟨i2, e2, _, hw2⟩ := DataW.trod_int Tryz.underlying46 h2
   obtain rfl : c2 = .int .u64 i2 := by simpa using e2
   obtain ⟨n2, rfl, hn2⟩ := nat_u64 hw2
   obtain ⟨A, n, c, xs, rfl, hr3⟩ := bytes_cell h3
   exact ⟨n0, i1, n2, A, n, c, xs, rfl, hn0, int_i64 hw1, hn2, hr3⟩
end Go.Proofs.YtpahicfnhhhifaaGreat
namespace Go.Proofs.YtpahicfnhhhifaaGreat
set_option maxRecDepth 20000
def crcBit (x : Nat) : Nat := if x % 2 = 0 then x / 2 else (x / 2) ^^^ 2197175160
def crcBits : Nat → Nat → Nat
 | 0, x => x
 | k + 1, x => crcBits k (crcBit x)
def crcNext (x c : Nat) : Nat := crcBits 8 (x ^^^ c)
def crcReg (x : Nat) (xs : List UInt8) : Nat := xs.foldl (fun s u => crcNext s u.toNat) x
def crcOf (xs : List UInt8) : Nat := 4294967295 - crcReg 4294967295 xs
def le4 (s : Nat) : List UInt8 := [UInt8.ofNat s, UInt8.ofNat (s / 256), UInt8.ofNat (s / 65536), UInt8.ofNat (s / 16777216)]
def crcClosed (xs : List UInt8) : List UInt8 := xs ++ le4 (crcOf xs)
def crcHolds (xs : List UInt8) : Bool := decide (4 ≤ xs.length) && decide (xs.drop (xs.length - 4) = le4 (crcOf (xs.take (xs.length - 4))))
theorem crcBit_lt {x : Nat} (h : x < 4294967296) : crcBit x < 4294967296 := by
 unfold crcBit
 split
 ·omega
 ·exact Nat.xor_lt_two_pow (n := 32) (by omega) (by omega)
theorem crcBits_lt (k : Nat) : ∀ x, x < 4294967296 → crcBits k x < 4294967296 := by
 induction k with
 | zero => intro x h; exact h
 | succ k ih => intro x h; exact ih _ (crcBit_lt h)
theorem crcNext_lt {x c : Nat} (hx : x < 4294967296) (hc : c < 256) : crcNext x c < 4294967296 :=
 crcBits_lt 8 _ (Nat.xor_lt_two_pow (n := 32) (by omega) (by omega))
theorem crcReg_lt (xs : List UInt8) : ∀ x, x < 4294967296 → crcReg x xs < 4294967296 := by
 induction xs with
 | nil => intro x h; exact h
 | cons u xs ih => intro x h; exact ih _ (crcNext_lt h u.toNat_lt)
theorem crcReg_snoc (x : Nat) (xs : List UInt8) (u : UInt8) : crcReg x (xs ++ [u]) = crcNext (crcReg x xs) u.toNat := by
 simp [crcReg]
theorem crcOf_lt (xs : List UInt8) : crcOf xs < 4294967296 := by unfold crcOf; omega
theorem le4_length (s : Nat) : (le4 s).length = 4 := rfl
end Go.Proofs.YtpahicfnhhhifaaGreat
namespace Go.Proofs.YtpahicfnhhhifaaGreat
def lev : List UInt8 → Nat
 | [] => 0
 | u :: us => u.toNat + 256 * lev us
theorem lev_lt (s : List UInt8) : lev s < 256 ^ s.length := by
 induction s with
 | nil => simp [lev]
 | cons u us ih => have := u.toNat_lt; simp only [lev, List.length_cons, Nat.pow_succ]; omega
theorem lev_append (s t : List UInt8) : lev (s ++ t) = lev s + 256 ^ s.length * lev t := by
 induction s with
 | nil => simp [lev]
 | cons u us ih => simp only [List.cons_append, lev, ih, List.length_cons, Nat.pow_succ]; rw [Nat.mul_add, ← Nat.mul_assoc, Nat.mul_comm 256 (256 ^ us.length)]; omega
theorem not_xor {r : Nat} (h : r < 4294967296) : 4294967295 - r = r ^^^ 4294967295 := by
 apply Nat.eq_of_testBit_eq
 intro i
 have e : 4294967295 - r = 2 ^ 32 - (r + 1) := by omega
 rw [e, Nat.testBit_two_pow_sub_succ h, Nat.testBit_xor, show (4294967295 : Nat) = 2 ^ 32 - 1 from rfl, Nat.testBit_two_pow_sub_one]
 by_cases hi : i < 32
 ·simp [hi]
 ·have hz : r.testBit i = false := Nat.testBit_lt_two_pow (Nat.lt_of_lt_of_le h (Nat.pow_le_pow_right (n := 2) (by decide) (by omega : 32 ≤ i)))
  simp [hi, hz]
theorem crcHolds_closed (xs : List UInt8) : crcHolds (crcClosed xs) = true := by
 have e : (crcClosed xs).length - 4 = xs.length := by simp [crcClosed, le4_length]
 unfold crcHolds
 rw [e]
 simp [crcClosed, le4_length]
end Go.Proofs.YtpahicfnhhhifaaGreat
namespace Go.Proofs.YtpahicfnhhhifaaGreat
set_option maxRecDepth 20000
structure Dk where
 s : List (List UInt8)
 k : List (Int × List UInt8)
def dkHas (D : Dk) (at_ : Int) : Bool := decide (0 ≤ at_) && decide (at_ < (D.s.length : Int))
def dkOk (D : Dk) : Bool := decide (D.s.length ≤ 256) && decide (D.k.length ≤ 512) && D.s.all (fun b => decide (b.length = 256)) && D.k.all (fun p => dkHas D p.1 && decide (p.2.length = 256))
def dkLast (l : List (Int × List UInt8)) (kept : Nat → Bool) (i : Int) : Nat → Option (List UInt8)
 | 0 => none
 | n + 1 => if kept n = true ∧ (l.getD n (0, [])).1 = i then some (l.getD n (0, [])).2 else dkLast l kept i n
def dkAt (D : Dk) (kept : Nat → Bool) (i : Nat) : List UInt8 := (dkLast D.k kept (i : Int) D.k.length).getD (D.s.getD i [])
def dkLeft (D : Dk) (kept : Nat → Bool) : Dk := ⟨(List.range D.s.length).map (dkAt D kept), []⟩
def dkFlush (D : Dk) : Dk := if dkOk D = true then dkLeft D (fun _ => true) else D
def dkE (D : Dk) : Int := if dkOk D = true then 0 else 3
def dkAsk (D : Dk) (at_ : Int) : Int := if dkOk D = false then 3 else if dkHas D at_ = false then 50 else 0
def dkRead (D : Dk) (at_ : Int) : List UInt8 := if dkAsk D at_ = 0 then dkAt D (fun _ => true) at_.toNat else []
def dkWriteE (D : Dk) (at_ : Int) (b : List UInt8) : Int := if dkAsk D at_ ≠ 0 then dkAsk D at_ else if ¬ b.length = 256 then 2 else if D.k.length = 512 then 4 else 0
def dkWrite (D : Dk) (at_ : Int) (b : List UInt8) : Dk := if dkWriteE D at_ b = 0 then ⟨D.s, D.k ++ [(at_, b)]⟩ else D
def dkNewE (n : Int) : Int := if n < 0 ∨ 256 < n then 2 else 0
def dkNew (n : Int) : Dk := if dkNewE n = 0 then ⟨List.replicate n.toNat (List.replicate 256 0), []⟩ else ⟨[], []⟩
theorem dkOk_iff (D : Dk) : dkOk D = true ↔ D.s.length ≤ 256 ∧ D.k.length ≤ 512 ∧ (∀ b ∈ D.s, b.length = 256) ∧ (∀ p ∈ D.k, dkHas D p.1 = true ∧ p.2.length = 256) := by
 unfold dkOk
 simp only [Bool.and_eq_true, decide_eq_true_eq, List.all_eq_true, and_assoc]
theorem dkLast_mem (l : List (Int × List UInt8)) (kept : Nat → Bool) (i : Int) : ∀ n, n ≤ l.length → ∀ b, dkLast l kept i n = some b → ∃ j, j < n ∧ (l.getD j (0, [])).1 = i ∧ (l.getD j (0, [])).2 = b
 | 0, _, _, h => by simp [dkLast] at h
 | n + 1, hn, b, h => by
  unfold dkLast at h
  split at h
  ·rename_i hc
   exact ⟨n, by omega, hc.2, by simpa using h⟩
  ·obtain ⟨j, h1, h2, h3⟩ := dkLast_mem l kept i n (by omega) b h
   exact ⟨j, by omega, h2, h3⟩
theorem dkLeft_s (D : Dk) (kept : Nat → Bool) (i : Nat) (h : i < D.s.length) : (dkLeft D kept).s.getD i [] = dkAt D kept i := by
 unfold dkLeft; simp [List.getD, h]
theorem dkLeft_len (D : Dk) (kept : Nat → Bool) : (dkLeft D kept).s.length = D.s.length := by simp [dkLeft]
theorem dkAt_or (D : Dk) (kept : Nat → Bool) (i : Nat) : dkAt D kept i = D.s.getD i [] ∨ ∃ j, j < D.k.length ∧ (D.k.getD j (0, [])).1 = (i : Int) ∧ (D.k.getD j (0, [])).2 = dkAt D kept i := by
 unfold dkAt
 cases h : dkLast D.k kept (i : Int) D.k.length with
 | none => left; rfl
 | some b =>
  obtain ⟨j, h1, h2, h3⟩ := dkLast_mem D.k kept (i : Int) D.k.length (Nat.le_refl _) b h
  exact .inr ⟨j, h1, h2, h3⟩
theorem dkAt_len (D : Dk) (kept : Nat → Bool) (i : Nat) (h : dkOk D = true) (hi : i < D.s.length) : (dkAt D kept i).length = 256 := by
 obtain ⟨h1, h2, h3, h4⟩ := (dkOk_iff D).1 h
 rcases dkAt_or D kept i with e | ⟨j, hj, -, e⟩
 ·rw [e]; exact h3 _ (by simp [List.getD, hi])
 ·rw [← e]; exact (h4 _ (by simp [List.getD, hj])).2
theorem dkLeft_ok (D : Dk) (kept : Nat → Bool) (h : dkOk D = true) : dkOk (dkLeft D kept) = true := by
 obtain ⟨h1, h2, h3, h4⟩ := (dkOk_iff D).1 h
 refine (dkOk_iff _).2 ⟨by rw [dkLeft_len]; exact h1, by simp [dkLeft], fun b hb => ?_, by simp [dkLeft]⟩
 obtain ⟨i, hi, rfl⟩ := List.mem_map.1 (show b ∈ (List.range D.s.length).map (dkAt D kept) from hb)
 exact dkAt_len D kept i h (by simpa using hi)
end Go.Proofs.YtpahicfnhhhifaaGreat
namespace Go.Proofs.YtpahicfnhhhifaaGreat
set_option maxRecDepth 20000
open Go.RowKit
def RetBE (w : World) (ys : List UInt8) (er : Int) (e : Ending) (w' : World) : Prop := ∃ A n c, e = .returned (.tuple #[.slice A n c, .int .i64 er]) ∧ OwnB w' w.heap.size A n c ys ∧ Below w.heap.size w w'
theorem rd_far {w : World} {A : Option Addr} {n c : Nat} {xs : List UInt8} (h : RdB w A n c xs) (p : Addr) (v : Value) (hp : 0 < n → ∀ a, A = some a → a.block ≠ p.block) : RdB (w.setCell p v) A n c xs := by
 refine ⟨?_, h.2⟩
 rcases h.1 with h1 | ⟨b, o, rfl, hb, hc⟩
 ·exact .inl h1
 ·refine .inr ⟨b, o, rfl, by simpa [World.setCell] using hb, fun i u hu => ?_⟩
  rw [World.cell?_setCell_other _ _ _ _ (fun e => hp (by have h2 := List.getElem?_eq_some_iff.mp hu; obtain ⟨h3, _⟩ := h2; have h4 := h.2.1; rw [List.length_map] at h3; omega) _ rfl (by rw [e]))]
  exact hc i u hu
theorem own0' {W : World} {k : Nat} (h : W.heap.size = k) : OwnB (W.alloc (.cells #[] 5)) W.heap.size (some ⟨k, 0, none⟩) 0 0 [] := by subst h; exact own0 W
theorem w64n {k : Nat} (h : k < 18446744073709551616) : IntKind.u64.wrap (k : Int) = (k : Int) := IntWalk.u64_in _ (by omega)
theorem wi64n {k : Nat} (h : k < 9223372036854775808) : IntKind.i64.wrap (k : Int) = (k : Int) := IntWalk.i64_in _ (by omega)
theorem RdB.cutS {w : World} {b o n c : Nat} {xs : List UInt8} (h : RdB w (some ⟨b, o, none⟩) n c xs) (k j : Nat) (hn : n = k + j) (hk : k < c) : RdB w (some ⟨b, o + k, none⟩) j (c - k) (xs.drop k) := by
 have := h.cut k j hn hk
 simpa [Addr.add_lit] using this
theorem RdB.cellS {w : World} {b o n c : Nat} {xs : List UInt8} (h : RdB w (some ⟨b, o, none⟩) n c xs) (k : Nat) (hk : k < n) : w.cell? ⟨b, o + k, none⟩ = some (.int .u8 ((xs.getD k 0).toNat : Int)) := by
 obtain ⟨b', o', u, he, _, hu, hc⟩ := h.at_ k hk
 injection he with he
 injection he with e1 e2
 subst e1 e2
 rw [hc]
 simp [List.getD, hu]
theorem rd_row {w : World} {A : Option Addr} {n c : Nat} {xs : List UInt8} (h : RdB w A n c xs) (g : Nat) (cs : Array Value) (hp : 0 < n → ∀ a, A = some a → a.block ≠ g) : RdB (w.setRow g cs) A n c xs := by
 refine ⟨?_, h.2⟩
 rcases h.1 with h1 | ⟨b, o, rfl, hb, hc⟩
 ·exact .inl h1
 ·refine .inr ⟨b, o, rfl, by simpa using hb, fun i u hu => ?_⟩
  have h0 : 0 < n := by
   obtain ⟨h3, _⟩ := List.getElem?_eq_some_iff.mp hu
   have h4 := h.2.1
   rw [List.length_map] at h3
   omega
  rw [cell_setRow_other w g cs ⟨b, o + i, none⟩ (hp h0 ⟨b, o, none⟩ rfl)]
  exact hc i u hu
theorem alloc_box (w : World) (cs : Array Value) (t : TypeId) (i : Nat) : (w.alloc (.cells cs t)).cell? ⟨w.heap.size, i, none⟩ = cs[i]? := cell_of_row _ _ i cs t (0, 0) (heap_alloc_new w _)
theorem bytes_any (A1 A2 : Option Addr) (n c m d : Nat) (xs ys : List UInt8) (w : World) (h1 : RdB w A1 n c xs) (h2 : RdB w A2 m d ys) :
  Calls Tryz.prog 35 #[.slice A1 n c, .slice A2 m d] w fun e w' => e = .returned (.bool (decide (xs = ys))) ∧ w = w' := by
 have k1 := h1.str
 have k2 := h2.str
 have k3 := strOf_eq xs ys
 go_enter Tryz.func35, Tryz.ntmps35
 go_wp2
 go_ret
 exact ⟨rfl, rfl⟩
theorem wpList_unguard {P : Program} {ops : Array Oper} {Q : Exit → Act → World → Prop} {a : Act} {w : World} {rest : List Oper} {o : Oper} (hw : Region.wanted o (yielded ops a.tmps) = true) (h : wpList P ops Q ({ o with guard := none } :: rest) a w) : wpList P ops Q (o :: rest) a w := by
 unfold wpList at h ⊢
 rw [if_pos hw]
 rw [if_pos (show Region.wanted { o with guard := none } (yielded ops a.tmps) = true from rfl)] at h
 exact h
theorem scell_off {w : World} {g i j : Nat} {u v : Value} (h : i ≠ j) (hc : w.cell? ⟨g, i, none⟩ = some u) : (w.setCell ⟨g, j, none⟩ v).cell? ⟨g, i, none⟩ = some u := by
 rw [World.cell?_setCell_other _ _ _ _ (fun e => h (by cases e; rfl))]; exact hc
theorem row1 (w : World) (cs : Array Value) (T : TypeId) : (w.alloc (.cells cs T)).heap[w.heap.size]? = some (.cells cs T (0, 0)) := heap_alloc_new w _
theorem row2a (w : World) (cs ds : Array Value) (T U : TypeId) : ((w.alloc (.cells cs T)).alloc (.cells ds U)).heap[w.heap.size]? = some (.cells cs T (0, 0)) := by
 rw [Below.heap_alloc _ _ _ (by simp)]; exact heap_alloc_new w _
theorem row2b (w : World) (cs ds : Array Value) (T U : TypeId) : ((w.alloc (.cells cs T)).alloc (.cells ds U)).heap[w.heap.size + 1]? = some (.cells ds U (0, 0)) := by
 have := heap_alloc_new (w.alloc (.cells cs T)) (.cells ds U)
 simpa using this
theorem rdAt {w : World} {g : Nat} {cs : Array Value} {T : TypeId} {m : Nat × Nat} (h : w.heap[g]? = some (.cells cs T m)) (xs : List UInt8) (n : Nat) (hc : cs.toList = xs.map vB) (hn : xs.length = n) (hm : n ≤ maxLen) : RdB w (some ⟨g, 0, none⟩) n n xs := by
 refine ⟨.inr ⟨g, 0, rfl, ?_, fun i v hv => ?_⟩, hn, Nat.le_refl _, hm⟩
 ·rcases Nat.lt_or_ge g w.heap.size with hlt | hge
  ·exact hlt
  ·rw [Array.getElem?_eq_none hge] at h; cases h
 ·rw [Nat.zero_add, cell_of_row _ _ i cs T m h]
  rw [← hc] at hv
  simpa using hv
theorem rdPart {w : World} {g : Nat} {cs : Array Value} {T : TypeId} {m : Nat × Nat} (h : w.heap[g]? = some (.cells cs T m)) (off : Nat) (xs : List UInt8) (n : Nat) (hc : ∀ i, i < xs.length → cs[off + i]? = (xs.map vB)[i]?) (hn : xs.length = n) (hm : n ≤ maxLen) : RdB w (some ⟨g, off, none⟩) n n xs := by
 refine ⟨.inr ⟨g, off, rfl, ?_, fun i v hv => ?_⟩, hn, Nat.le_refl _, hm⟩
 ·rcases Nat.lt_or_ge g w.heap.size with hlt | hge
  ·exact hlt
  ·rw [Array.getElem?_eq_none hge] at h; cases h
 ·have hi : i < xs.length := by have := (List.getElem?_eq_some_iff.1 hv).1; simpa using this
  rw [cell_of_row _ _ (off + i) cs T m h, hc i hi, hv]
theorem rdsAt {w : World} {g : Nat} {cs : Array Value} {T : TypeId} {m : Nat × Nat} (h : w.heap[g]? = some (.cells cs T m)) : Rd w (some ⟨g, 0, none⟩) cs.toList := by
 refine .inr ⟨g, 0, rfl, ?_, fun i v hv => ?_⟩
 ·rcases Nat.lt_or_ge g w.heap.size with hlt | hge
  ·exact hlt
  ·rw [Array.getElem?_eq_none hge] at h; cases h
 ·rw [Nat.zero_add, cell_of_row _ _ i cs T m h]
  simpa using hv
theorem setc_rowT {w : World} {g i : Nat} {cs : Array Value} {T : TypeId} {v : Value} (h : w.heap[g]? = some (.cells cs T (0, 0))) : (w.setCell ⟨g, i, none⟩ v).heap[g]? = some (.cells (cs.setIfInBounds i v) T (0, 0)) := by
 rw [setCell_eq_setRow w g i cs T (0, 0) v h]
 exact setRow_heap w g cs _ T (0, 0) h
end Go.Proofs.YtpahicfnhhhifaaGreat
