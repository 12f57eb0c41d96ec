/-
  Words for boxes: a variable of the call's own, behind calls and stores.
-/
import Derived.Test.YteajboafcjeagaaSl
import Derived.Laws.Tables
namespace Go.Proofs.Yteajboafcjeagaa
set_option maxRecDepth 20000
open Go.RowKit
set_option linter.unusedVariables false
set_option linter.unusedSimpArgs false

def RetT (w : World) (v1 v2 : Value) (e : Ending) (w' : World) : Prop := e = .returned (.tuple #[v1, v2]) ∧ Below w.heap.size w w'

/-- Bytes and an error. -/
def RetBE (w : World) (ys : List UInt8) (er : Int) (e : Ending) (w' : World) : Prop := ∃ A n c, e = .returned (.tuple #[.slice A n c, .int .i64 er]) ∧ OwnB w' w.heap.size A n c ys ∧ Below w.heap.size w w'

/-- A variable of the call's own behind a call. -/
theorem boxed {w w1 : World} {cs : Array Value} {t : TypeId} (hb : Below (w.alloc (.cells cs t)).heap.size (w.alloc (.cells cs t)) w1) (i : Nat) : w1.cell? ⟨w.heap.size, i, none⟩ = cs[i]? := by
  rw [hb.cell (p := ⟨w.heap.size, i, none⟩) (by simp), cell_of_row _ _ i cs t (0, 0) (heap_alloc_new w _)]

theorem boxed2 {w w1 : World} {cs ds : Array Value} {t u : TypeId} (hb : Below ((w.alloc (.cells cs t)).alloc (.cells ds u)).heap.size ((w.alloc (.cells cs t)).alloc (.cells ds u)) w1) :
    (∀ i, w1.cell? ⟨w.heap.size, i, none⟩ = cs[i]?) ∧ (∀ i, w1.cell? ⟨w.heap.size + 1, i, none⟩ = ds[i]?) ∧ (∀ i, w1.frozen? ⟨w.heap.size + 1, i, none⟩ = false) ∧ w.heap.size + 2 ≤ w1.heap.size ∧ Below w.heap.size w w1 := by
  have hz := hb.size
  simp at hz
  have h1 : w1.heap[w.heap.size]? = some (.cells cs t) := by
    rw [hb.block _ (by simp; omega), Below.heap_alloc _ _ _ (by simp)]; exact heap_alloc_new w _
  have h2 : w1.heap[w.heap.size + 1]? = some (.cells ds u) := by
    rw [hb.block _ (by simp)]
    have := heap_alloc_new (w.alloc (.cells cs t)) (.cells ds u)
    simpa using this
  refine ⟨fun i => cell_of_row _ _ i cs t (0, 0) h1, fun i => cell_of_row _ _ i ds u (0, 0) h2, fun i => frozen_of_row _ _ i ds u h2, by omega, ?_⟩
  exact below_then (((below_self w).alloc (Nat.le_refl _) _).alloc (by simp) _) hb

theorem keepc {W w : World} {g : Nat} {v : Value} (hb : Below W.heap.size W w) (hg : g < W.heap.size) (hc : W.cell? ⟨g, 0, none⟩ = some v) : w.cell? ⟨g, 0, none⟩ = some v := (hb.cell (p := ⟨g, 0, none⟩) hg).trans hc

theorem keepf {W w : World} {g : Nat} {b : Bool} (hb : Below W.heap.size W w) (hg : g < W.heap.size) (hc : W.frozen? ⟨g, 0, none⟩ = b) : w.frozen? ⟨g, 0, none⟩ = b := (hb.frozen (p := ⟨g, 0, none⟩) hg).trans hc

theorem rd_far {w : World} {A : Option Addr} {n c : Nat} {xs : List UInt8} (h : RdB w A n c xs) (p : Addr) (v : Value) (hp : 0 < n → ∀ a, A = some a → a.block ≠ p.block) : RdB (w.setCell p v) A n c xs := by
  refine ⟨?_, h.2⟩
  rcases h.1 with h1 | ⟨b, o, rfl, hb, hc⟩
  · exact .inl h1
  · refine .inr ⟨b, o, rfl, by simpa [World.setCell] using hb, fun i u hu => ?_⟩
    rw [World.cell?_setCell_other _ _ _ _ (fun e => hp (by have h2 := List.getElem?_eq_some_iff.mp hu; obtain ⟨h3, _⟩ := h2; have h4 := h.2.1; rw [List.length_map] at h3; omega) _ rfl (by rw [e]))]
    exact hc i u hu

theorem own0' {W : World} {k : Nat} (h : W.heap.size = k) : OwnB (W.alloc (.cells #[] 5)) W.heap.size (some ⟨k, 0, none⟩) 0 0 [] := by subst h; exact own0 W
theorem w64n {k : Nat} (h : k < 18446744073709551616) : IntKind.u64.wrap (k : Int) = (k : Int) := IntWalk.u64_in _ (by omega)
theorem wi64n {k : Nat} (h : k < 9223372036854775808) : IntKind.i64.wrap (k : Int) = (k : Int) := IntWalk.i64_in _ (by omega)
theorem RdB.cutS {w : World} {b o n c : Nat} {xs : List UInt8} (h : RdB w (some ⟨b, o, none⟩) n c xs) (k j : Nat) (hn : n = k + j) (hk : k < c) : RdB w (some ⟨b, o + k, none⟩) j (c - k) (xs.drop k) := by
  have := h.cut k j hn hk
  simpa [Addr.add_lit] using this
theorem RdB.cellS {w : World} {b o n c : Nat} {xs : List UInt8} (h : RdB w (some ⟨b, o, none⟩) n c xs) (k : Nat) (hk : k < n) : w.cell? ⟨b, o + k, none⟩ = some (.int .u8 ((xs.getD k 0).toNat : Int)) := by
  obtain ⟨b', o', u, he, _, hu, hc⟩ := h.at_ k hk
  injection he with he
  injection he with e1 e2
  subst e1 e2
  rw [hc]
  simp [List.getD, hu]
/-- Bytes beside a row that is written. -/
theorem rd_row {w : World} {A : Option Addr} {n c : Nat} {xs : List UInt8} (h : RdB w A n c xs) (g : Nat) (cs : Array Value) (hp : 0 < n → ∀ a, A = some a → a.block ≠ g) : RdB (w.setRow g cs) A n c xs := by
  refine ⟨?_, h.2⟩
  rcases h.1 with h1 | ⟨b, o, rfl, hb, hc⟩
  · exact .inl h1
  · refine .inr ⟨b, o, rfl, by simpa using hb, fun i u hu => ?_⟩
    have h0 : 0 < n := by
      obtain ⟨h3, _⟩ := List.getElem?_eq_some_iff.mp hu
      have h4 := h.2.1
      rw [List.length_map] at h3
      omega
    rw [cell_setRow_other w g cs ⟨b, o + i, none⟩ (hp h0 ⟨b, o, none⟩ rfl)]
    exact hc i u hu
theorem setc_same {w : World} {g : Nat} {u v : Value} (h : w.cell? ⟨g, 0, none⟩ = some u) : (w.setCell ⟨g, 0, none⟩ v).cell? ⟨g, 0, none⟩ = some v := World.cell?_setCell_same _ _ _ h

theorem setc_other {w : World} {g g' : Nat} {u v : Value} (hg : g ≠ g') (h : w.cell? ⟨g', 0, none⟩ = some u) : (w.setCell ⟨g, 0, none⟩ v).cell? ⟨g', 0, none⟩ = some u := by rw [World.cell?_setCell_other _ _ _ _ (fun e => hg (by injection e))]; exact h

theorem setc_froz {w : World} {p q : Addr} {v : Value} {b : Bool} (h : w.frozen? q = b) : (w.setCell p v).frozen? q = b := by rw [World.frozen?_setCell]; exact h

theorem alcf {w : World} {g : Nat} {b : Bool} {o : Obj} (hg : g < w.heap.size) (hc : w.frozen? ⟨g, 0, none⟩ = b) : (w.alloc o).frozen? ⟨g, 0, none⟩ = b := by
  have hb := (below_self w).alloc (Nat.le_refl _) o
  exact (hb.frozen (p := ⟨g, 0, none⟩) hg).trans hc

theorem alloc_box (w : World) (cs : Array Value) (t : TypeId) (i : Nat) : (w.alloc (.cells cs t)).cell? ⟨w.heap.size, i, none⟩ = cs[i]? := cell_of_row _ _ i cs t (0, 0) (heap_alloc_new w _)

theorem bytes_any (A1 A2 : Option Addr) (n c m d : Nat) (xs ys : List UInt8) (w : World) (h1 : RdB w A1 n c xs) (h2 : RdB w A2 m d ys) :
    Calls Try.prog 17 #[.slice A1 n c, .slice A2 m d] w fun e w' => e = .returned (.bool (decide (xs = ys))) ∧ w = w' := by
  have k1 := h1.str
  have k2 := h2.str
  have k3 := strOf_eq xs ys
  go_enter Try.func17, Try.ntmps17
  go_wp2
  go_ret
  exact ⟨rfl, rfl⟩

theorem boxf {w w1 : World} {cs : Array Value} {t : TypeId} (hb : Below (w.alloc (.cells cs t)).heap.size (w.alloc (.cells cs t)) w1) (i : Nat) : w1.frozen? ⟨w.heap.size, i, none⟩ = false := by
  rw [hb.frozen (p := ⟨w.heap.size, i, none⟩) (by simp)]
  exact frozen_of_row _ _ i cs t (heap_alloc_new w _)

theorem alc {w : World} {g : Nat} {v : Value} {o : Obj} (hg : g < w.heap.size) (hc : w.cell? ⟨g, 0, none⟩ = some v) : (w.alloc o).cell? ⟨g, 0, none⟩ = some v := by
  have hb := (below_self w).alloc (Nat.le_refl _) o
  exact (hb.cell (p := ⟨g, 0, none⟩) hg).trans hc

theorem wpList_unguard {P : Program} {ops : Array Oper} {Q : Exit → Act → World → Prop} {a : Act} {w : World} {rest : List Oper} {o : Oper} (hw : Region.wanted o (yielded ops a.tmps) = true) (h : wpList P ops Q ({ o with guard := none } :: rest) a w) : wpList P ops Q (o :: rest) a w := by
  unfold wpList at h ⊢
  rw [if_pos hw]
  rw [if_pos (show Region.wanted { o with guard := none } (yielded ops a.tmps) = true from rfl)] at h
  exact h

def RetU (w : World) (v1 v2 : Value) (e : Ending) (w' : World) : Prop := e = .returned (.tuple #[v1, v2]) ∧ Below w.heap.size w w'
end Go.Proofs.Yteajboafcjeagaa
