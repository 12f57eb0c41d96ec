/-
  Layer 21: frag: pieces of two datagrams: one piece of one of them.
-/
import Derived.Test.YteajboafcjeagaaFrgR
namespace Go.Proofs.Yteajboafcjeagaa
set_option maxRecDepth 20000
open Go.RowKit
set_option linter.unusedVariables false
set_option linter.unusedSimpArgs false
set_option maxHeartbeats 4000000

def faO (id : Nat) : OwT := (5, 6, id, 17)
/-- What a datagram's pieces have come to: those below p. -/
def FaP (id : Nat) (xs : List UInt8) (p : Nat) (l : List Fr) : Prop := ((p = 0 ∨ xs.length ≤ p) ∧ l = []) ∨ (0 < p ∧ p < xs.length ∧ ∃ x, l = [x] ∧ FrPt (faO id) 33 xs (fun i => i < p) x)
def RetFa (w : World) (id : Nat) (xs : List UInt8) (E : Nat) (all : Bool) (l1 l2 : List Fr) (e : Ending) (w' : World) : Prop := ∃ (A : Option Addr) (n c q0 q4 q5 : Nat) (q3 : Int) (G : Option Addr) (k d : Nat) (la : List Fr),
  e = .returned (.tuple #[.slice A n c, .agg #[.int .u16 (q0 : Int), .bool false, .int .i64 0, .int .i64 q3, .int .u32 (q4 : Int), .int .u32 (q5 : Int), .slice G k d], .bool all, .int .i64 0]) ∧ OwFr w' w.heap.size A n c (l1 ++ (la ++ l2)) ∧ Below w.heap.size w w' ∧ FaP id xs E la ∧ (all = true → q0 = id ∧ OwnB w' w.heap.size G k d xs)
theorem FaP.s {id : Nat} {xs : List UInt8} {p : Nat} {l : List Fr} (h : FaP id xs p l) : ∀ x ∈ l, x.ow = faO id := fun x hx => by
  rcases h with ⟨_, rfl⟩ | ⟨_, _, y, rfl, hy⟩
  · cases hx
  · simp at hx; rw [hx]; exact hy.ow
theorem FaP.r {id : Nat} {xs : List UInt8} {p : Nat} {l : List Fr} (h : FaP id xs p l) (hn : xs.length ≤ 128) : ∀ x ∈ l, FrR x := fun x hx => by
  rcases h with ⟨_, rfl⟩ | ⟨_, _, y, rfl, hy⟩
  · cases hx
  · simp at hx; rw [hx]; exact hy.right (by omega) hn (by show (0 : Int) ≤ 17 ∧ (17 : Int) ≤ 255; omega)
theorem FaP.l {id : Nat} {xs : List UInt8} {p : Nat} {l : List Fr} (h : FaP id xs p l) : l.length ≤ 1 := by
  rcases h with ⟨_, rfl⟩ | ⟨_, _, y, rfl, hy⟩ <;> simp
theorem FaP.two {xs ys : List UInt8} {p q : Nat} {la lb : List Fr} (ha : FaP 0 xs p la) (hb : FaP 1 ys q lb) (hx : xs.length ≤ 128) (hy : ys.length ≤ 128) : FrS (la ++ lb) := by
  have h1 := ha.l
  have h2 := hb.l
  refine ⟨by rw [List.length_append]; omega, fun x hx' => ?_, ?_⟩
  · rcases List.mem_append.1 hx' with h | h
    · exact ha.r hx x h
    · exact hb.r hy x h
  · rw [List.pairwise_append]
    refine ⟨?_, ?_, fun x hx y hy e => ?_⟩
    · rcases ha with ⟨_, rfl⟩ | ⟨_, _, y, rfl, hy⟩ <;> simp
    · rcases hb with ⟨_, rfl⟩ | ⟨_, _, y, rfl, hy⟩ <;> simp
    · rw [ha.s x hx, hb.s y hy] at e
      exact absurd e (by decide)
theorem FrPt.congr2 {po : OwT} {T : Nat} {body : List UInt8} {hs hs' : Nat → Prop} {x : Fr} (h : FrPt po T body hs x) (he : ∀ i, hs i ↔ hs' i) : FrPt po T body hs' x := by
  have : hs = hs' := funext fun i => propext (he i)
  rw [← this]; exact h
theorem faTake (id : Nat) (hid : id ≤ 1) (A : Option Addr) (n2 c : Nat) (l1 la l2 : List Fr) (xs : List UInt8) (n p E m : Nat) (mo all : Bool) (B : Option Addr) (d : Nat) (W : World) (hr : RdFr W A n2 c (l1 ++ (la ++ l2))) (hS : FrS (l1 ++ (la ++ l2))) (hl1 : ∀ x ∈ l1, x.ow ≠ faO id) (hb : RdB W B m d ((xs.drop p).take m)) (hxl : xs.length = n) (hn1 : 9 ≤ n) (hn2 : n ≤ 128)
    (hP : FaP id xs p la) (h0 : p = 0 → l2 = []) (hn3 : n2 ≤ 3) (hp8 : p % 8 = 0) (hpn : p < n) (hE : E = min (p + 8) n) (hm : m = E - p) (hmo : mo = decide (E < n)) (hal : all = decide (E = n)) :
    Calls Try.prog 29 #[.slice A n2 c, .agg #[.int .u16 (id : Int), .bool mo, .int .i64 (p : Int), .int .i64 17, .int .u32 5, .int .u32 6, .slice B m d], .int .u64 3] W (RetFa W id xs E all l1 l2) := by
  have how : OwOk (5, 6, id, 17) := ⟨by show 5 < 4294967296; omega, by show 6 < 4294967296; omega, by show id < 65536; omega, by show (-9223372036854775808 : Int) ≤ 17 ∧ (17 : Int) ≤ 9223372036854775807; omega⟩
  have hst : (∃ x, l1 ++ (la ++ l2) = l1 ++ x :: l2 ∧ FrPt (5, 6, id, 17) 33 xs (fun i => i < p) x) ∨ (l1 ++ (la ++ l2) = l1 ∧ l2 = [] ∧ 33 = 3 + 30 ∧ (∀ i, ¬ i < p) ∧ ∀ x ∈ l1 ++ (la ++ l2), x.ow ≠ (5, 6, id, 17)) := by
    rcases hP with ⟨h1, rfl⟩ | ⟨h1, h2, x, rfl, hx⟩
    · have hp0 : p = 0 := by omega
      have h2 := h0 hp0
      subst h2
      exact .inr ⟨by simp, rfl, rfl, fun i => by omega, fun x hx => hl1 x (by simpa using hx)⟩
    · exact .inl ⟨x, rfl, hx⟩
  have hm1 : 1 ≤ m := by omega
  refine (frgTake_pc A n2 c _ l1 l2 id p mo 17 5 6 B m d 33 xs (fun i => i < p) 3 W hr hS hn3 hb how (by omega) (by omega) (by omega) (by omega) hm1 (by omega) hp8 (by rw [hmo, hxl]; apply decide_eq_decide.2; omega) (fun h => by rw [hmo] at h; have := of_decide_eq_true h; omega) (by rintro ⟨h1, h2⟩; rw [hmo] at h2; have := of_decide_eq_false h2; omega) hst).mono ?_
  rintro e w' ⟨x, hx, hB, hh⟩
  have hq : ∀ i, (i < p ∨ (p ≤ i ∧ i < p + m)) ↔ i < E := fun i => by omega
  have hpE : FrPt (faO id) 33 xs (fun i => i < E) x := FrPt.congr2 hx hq
  rcases hh with ⟨h2, A', n', c', rfl, ho⟩ | ⟨h2, A', n', c', B', k, d', rfl, ho, hob⟩
  · have hEn : E ≠ n := fun he => h2 (fun i hi => (hq i).2 (by omega))
    have ha : all = false := by rw [hal]; exact decide_eq_false hEn
    subst ha
    exact ⟨A', n', c', 0, 0, 0, 0, none, 0, 0, [x], rfl, ho, hB, .inr ⟨by omega, by omega, x, rfl, hpE⟩, fun h => by cases h⟩
  · have hEn : E = n := by
      have := (hq (n - 1)).1 (h2 (n - 1) (by omega))
      omega
    have ha : all = true := by rw [hal]; exact decide_eq_true hEn
    subst ha
    exact ⟨A', n', c', id, 5, 6, 17, B', k, d', [], rfl, by simpa using ho, hB, .inl ⟨.inr (by omega), rfl⟩, fun _ => ⟨rfl, hob⟩⟩
end Go.Proofs.Yteajboafcjeagaa
