/-
  Plain: disks.
-/
import Derived.Test.YteajboafcjeagaaCrcMath
namespace Go.Proofs.Yteajboafcjeagaa
set_option maxRecDepth 20000
set_option linter.unusedSimpArgs false
set_option linter.unusedVariables false

structure Dk where
  s : List (List UInt8)
  k : List (Int × List UInt8)
def dkHas (D : Dk) (at_ : Int) : Bool := decide (0 ≤ at_) && decide (at_ < (D.s.length : Int))
def dkOk (D : Dk) : Bool := decide (D.s.length ≤ 256) && decide (D.k.length ≤ 512) && D.s.all (fun b => decide (b.length = 256)) && D.k.all (fun p => dkHas D p.1 && decide (p.2.length = 256))
def dkFew (D : Dk) : Bool := decide (D.s.length ≤ 300) && decide (D.k.length ≤ 600) && D.s.all (fun b => decide (b.length ≤ 600)) && D.k.all (fun p => decide (p.2.length ≤ 600))
/-- The last of the first n writes that are kept and say sector i. -/
def dkLast (l : List (Int × List UInt8)) (kept : Nat → Bool) (i : Int) : Nat → Option (List UInt8)
  | 0 => none
  | n + 1 => if kept n = true ∧ (l.getD n (0, [])).1 = i then some (l.getD n (0, [])).2 else dkLast l kept i n
def dkAt (D : Dk) (kept : Nat → Bool) (i : Nat) : List UInt8 := (dkLast D.k kept (i : Int) D.k.length).getD (D.s.getD i [])
def dkLeft (D : Dk) (kept : Nat → Bool) : Dk := ⟨(List.range D.s.length).map (dkAt D kept), []⟩
def dkFlush (D : Dk) : Dk := if dkOk D = true then dkLeft D (fun _ => true) else D
def dkKeep (keep : List Bool) (i : Nat) : Bool := keep.getD i false
def dkCrash (D : Dk) (keep : List Bool) : Dk := if dkOk D = true then dkLeft D (dkKeep keep) else D
def dkE (D : Dk) : Int := if dkOk D = true then 0 else 3
def dkAsk (D : Dk) (at_ : Int) : Int := if dkOk D = false then 3 else if dkHas D at_ = false then 50 else 0
def dkRead (D : Dk) (at_ : Int) : List UInt8 := if dkAsk D at_ = 0 then dkAt D (fun _ => true) at_.toNat else []
def dkWriteE (D : Dk) (at_ : Int) (b : List UInt8) : Int := if dkAsk D at_ ≠ 0 then dkAsk D at_ else if ¬ b.length = 256 then 2 else if D.k.length = 512 then 4 else 0
def dkWrite (D : Dk) (at_ : Int) (b : List UInt8) : Dk := if dkWriteE D at_ b = 0 then ⟨D.s, D.k ++ [(at_, b)]⟩ else D
def dkTamperE (D : Dk) (at_ place : Int) : Int := if dkAsk D at_ ≠ 0 then dkAsk D at_ else if place < 0 ∨ 256 ≤ place then 2 else 0
def dkTampered (b : List UInt8) (place : Nat) (by_ : UInt8) : List UInt8 := b.set place (b.getD place 0 ^^^ by_)
def dkTamper (D : Dk) (at_ place : Int) (by_ : UInt8) : Dk := if dkTamperE D at_ place = 0 then ⟨D.s.set at_.toNat (dkTampered (D.s.getD at_.toNat []) place.toNat by_), D.k⟩ else D
def dkNewE (n : Int) : Int := if n < 0 ∨ 256 < n then 2 else 0
def dkNew (n : Int) : Dk := if dkNewE n = 0 then ⟨List.replicate n.toNat (List.replicate 256 0), []⟩ else ⟨[], []⟩
def dkSame (a b : Dk) : Bool := decide (a.s = b.s) && decide (a.k = b.k)

theorem dkOk_iff (D : Dk) : dkOk D = true ↔ D.s.length ≤ 256 ∧ D.k.length ≤ 512 ∧ (∀ b ∈ D.s, b.length = 256) ∧ (∀ p ∈ D.k, dkHas D p.1 = true ∧ p.2.length = 256) := by
  unfold dkOk
  simp only [Bool.and_eq_true, decide_eq_true_eq, List.all_eq_true, and_assoc]
theorem dkLast_none (l : List (Int × List UInt8)) (i : Int) : ∀ n, dkLast l (fun _ => false) i n = none
  | 0 => rfl
  | n + 1 => by unfold dkLast; rw [if_neg (by simp)]; exact dkLast_none l i n
theorem dkLast_mem (l : List (Int × List UInt8)) (kept : Nat → Bool) (i : Int) : ∀ n, n ≤ l.length → ∀ b, dkLast l kept i n = some b → ∃ j, j < n ∧ (l.getD j (0, [])).1 = i ∧ (l.getD j (0, [])).2 = b
  | 0, _, _, h => by simp [dkLast] at h
  | n + 1, hn, b, h => by
    unfold dkLast at h
    split at h
    · rename_i hc
      exact ⟨n, by omega, hc.2, by simpa using h⟩
    · obtain ⟨j, h1, h2, h3⟩ := dkLast_mem l kept i n (by omega) b h
      exact ⟨j, by omega, h2, h3⟩
theorem dkLast_congr (l : List (Int × List UInt8)) (k1 k2 : Nat → Bool) (i : Int) : ∀ n, (∀ j, j < n → k1 j = k2 j) → dkLast l k1 i n = dkLast l k2 i n
  | 0, _ => rfl
  | n + 1, h => by unfold dkLast; rw [h n (by omega), dkLast_congr l k1 k2 i n (fun j hj => h j (by omega))]
theorem dkLeft_congr (D : Dk) (k1 k2 : Nat → Bool) (h : ∀ j, j < D.k.length → k1 j = k2 j) : dkLeft D k1 = dkLeft D k2 := by
  unfold dkLeft dkAt; simp only [dkLast_congr D.k k1 k2 _ _ h]
theorem dkLeft_none (D : Dk) : dkLeft D (fun _ => false) = ⟨D.s, []⟩ := by
  unfold dkLeft dkAt
  simp only [dkLast_none, Option.getD_none]
  congr 1
  apply List.ext_getElem
  · simp
  · intro i h1 h2
    have h3 : i < D.s.length := h2
    simp [List.getD, h3]
theorem dkLeft_nil (D : Dk) (kept : Nat → Bool) (h : D.k = []) : dkLeft D kept = D := by
  obtain ⟨s, k⟩ := D
  simp only at h
  subst h
  rw [dkLeft_congr ⟨s, []⟩ kept (fun _ => false) (by simp), dkLeft_none]
theorem dkLeft_s (D : Dk) (kept : Nat → Bool) (i : Nat) (h : i < D.s.length) : (dkLeft D kept).s.getD i [] = dkAt D kept i := by
  unfold dkLeft; simp [List.getD, h]
theorem dkLeft_len (D : Dk) (kept : Nat → Bool) : (dkLeft D kept).s.length = D.s.length := by simp [dkLeft]
theorem dkAt_or (D : Dk) (kept : Nat → Bool) (i : Nat) : dkAt D kept i = D.s.getD i [] ∨ ∃ j, j < D.k.length ∧ (D.k.getD j (0, [])).1 = (i : Int) ∧ (D.k.getD j (0, [])).2 = dkAt D kept i := by
  unfold dkAt
  cases h : dkLast D.k kept (i : Int) D.k.length with
  | none => left; rfl
  | some b =>
    obtain ⟨j, h1, h2, h3⟩ := dkLast_mem D.k kept (i : Int) D.k.length (Nat.le_refl _) b h
    exact .inr ⟨j, h1, h2, h3⟩
theorem dkAt_len (D : Dk) (kept : Nat → Bool) (i : Nat) (h : dkOk D = true) (hi : i < D.s.length) : (dkAt D kept i).length = 256 := by
  obtain ⟨h1, h2, h3, h4⟩ := (dkOk_iff D).1 h
  rcases dkAt_or D kept i with e | ⟨j, hj, -, e⟩
  · rw [e]; exact h3 _ (by simp [List.getD, hi])
  · rw [← e]; exact (h4 _ (by simp [List.getD, hj])).2
theorem dkLeft_ok (D : Dk) (kept : Nat → Bool) (h : dkOk D = true) : dkOk (dkLeft D kept) = true := by
  obtain ⟨h1, h2, h3, h4⟩ := (dkOk_iff D).1 h
  refine (dkOk_iff _).2 ⟨by rw [dkLeft_len]; exact h1, by simp [dkLeft], fun b hb => ?_, by simp [dkLeft]⟩
  obtain ⟨i, hi, rfl⟩ := List.mem_map.1 (show b ∈ (List.range D.s.length).map (dkAt D kept) from hb)
  exact dkAt_len D kept i h (by simpa using hi)
end Go.Proofs.Yteajboafcjeagaa
