/-
  The walk of num.magnitude and num.Parse.
-/
import Derived.Test.YtmbdfanaegadjaaNumG
namespace Go.Proofs.Ytmbdfanaegadjaa
set_option maxRecDepth 20000
open Go.RowKit
set_option linter.unusedVariables false
set_option linter.unusedSimpArgs false

def isDig (u : UInt8) : Bool := decide (48 ≤ u.toNat) && decide (u.toNat ≤ 57)
def dval (xs : List UInt8) : Nat := xs.foldl (fun a u => a * 10 + (u.toNat - 48)) 0
theorem dval_snoc (xs : List UInt8) (u : UInt8) : dval (xs ++ [u]) = dval xs * 10 + (u.toNat - 48) := by simp [dval]
theorem dval_lt (xs : List UInt8) (h : xs.all isDig = true) : dval xs < 10 ^ xs.length := by
  suffices ∀ n (xs : List UInt8), xs.length = n → xs.all isDig = true → dval xs < 10 ^ n from this _ xs rfl h
  intro n
  induction n with
  | zero => intro xs hl _; rw [List.eq_nil_of_length_eq_zero hl]; decide
  | succ n ih =>
    intro xs hl ha
    rcases List.eq_nil_or_concat xs with rfl | ⟨ys, u, rfl⟩
    · simp at hl
    · rw [List.concat_eq_append] at hl ha ⊢
      rw [List.all_append, Bool.and_eq_true] at ha
      have h1 := ih ys (by simpa using hl) ha.1
      rw [dval_snoc, Nat.pow_succ]
      have h2 : isDig u = true := by simpa using ha.2
      simp [isDig] at h2
      omega
def MagI (n : Nat) (xs : List UInt8) (v i : Value) : Prop :=
  ∃ k : Nat, k ≤ n ∧ (xs.take k).all isDig = true ∧ v = .int .u64 (dval (xs.take k) : Nat) ∧ i = .int .i64 (k : Nat)
def magB (xs : List UInt8) : Bool := decide (0 < xs.length) && (decide (xs.length < 20) && xs.all isDig)
def magV (xs : List UInt8) : Nat := if magB xs = true then dval xs else 0

theorem strOf_get (xs : List UInt8) (k : Nat) (h : k < (strOf xs).size) (h' : k < xs.length) : (strOf xs)[k]'h = xs[k]'h' := rfl
theorem mag_bad (xs : List UInt8) (k : Nat) (h : k < xs.length) (hb : isDig (xs[k]'h) = false) : magB xs = false := by
  unfold magB
  have : xs.all isDig = false := by
    rw [Bool.eq_false_iff]
    intro ha
    rw [List.all_eq_true] at ha
    have := ha _ (List.getElem_mem h)
    rw [hb] at this
    cases this
  rw [this]; simp
theorem mag_good (xs : List UInt8) (h0 : 0 < xs.length) (h20 : xs.length < 20) (h : xs.all isDig = true) : magB xs = true := by
  unfold magB
  rw [h, decide_eq_true h0, decide_eq_true h20]; rfl

end Go.Proofs.Ytmbdfanaegadjaa
