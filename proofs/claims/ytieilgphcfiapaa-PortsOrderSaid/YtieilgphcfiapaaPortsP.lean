/-
  Plain: the lowest bit; what is drawn is what was filled.
-/
import Derived.Test.YtieilgphcfiapaaPorts
namespace Go.Proofs.Ytieilgphcfiapaa
set_option maxRecDepth 20000

/-- The lowest bit that is set, from i on, of k of them. -/
def lowFrom (x : Nat) : Nat → Nat → Int
  | 0, _ => -1
  | k + 1, i => if x.testBit i then (i : Int) else lowFrom x k (i + 1)
def lowN (x : Nat) : Int := lowFrom x 32 0

theorem lowFrom_skip (x : Nat) : ∀ (j k i : Nat), (∀ q, i ≤ q → q < i + j → x.testBit q = false) → j ≤ k → lowFrom x k i = lowFrom x (k - j) (i + j) := by
  intro j
  induction j with
  | zero => intro k i _ _; rfl
  | succ j ih =>
    intro k i h hk
    obtain ⟨k, rfl⟩ : ∃ k', k = k' + 1 := ⟨k - 1, by omega⟩
    rw [lowFrom, if_neg (by rw [h i (by omega) (by omega)]; decide), ih k (i + 1) (fun q h1 h2 => h q (by omega) (by omega)) (by omega)]
    congr 1 <;> omega
theorem lowN_at (x i : Nat) (hi : i < 32) (h : x.testBit i = true) (hb : ∀ q, q < i → x.testBit q = false) : lowN x = (i : Int) := by
  unfold lowN
  rw [lowFrom_skip x i 32 0 (fun q _ h2 => hb q (by omega)) (by omega)]
  obtain ⟨k, hk⟩ : ∃ k, 32 - i = k + 1 := ⟨31 - i, by omega⟩
  rw [hk, Nat.zero_add, lowFrom, if_pos h]
theorem lowN_none (x : Nat) (hb : ∀ q, q < 32 → x.testBit q = false) : lowN x = -1 := by
  unfold lowN
  rw [lowFrom_skip x 32 32 0 (fun q _ h2 => hb q (by omega)) (by omega)]
  rfl
theorem lowN_cases (x : Nat) : (lowN x = -1 ∧ ∀ q, q < 32 → x.testBit q = false) ∨ ∃ i : Nat, i < 32 ∧ lowN x = (i : Int) ∧ x.testBit i = true ∧ ∀ q, q < i → x.testBit q = false := by
  have key : ∀ n, n ≤ 32 → (∀ q, q < n → x.testBit q = false) ∨ ∃ i, i < n ∧ x.testBit i = true ∧ ∀ q, q < i → x.testBit q = false := by
    intro n
    induction n with
    | zero => intro _; left; intro q hq; omega
    | succ n ih =>
      intro hn
      rcases ih (by omega) with h | ⟨i, h1, h2, h3⟩
      · cases hb : x.testBit n with
        | true => exact .inr ⟨n, by omega, hb, h⟩
        | false =>
          left; intro q hq
          by_cases e : q = n
          · rw [e]; exact hb
          · exact h q (by omega)
      · exact .inr ⟨i, by omega, h2, h3⟩
  rcases key 32 (by omega) with h | ⟨i, h1, h2, h3⟩
  · exact .inl ⟨lowN_none x h, h⟩
  · exact .inr ⟨i, h1, lowN_at x i h1 h2 h3, h2, h3⟩
theorem zero_of_bits (x : Nat) (hx : x < 4294967296) (h : ∀ q, q < 32 → x.testBit q = false) : x = 0 := by
  apply Nat.eq_of_testBit_eq
  intro i
  rw [Nat.zero_testBit]
  by_cases hi : i < 32
  · exact h i hi
  · exact bit_high x i hx (by omega)
/-- A bit by a shift. -/
theorem bit_shift (x i : Nat) : x / 2 ^ i % 2 = (if x.testBit i then 1 else 0) := by
  rw [Nat.testBit_eq_decide_div_mod_eq]
  have : x / 2 ^ i % 2 = 0 ∨ x / 2 ^ i % 2 = 1 := by omega
  rcases this with h | h <;> rw [h] <;> rfl
theorem bit_and (x i : Nat) : (x &&& 2 ^ i = 0) ↔ x.testBit i = false := by
  constructor
  · intro h
    have := congrArg (fun y => y.testBit i) h
    simpa [Nat.testBit_and, Nat.testBit_two_pow] using this
  · intro h
    apply Nat.eq_of_testBit_eq
    intro j
    rw [Nat.testBit_and, Nat.testBit_two_pow, Nat.zero_testBit]
    by_cases e : i = j
    · subst e; rw [h]; rfl
    · simp [e]
end Go.Proofs.Ytieilgphcfiapaa
