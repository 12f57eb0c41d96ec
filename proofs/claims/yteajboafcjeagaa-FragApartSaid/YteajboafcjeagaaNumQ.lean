/-
  Plain: bytes with their sum behind them sum to nothing; a byte that is another one shows.
-/
import Derived.Test.YteajboafcjeagaaNumMath
namespace Go.Proofs.Yteajboafcjeagaa
set_option maxRecDepth 20000

theorem ckTot_set (xs : List UInt8) (v : UInt8) : ∀ (i k : Nat) (u : UInt8), xs[k]? = some u →
    ckTot i (xs.set k v) + (if (i + k) % 2 = 0 then 256 * u.toNat else u.toNat) = ckTot i xs + (if (i + k) % 2 = 0 then 256 * v.toNat else v.toNat) := by
  induction xs with
  | nil => intro i k u h; simp at h
  | cons x xs ih =>
    intro i k u h
    cases k with
    | zero =>
      simp only [List.getElem?_cons_zero, Option.some.injEq] at h
      subst h
      simp only [List.set_cons_zero, ckTot, Nat.add_zero]
      omega
    | succ k =>
      simp only [List.getElem?_cons_succ] at h
      have := ih (i + 1) k u h
      rw [show i + 1 + k = i + (k + 1) by omega] at this
      simp only [List.set_cons_succ, ckTot]
      omega

theorem numCheck_zero (xs : List UInt8) : numCheck xs = 0 ↔ 0 < ckTot 0 xs ∧ ckTot 0 xs % 65535 = 0 := by
  unfold numCheck ckFold
  split <;> omega

/-- A byte that is another one shows. -/
theorem ck_flip (xs : List UInt8) (k : Nat) (u v : UInt8) (h : xs[k]? = some u) (hv : v ≠ u) (h0 : numCheck xs = 0) : numCheck (xs.set k v) ≠ 0 := by
  have hs := ckTot_set xs v 0 k u h
  rw [numCheck_zero] at h0
  rw [Ne, numCheck_zero]
  have hne : v.toNat ≠ u.toNat := fun e => hv (UInt8.toNat_inj.1 e)
  have hu := u.toNat_lt
  have hw := v.toNat_lt
  rintro ⟨h1, h2⟩
  split at hs <;> omega

theorem beB_two (x : Nat) : beB x 2 = [UInt8.ofNat (x / 256), UInt8.ofNat x] := by
  simp [beB, leB, List.range_succ]

/-- Bytes of an even number with their sum behind them. -/
theorem ck_sealed (xs : List UInt8) (h : xs.length % 2 = 0) : numCheck (xs ++ beB (numCheck xs) 2) = 0 := by
  rw [numCheck_zero, ckTot_append, Nat.zero_add, beB_two]
  have hl : numCheck xs < 65536 := by unfold numCheck; omega
  simp only [ckTot, h, if_true]
  rw [if_neg (by omega), UInt8.toNat_ofNat', UInt8.toNat_ofNat']
  have h1 : ckFold (ckTot 0 xs) ≤ 65535 := ckFold_le _
  have h2 : numCheck xs = 65535 - ckFold (ckTot 0 xs) := rfl
  generalize numCheck xs = N at *
  have h3 : N / 256 % 2 ^ 8 * 256 + N % 2 ^ 8 = N := by omega
  unfold ckFold at h1 h2
  split at h2 <;> omega

theorem xor_ne (u v : UInt8) (h : v ≠ 0) : u ^^^ v ≠ u := by
  intro e
  apply h
  have : u ^^^ (u ^^^ v) = u ^^^ u := by rw [e]
  rw [← UInt8.xor_assoc, UInt8.xor_self, UInt8.zero_xor] at this
  exact this
end Go.Proofs.Yteajboafcjeagaa
