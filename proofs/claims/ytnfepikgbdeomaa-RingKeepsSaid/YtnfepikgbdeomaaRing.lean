/-
  Layer 7: rings: their sizes.
-/
import Derived.Test.YtnfepikgbdeomaaMemB
namespace Go.Proofs.Ytnfepikgbdeomaa
set_option maxRecDepth 20000
open Go.RowKit
set_option linter.unusedVariables false
set_option linter.unusedSimpArgs false
set_option maxHeartbeats 4000000

/-- So many descriptors. -/
def rgN (n : Int) : Prop := n = 1 ∨ n = 2 ∨ n = 4 ∨ n = 8 ∨ n = 16
instance (n : Int) : Decidable (rgN n) := by unfold rgN; infer_instance
/-- Where what was used begins. -/
def rgBack (n : Int) : Int := (16 * n + 4 + 2 * n + 3) / 4 * 4
def rgSize (n : Int) : Int := if rgN n then rgBack n + 4 + 8 * n else 0
def rgCheck (L : Nat) (b n : Int) : Bool := decide (L ≤ 8192 ∧ rgN n ∧ 0 ≤ b ∧ b + rgSize n ≤ L)
theorem ringRight_any (n : Int) (w : World) (hn : -9223372036854775808 ≤ n ∧ n ≤ 9223372036854775807) : Calls Try.prog 60 #[.int .i64 n] w fun e w' => e = .returned (.bool (decide (rgN n))) ∧ w = w' := by
  by_cases h1 : 1 ≤ n
  · by_cases h2 : n ≤ 16
    · have d1 : decide ((1 : Int) ≤ n) = true := decide_eq_true h1
      have d2 : decide (n ≤ (16 : Int)) = true := decide_eq_true h2
      have : n = 1 ∨ n = 2 ∨ n = 3 ∨ n = 4 ∨ n = 5 ∨ n = 6 ∨ n = 7 ∨ n = 8 ∨ n = 9 ∨ n = 10 ∨ n = 11 ∨ n = 12 ∨ n = 13 ∨ n = 14 ∨ n = 15 ∨ n = 16 := by omega
      rcases this with rfl | rfl | rfl | rfl | rfl | rfl | rfl | rfl | rfl | rfl | rfl | rfl | rfl | rfl | rfl | rfl <;>
      · go_enter Try.func60, Try.ntmps60
        go_wp2
        go_ret
        exact ⟨rfl, rfl⟩
    · have d1 : decide ((1 : Int) ≤ n) = true := decide_eq_true h1
      have d2 : decide (n ≤ (16 : Int)) = false := decide_eq_false h2
      have d3 : decide (rgN n) = false := decide_eq_false (by unfold rgN; omega)
      rw [d3]
      go_enter Try.func60, Try.ntmps60
      go_wp2
      go_ret
      exact ⟨rfl, rfl⟩
  · have d1 : decide ((1 : Int) ≤ n) = false := decide_eq_false h1
    have d3 : decide (rgN n) = false := decide_eq_false (by unfold rgN; omega)
    rw [d3]
    go_enter Try.func60, Try.ntmps60
    go_wp2
    go_ret
    exact ⟨rfl, rfl⟩
theorem ringAvail_any (n : Int) (w : World) : Calls Try.prog 63 #[.int .i64 n] w fun e w' => ∃ z : Int, e = .returned (.int .i64 z) ∧ (rgN n → z = 16 * n) ∧ w = w' := by
  by_cases h : rgN n
  · rcases h with rfl | rfl | rfl | rfl | rfl <;>
    · go_enter Try.func63, Try.ntmps63
      go_wp2
      go_ret
      exact ⟨_, rfl, fun _ => rfl, rfl⟩
  · go_enter Try.func63, Try.ntmps63
    go_wp2
    go_ret
    exact ⟨_, rfl, fun h2 => absurd h2 h, rfl⟩
theorem ringBack_any (n : Int) (w : World) : Calls Try.prog 61 #[.int .i64 n] w fun e w' => ∃ z : Int, e = .returned (.int .i64 z) ∧ (rgN n → z = rgBack n) ∧ w = w' := by
  by_cases h : rgN n
  · rcases h with rfl | rfl | rfl | rfl | rfl <;>
    · go_enter Try.func61, Try.ntmps61
      go_wp2_with fail
      refine (ringAvail_any _ w).mono ?_
      rintro e w2 ⟨z, rfl, hz, rfl⟩
      rw [hz (by decide)]
      go_wp2
      go_ret
      exact ⟨_, rfl, fun _ => by decide, rfl⟩
  · go_enter Try.func61, Try.ntmps61
    go_wp2_with fail
    refine (ringAvail_any _ w).mono ?_
    rintro e w2 ⟨z, rfl, hz, rfl⟩
    clear hz
    go_wp2
    go_ret
    exact ⟨_, rfl, fun h2 => absurd h2 h, rfl⟩
theorem ringSize_any (n : Int) (w : World) (hn : -9223372036854775808 ≤ n ∧ n ≤ 9223372036854775807) : Calls Try.prog 12 #[.int .i64 n] w fun e w' => e = .returned (.int .i64 (rgSize n)) ∧ w = w' := by
  by_cases h : rgN n
  · have hs : rgSize n = rgBack n + 4 + 8 * n := by unfold rgSize; rw [if_pos h]
    rw [hs]
    have hh := ringRight_any n w hn
    rw [decide_eq_true h] at hh
    have HH := Lib.hid hh
    clear hh hs
    have hb := fun W => ringBack_any n W
    rcases h with rfl | rfl | rfl | rfl | rfl <;>
    · go_enter Try.func12, Try.ntmps12
      go_wp2_with fail
      refine HH.out.mono ?_
      rintro e w2 ⟨rfl, rfl⟩
      go_wp2_with fail
      refine (hb _).mono ?_
      rintro e w2 ⟨z, rfl, hz, rfl⟩
      rw [hz (by decide)]
      first | rw [show rgBack 1 = 24 from by decide] | rw [show rgBack 2 = 40 from by decide] | rw [show rgBack 4 = 76 from by decide] | rw [show rgBack 8 = 148 from by decide] | rw [show rgBack 16 = 292 from by decide]
      go_wp2
      go_ret
      exact ⟨rfl, rfl⟩
  · have hs : rgSize n = 0 := by unfold rgSize; rw [if_neg h]
    rw [hs]
    have hh := ringRight_any n w hn
    rw [decide_eq_false h] at hh
    go_enter Try.func12, Try.ntmps12
    go_wp2_with fail
    refine hh.mono ?_
    rintro e w2 ⟨rfl, rfl⟩
    go_wp2
    go_ret
    exact ⟨rfl, rfl⟩
theorem rgSize_le (n : Int) : 0 ≤ rgSize n ∧ rgSize n ≤ 424 ∧ (rgN n → 36 ≤ rgSize n) := by
  by_cases h : rgN n
  · rcases h with rfl | rfl | rfl | rfl | rfl <;> decide
  · unfold rgSize; rw [if_neg h]; exact ⟨by omega, by omega, fun h2 => absurd h2 h⟩
end Go.Proofs.Ytnfepikgbdeomaa
