/-
  Layer 7: rings (the document): sizes.
-/
import Derived.Test.YtnfepikgbdeomaaRing
namespace Go.Proofs.Ytnfepikgbdeomaa
set_option maxRecDepth 20000
open Go.RowKit
set_option linter.unusedVariables false
set_option linter.unusedSimpArgs false
set_option maxHeartbeats 4000000

theorem refRight7_any (n : Int) (w : World) : Calls Try.prog 79 #[.int .i64 n] w fun e w' => e = .returned (.bool (decide (rgN n))) ∧ w = w' := by
  by_cases h : rgN n
  · rw [decide_eq_true h]
    rcases h with rfl | rfl | rfl | rfl | rfl <;>
    · go_enter Try.func79, Try.ntmps79
      go_wp2
      go_ret
      exact ⟨rfl, rfl⟩
  · rw [decide_eq_false h]
    unfold rgN at h
    have e1 : ¬ (n = 1) := by omega
    have e2 : ¬ (n = 2) := by omega
    have e4 : ¬ (n = 4) := by omega
    have e8 : ¬ (n = 8) := by omega
    have e16 : ¬ (n = 16) := by omega
    have b1 : (n == 1) = false := beq_eq_false_iff_ne.2 e1
    have b2 : (n == 2) = false := beq_eq_false_iff_ne.2 e2
    have b4 : (n == 4) = false := beq_eq_false_iff_ne.2 e4
    have b8 : (n == 8) = false := beq_eq_false_iff_ne.2 e8
    have b16 : (n == 16) = false := beq_eq_false_iff_ne.2 e16
    clear h
    go_enter Try.func79, Try.ntmps79
    go_wp2
    go_ret
    exact ⟨rfl, rfl⟩
theorem refFirst7_any (n : Int) (w : World) (h : rgN n) : Calls Try.prog 77 #[.int .i64 n] w fun e w' => e = .returned (.int .i64 (16 * n)) ∧ w = w' := by
  rcases h with rfl | rfl | rfl | rfl | rfl <;>
  · go_enter Try.func77, Try.ntmps77
    go_wp2
    go_ret
    exact ⟨rfl, rfl⟩
theorem refSecond7_any (n : Int) (w : World) (h : rgN n) : Calls Try.prog 78 #[.int .i64 n] w fun e w' => e = .returned (.int .i64 (rgBack n)) ∧ w = w' := by
  rcases h with rfl | rfl | rfl | rfl | rfl <;>
  · go_enter Try.func78, Try.ntmps78
    go_wp2
    go_ret
    exact ⟨rfl, rfl⟩
theorem refSize7_any (n : Int) (w : World) : Calls Try.prog 32 #[.int .i64 n] w fun e w' => e = .returned (.int .i64 (rgSize n)) ∧ w = w' := by
  by_cases h : rgN n
  · have hs : rgSize n = rgBack n + 4 + 8 * n := by unfold rgSize; rw [if_pos h]
    rw [hs]
    have hh := refRight7_any n w
    rw [decide_eq_true h] at hh
    have HH := Lib.hid hh
    have hb := fun W => refSecond7_any n W h
    clear hh hs
    rcases h with rfl | rfl | rfl | rfl | rfl <;>
    · go_enter Try.func32, Try.ntmps32
      go_wp2_with fail
      refine HH.out.mono ?_
      rintro e w2 ⟨rfl, rfl⟩
      go_wp2_with fail
      refine (hb _).mono ?_
      rintro e w2 ⟨rfl, rfl⟩
      first | rw [show rgBack 1 = 24 from by decide] | rw [show rgBack 2 = 40 from by decide] | rw [show rgBack 4 = 76 from by decide] | rw [show rgBack 8 = 148 from by decide] | rw [show rgBack 16 = 292 from by decide]
      go_wp2
      go_ret
      exact ⟨rfl, rfl⟩
  · have hs : rgSize n = 0 := by unfold rgSize; rw [if_neg h]
    rw [hs]
    have hh := refRight7_any n w
    rw [decide_eq_false h] at hh
    go_enter Try.func32, Try.ntmps32
    go_wp2_with fail
    refine hh.mono ?_
    rintro e w2 ⟨rfl, rfl⟩
    go_wp2
    go_ret
    exact ⟨rfl, rfl⟩
end Go.Proofs.Ytnfepikgbdeomaa
