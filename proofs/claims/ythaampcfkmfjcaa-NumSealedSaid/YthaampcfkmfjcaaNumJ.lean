/-
  num.Parse, of whatever text.
-/
import Derived.Test.YthaampcfkmfjcaaNumI
namespace Go.Proofs.Ythaampcfkmfjcaa
open Go.RowKit
set_option linter.unusedVariables false
set_option linter.unusedSimpArgs false

theorem parse_nil (w : World) : Calls Try.prog 49 #[.string (strOf [])] w (RetU w (.int .i64 0) (.bool false)) := by
  have hne : (strOf []).toList = [] := by rw [Lib.toList_data]; rfl
  have hm : magB [] = false := rfl
  have HM := Lib.hid hm
  clear hm
  go_enter Try.func49, Try.ntmps49
  go_wp2_with fail
  refine (mag_all [] w (by simp)).mono ?_
  rintro e w1 ⟨rfl, rfl⟩
  rw [HM.out]
  go_wp2
  go_ret2
  exact ⟨rfl, Below.refl _ w⟩

theorem parse_any (xs : List UInt8) (w : World) (hb : xs.length ≤ 9223372036854775807) :
    Calls Try.prog 49 #[.string (strOf xs)] w (RetU w (.int .i64 (parseN xs)) (.bool (parseOk xs))) := by
  cases xs with
  | nil => exact parse_nil w
  | cons c ys =>
    by_cases hc : c = 45
    · have e1 : parseRest (c :: ys) = ys := by unfold parseRest; rw [if_pos (by simp [hc])]; rfl
      have e2 : parseU (c :: ys) = -((magV ys : Nat) : Int) := by unfold parseU; rw [if_pos (by simp [hc])]; rfl
      unfold parseN parseOk
      rw [e1, e2]
      cases hm : magB ys with
      | false => exact parse_neg_no c ys w hc hm hb
      | true =>
        by_cases hd : decI (IntKind.i64.wrap (-((magV ys : Nat) : Int))) = c :: ys
        · rw [decide_eq_true hd]; exact parse_neg_good c ys w hc hm hd hb
        · rw [decide_eq_false hd]; exact parse_neg_bad c ys w hc hm hd hb
    · have e1 : parseRest (c :: ys) = c :: ys := by unfold parseRest; rw [if_neg (by simp [hc])]
      have e2 : parseU (c :: ys) = ((magV (c :: ys) : Nat) : Int) := by unfold parseU; rw [if_neg (by simp [hc])]
      unfold parseN parseOk
      rw [e1, e2]
      cases hm : magB (c :: ys) with
      | false => exact parse_pos_no c ys w hc hm hb
      | true =>
        by_cases hd : decI (IntKind.i64.wrap ((magV (c :: ys) : Nat) : Int)) = c :: ys
        · rw [decide_eq_true hd]; exact parse_pos_good c ys w hc hm hd hb
        · rw [decide_eq_false hd]; exact parse_pos_bad c ys w hc hm hd hb
end Go.Proofs.Ythaampcfkmfjcaa
