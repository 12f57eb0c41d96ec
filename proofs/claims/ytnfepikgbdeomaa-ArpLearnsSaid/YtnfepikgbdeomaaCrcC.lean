/-
  What must come at any rate (layer 2's heads), and the four laws' walks.
-/
import Derived.Test.YtnfepikgbdeomaaCrcB
namespace Go.Proofs.Ytnfepikgbdeomaa
set_option maxRecDepth 20000
open Go.RowKit
set_option linter.unusedVariables false
set_option linter.unusedSimpArgs false

theorem refHolds_any (A : Option Addr) (n c : Nat) (xs : List UInt8) (w : World) (hr : RdB w A n c xs) (hm : n ≤ 35184372088832) :
    Calls Try.prog 97 #[.slice A n c] w (RetV w (.bool (crcHolds xs))) := by
  by_cases h : 4 ≤ n
  · exact refHolds_long A n c xs w hr hm h
  · have e : crcHolds xs = false := by unfold crcHolds; rw [hr.2.1, decide_eq_false h, Bool.false_and]
    rw [e]
    have hd : decide ((4 : Int) ≤ (n : Int)) = false := by simp; omega
    go_enter Try.func97, Try.ntmps97
    go_wp2_with fail
    go_quiet (fail)
    go_wp2
    go_ret
    exact ⟨rfl, by simpa using below_drewN (Below.refl _ w) _⟩

end Go.Proofs.Ytnfepikgbdeomaa
