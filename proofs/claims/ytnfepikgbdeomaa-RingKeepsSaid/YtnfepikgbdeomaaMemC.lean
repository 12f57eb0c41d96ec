/-
  The walks of package mem, third part: New; Few and Same of the document's answer; what must come at any rate.
-/
import Derived.Test.YtnfepikgbdeomaaMemB
import Derived.Test.YtnfepikgbdeomaaCrcB
namespace Go.Proofs.Ytnfepikgbdeomaa
set_option maxRecDepth 20000
open Go.RowKit
set_option linter.unusedVariables false
set_option linter.unusedSimpArgs false

theorem few_any (A : Option Addr) (n c : Nat) (w : World) (hn : n ≤ 9223372036854775807) : Calls Try.prog 19 #[.agg #[.slice A n c]] w (RetV w (.bool (decide (n ≤ 3000)))) := by
  by_cases h : n ≤ 3000
  · have d : decide ((n : Int) ≤ 3000) = true := decide_eq_true (by omega)
    rw [decide_eq_true h]
    go_enter Try.func19, Try.ntmps19
    go_wp2
    go_ret
    exact ⟨rfl, (below_self w).alloc (Nat.le_refl _) _⟩
  · have d : decide ((n : Int) ≤ 3000) = false := decide_eq_false (by omega)
    rw [decide_eq_false h]
    go_enter Try.func19, Try.ntmps19
    go_wp2
    go_ret
    exact ⟨rfl, (below_self w).alloc (Nat.le_refl _) _⟩

theorem memSame_any (A1 A2 : Option Addr) (n c m d : Nat) (xs ys : List UInt8) (w : World) (h1 : RdB w A1 n c xs) (h2 : RdB w A2 m d ys) :
    Calls Try.prog 24 #[.agg #[.slice A1 n c], .agg #[.slice A2 m d]] w (RetV w (.bool (decide (xs = ys)))) := by
  have k1 := ((h1.alloc (.cells #[.slice A1 n c] 28)).alloc (.cells #[.slice A2 m d] 28)).str
  have k2 := ((h2.alloc (.cells #[.slice A1 n c] 28)).alloc (.cells #[.slice A2 m d] 28)).str
  have k3 := strOf_eq xs ys
  go_enter Try.func24, Try.ntmps24
  go_wp2
  go_ret
  exact ⟨rfl, ((below_self w).alloc (Nat.le_refl _) _).alloc (by simp) _⟩

end Go.Proofs.Ytnfepikgbdeomaa
