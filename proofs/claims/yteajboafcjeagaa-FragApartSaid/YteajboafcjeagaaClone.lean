/-
  slices.Clone at []byte.
-/
import Derived.Test.YteajboafcjeagaaBox
namespace Go.Proofs.Yteajboafcjeagaa
set_option maxRecDepth 20000
open Go.RowKit
set_option linter.unusedVariables false
set_option linter.unusedSimpArgs false

theorem clone18_any (A : Option Addr) (n c : Nat) (xs : List UInt8) (w : World) (hr : RdB w A n c xs) (hm : n ≤ 70368744177664) :
    Calls Try.prog 50 #[.slice A n c] w (RetB w xs) := by
  have kn := fun (W : World) (A : Option Addr) (n c n' c' : Nat) => Lib.run_eql_slice_nil (P := Try.prog) W 35 5 A n c n' c' Try.underlying35
  rcases A with _ | a
  · obtain ⟨h1, h2, h3, h4⟩ := hr
    have hx : xs = [] := by
      rcases h1 with h1 | ⟨b, o, h, _⟩
      · simpa using h1
      · cases h
    subst hx
    go_enter Try.func50, Try.ntmps50
    go_wp2
    go_ret
    exact ⟨none, 0, 0, rfl, OwnB.nilB _ _, Below.refl _ _⟩
  · go_enter Try.func50, Try.ntmps50
    go_wp2_with (at_builtin; refine wp_appB rfl _ _ rfl ((below_self w).alloc (Nat.le_refl _) _) (Nat.le_refl _) (by simp) _ _ _ _ rfl (own0 w) _ _ _ _ rfl (hr.alloc _) (by omega) n xs (by omega) (by simp) ?_; intro A4 c4 w4 ho4 hb4 hg4)
    go_ret
    exact ⟨_, _, _, rfl, ho4, hb4⟩

end Go.Proofs.Yteajboafcjeagaa
