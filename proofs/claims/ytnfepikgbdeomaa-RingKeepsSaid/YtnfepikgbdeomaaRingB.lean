/-
  Layer 7: rings: may there be one; what reads and writes their numbers.
-/
import Derived.Test.YtnfepikgbdeomaaRing
import Derived.Test.YtnfepikgbdeomaaOps
namespace Go.Proofs.Ytnfepikgbdeomaa
set_option maxRecDepth 20000
open Go.RowKit
set_option linter.unusedVariables false
set_option linter.unusedSimpArgs false
set_option maxHeartbeats 4000000

theorem ringCheck_any (A : Option Addr) (n c : Nat) (b k : Int) (w : World) (hn : n ≤ 9223372036854775807) (hb : -9223372036854775808 ≤ b ∧ b ≤ 9223372036854775807) (hk : -9223372036854775808 ≤ k ∧ k ≤ 9223372036854775807) :
    Calls Try.prog 33 #[.agg #[.slice A n c], .int .i64 b, .int .i64 k] w (RetV w (.bool (rgCheck n b k))) := by
  obtain ⟨hz0, hz1, hz2⟩ := rgSize_le k
  have hz3 : rgN k ↔ 0 < rgSize k := ⟨fun h => by have := hz2 h; omega, fun h => by
    by_cases hr : rgN k
    · exact hr
    · unfold rgSize at h; rw [if_neg hr] at h; omega⟩
  have hs := fun W => ringSize_any k W hk
  obtain ⟨r, hr⟩ : ∃ r, rgCheck n b k = r := ⟨_, rfl⟩
  have hr' : r = decide (n ≤ 8192 ∧ 0 < rgSize k ∧ 0 ≤ b ∧ b + rgSize k ≤ n) := by rw [← hr]; unfold rgCheck; simp only [hz3]
  rw [hr]
  generalize rgSize k = z at *
  have HR := Lib.hid hr'
  obtain ⟨V, hV⟩ : ∃ V, V = w.alloc (.cells #[.slice A n c] 28) := ⟨_, rfl⟩
  have bV : Below w.heap.size w V := by rw [hV]; exact (below_self w).alloc (Nat.le_refl _) _
  have zV : w.heap.size < V.heap.size := by rw [hV]; simp
  have cV : V.cell? ⟨w.heap.size, 0, none⟩ = some (.slice A n c) := by rw [hV]; exact (alloc_box w _ _ 0).trans rfl
  have HV := Lib.hid hV
  clear hV hr hr' hz2 hz3
  go_enter Try.func33, Try.ntmps33
  go_wp2_with fail
  rw [← HV.out]
  refine (hs V).mono ?_
  rintro e w2 ⟨rfl, rfl⟩
  go_wp2_with fail
  refine (memCheck_any A n c V hn).mono ?_
  rintro e w3 ⟨rfl, hb3⟩
  have c3 := (hb3.cell (p := ⟨w.heap.size, 0, none⟩) zV).trans cV
  have B3 := below_then bV hb3
  clear cV
  by_cases h1 : n ≤ 8192
  · have e1 : decide (n ≤ 8192) = true := decide_eq_true h1
    rw [e1]
    by_cases h2 : 0 < z
    · have e2 : decide ((0 : Int) < z) = true := decide_eq_true h2
      by_cases h3 : 0 ≤ b
      · have e3 : decide ((0 : Int) ≤ b) = true := decide_eq_true h3
        by_cases h4 : z ≤ n
        · have e4 : decide (z ≤ (n : Int)) = true := decide_eq_true h4
          have er : r = decide (b ≤ (n : Int) - z) := by rw [HR.out]; exact decide_eq_decide.2 ⟨fun h => by omega, fun h => ⟨h1, h2, h3, by omega⟩⟩
          go_wp2
          go_ret
          exact ⟨by rw [er]; rfl, B3⟩
        · have e4 : decide (z ≤ (n : Int)) = false := decide_eq_false h4
          have er : r = false := by rw [HR.out]; exact decide_eq_false (fun h => by omega)
          go_wp2
          go_ret
          exact ⟨by rw [er]; rfl, B3⟩
      · have e3 : decide ((0 : Int) ≤ b) = false := decide_eq_false h3
        have er : r = false := by rw [HR.out]; exact decide_eq_false (fun h => by omega)
        go_wp2
        go_ret
        exact ⟨by rw [er]; rfl, B3⟩
    · have e2 : decide ((0 : Int) < z) = false := decide_eq_false h2
      have er : r = false := by rw [HR.out]; exact decide_eq_false (fun h => by omega)
      go_wp2
      go_ret
      exact ⟨by rw [er]; rfl, B3⟩
  · have e1 : decide (n ≤ 8192) = false := decide_eq_false h1
    have er : r = false := by rw [HR.out]; exact decide_eq_false (fun h => by omega)
    rw [e1]
    go_wp2
    go_ret
    exact ⟨by rw [er]; rfl, B3⟩
end Go.Proofs.Ytnfepikgbdeomaa
