/-
  Layer 13: a head by value; Check, Home, Place.
-/
import Derived.Test.YtmbdfanaegadjaaCrcC
import Derived.Test.YtmbdfanaegadjaaOps
import Derived.Test.YtmbdfanaegadjaaAid
import Derived.Test.YtmbdfanaegadjaaSupP
namespace Go.Proofs.Ytmbdfanaegadjaa
set_option maxRecDepth 20000
open Go.RowKit
set_option linter.unusedVariables false
set_option linter.unusedSimpArgs false
set_option maxHeartbeats 8000000

def suV (g : Nat) (s l : Int) (D : List UInt8) : Array Value := #[.int .u32 g, .int .i64 s, .int .i64 l] ++ (D.map vB).toArray
def SuAt (w : World) (h g : Nat) (s l : Int) (D : List UInt8) : Prop := w.heap[h]? = some (.cells (suV g s l D) 26 (0, 0))
theorem suV0 (g : Nat) (s l : Int) (D : List UInt8) : (suV g s l D)[0]? = some (.int .u32 g) := by simp [suV, Array.getElem?_append]
theorem suV1 (g : Nat) (s l : Int) (D : List UInt8) : (suV g s l D)[1]? = some (.int .i64 s) := by simp [suV, Array.getElem?_append]
theorem suV2 (g : Nat) (s l : Int) (D : List UInt8) : (suV g s l D)[2]? = some (.int .i64 l) := by simp [suV, Array.getElem?_append]
theorem suV3 (g : Nat) (s l : Int) (D : List UInt8) (k : Nat) : (suV g s l D)[3 + k]? = (D.map vB)[k]? := by rw [suV, Array.getElem?_append_right (by simp)]; simp
theorem suVn (g : Nat) (s l : Int) (D : List UInt8) : (suV g s l D).size = 3 + D.length := by simp [suV]; omega
theorem suHome_any (g : Nat) (w : World) (hg : g < 4294967296) : Calls Try.prog 14 #[.int .u32 g] w fun e w' => e = .returned (.int .i64 (g % 2 : Nat)) ∧ w = w' := by
  have w1 : IntKind.i64.wrap ((g : Int).tmod 2) = ((g % 2 : Nat) : Int) := by rw [Int.tmod_eq_emod_of_nonneg (by omega)]; exact wi64n (k := g % 2) (by omega)
  go_enter Try.func14, Try.ntmps14
  go_wp2
  go_ret
  exact ⟨rfl, rfl⟩
theorem suPlace_any (s : Int) (w : World) : Calls Try.prog 22 #[.int .i64 s] w fun e w' => e = .returned (.int .i64 (if s = 0 then 2 else 50)) ∧ w = w' := by
  by_cases h : s = 0
  · subst h
    go_enter Try.func22, Try.ntmps22
    go_wp2
    go_ret
    exact ⟨rfl, rfl⟩
  · rw [if_neg h]
    have d : decide (s = 0) = false := decide_eq_false h
    go_enter Try.func22, Try.ntmps22
    go_wp2
    go_ret
    exact ⟨rfl, rfl⟩
theorem suCheck_any (g : Nat) (s l : Int) (D : List UInt8) (w : World) (hs : -9223372036854775808 ≤ s ∧ s ≤ 9223372036854775807) (hD : D.length = 32) : Calls Try.prog 20 #[.agg (suV g s l D)] w (RetV w (.bool (suCheck s l))) := by
  obtain ⟨R, hR⟩ : ∃ R, suCheck s l = R := ⟨suCheck s l, rfl⟩
  rw [hR]
  have HR := Lib.hid hR
  clear hR
  have c1 : (w.alloc (.cells (suV g s l D) 26)).cell? ⟨w.heap.size, 1, none⟩ = some (.int .i64 s) := (cell_of_row _ _ 1 _ _ _ (row1 ..)).trans (suV1 ..)
  have c2 : (w.alloc (.cells (suV g s l D) 26)).cell? ⟨w.heap.size, 2, none⟩ = some (.int .i64 l) := (cell_of_row _ _ 2 _ _ _ (row1 ..)).trans (suV2 ..)
  have hsz : (suV g s l D).size = 35 := by rw [suVn, hD]
  by_cases e1 : s / 2 = 0
  · by_cases e2 : 0 ≤ l
    · by_cases e3 : l ≤ 12288
      · have d3 : decide (l ≤ 12288) = true := decide_eq_true e3
        have e9 : R = true := by rw [← HR.out]; exact decide_eq_true (by omega)
        subst e9
        go_enter Try.func20, Try.ntmps20
        go_wp2
        go_ret
        exact ⟨rfl, (below_self w).alloc (Nat.le_refl _) _⟩
      · have d3 : decide (l ≤ 12288) = false := decide_eq_false e3
        have e9 : R = false := by rw [← HR.out]; exact decide_eq_false (by omega)
        subst e9
        go_enter Try.func20, Try.ntmps20
        go_wp2
        go_ret
        exact ⟨rfl, (below_self w).alloc (Nat.le_refl _) _⟩
    · have e9 : R = false := by rw [← HR.out]; exact decide_eq_false (by omega)
      subst e9
      go_enter Try.func20, Try.ntmps20
      go_wp2
      go_ret
      exact ⟨rfl, (below_self w).alloc (Nat.le_refl _) _⟩
  · have e9 : R = false := by rw [← HR.out]; exact decide_eq_false (by omega)
    subst e9
    go_enter Try.func20, Try.ntmps20
    go_wp2
    go_ret
    exact ⟨rfl, (below_self w).alloc (Nat.le_refl _) _⟩
theorem refsuCheck_any (g : Nat) (s l : Int) (D : List UInt8) (w : World) (hs : -9223372036854775808 ≤ s ∧ s ≤ 9223372036854775807) (hD : D.length = 32) : Calls Try.prog 13 #[.agg (suV g s l D)] w (RetV w (.bool (suCheck s l))) := by
  obtain ⟨R, hR⟩ : ∃ R, suCheck s l = R := ⟨suCheck s l, rfl⟩
  rw [hR]
  have HR := Lib.hid hR
  clear hR
  have c1 : (w.alloc (.cells (suV g s l D) 26)).cell? ⟨w.heap.size, 1, none⟩ = some (.int .i64 s) := (cell_of_row _ _ 1 _ _ _ (row1 ..)).trans (suV1 ..)
  have c2 : (w.alloc (.cells (suV g s l D) 26)).cell? ⟨w.heap.size, 2, none⟩ = some (.int .i64 l) := (cell_of_row _ _ 2 _ _ _ (row1 ..)).trans (suV2 ..)
  have hsz : (suV g s l D).size = 35 := by rw [suVn, hD]
  have H3 : s = 0 ∨ s = 1 ∨ (¬ s = 0 ∧ ¬ s = 1) := by omega
  clear hs
  rcases H3 with rfl | rfl | ⟨q0, q1⟩
  · by_cases e2 : 0 ≤ l
    · by_cases e3 : l ≤ 12288
      · have d3 : decide (l ≤ 12288) = true := decide_eq_true e3
        have e9 : R = true := by rw [← HR.out]; exact decide_eq_true (by omega)
        subst e9
        go_enter Try.func13, Try.ntmps13
        go_wp2
        go_ret
        exact ⟨rfl, (below_self w).alloc (Nat.le_refl _) _⟩
      · have d3 : decide (l ≤ 12288) = false := decide_eq_false e3
        have e9 : R = false := by rw [← HR.out]; exact decide_eq_false (by omega)
        subst e9
        go_enter Try.func13, Try.ntmps13
        go_wp2
        go_ret
        exact ⟨rfl, (below_self w).alloc (Nat.le_refl _) _⟩
    · have e9 : R = false := by rw [← HR.out]; exact decide_eq_false (by omega)
      subst e9
      go_enter Try.func13, Try.ntmps13
      go_wp2
      go_ret
      exact ⟨rfl, (below_self w).alloc (Nat.le_refl _) _⟩
  · by_cases e2 : 0 ≤ l
    · by_cases e3 : l ≤ 12288
      · have d3 : decide (l ≤ 12288) = true := decide_eq_true e3
        have e9 : R = true := by rw [← HR.out]; exact decide_eq_true (by omega)
        subst e9
        go_enter Try.func13, Try.ntmps13
        go_wp2
        go_ret
        exact ⟨rfl, (below_self w).alloc (Nat.le_refl _) _⟩
      · have d3 : decide (l ≤ 12288) = false := decide_eq_false e3
        have e9 : R = false := by rw [← HR.out]; exact decide_eq_false (by omega)
        subst e9
        go_enter Try.func13, Try.ntmps13
        go_wp2
        go_ret
        exact ⟨rfl, (below_self w).alloc (Nat.le_refl _) _⟩
    · have e9 : R = false := by rw [← HR.out]; exact decide_eq_false (by omega)
      subst e9
      go_enter Try.func13, Try.ntmps13
      go_wp2
      go_ret
      exact ⟨rfl, (below_self w).alloc (Nat.le_refl _) _⟩
  · have e9 : R = false := by rw [← HR.out]; exact decide_eq_false (by omega)
    subst e9
    go_enter Try.func13, Try.ntmps13
    go_wp2
    go_ret
    exact ⟨rfl, (below_self w).alloc (Nat.le_refl _) _⟩
end Go.Proofs.Ytmbdfanaegadjaa
