/-
  Layer 20: what packets may be; whole ones.
-/
import Derived.Test.YteajboafcjeagaaBld
import Derived.Test.YteajboafcjeagaaIpMath
import Derived.Test.YteajboafcjeagaaNumE
namespace Go.Proofs.Yteajboafcjeagaa
set_option maxRecDepth 20000
open Go.RowKit
set_option linter.unusedVariables false
set_option linter.unusedSimpArgs false

def ipCheck (place proto : Int) (n : Nat) : Bool := decide (0 ≤ place) && (decide (place ≤ 65528) && (decide (place % 8 = 0) && (decide (0 ≤ proto) && (decide (proto ≤ 255) && decide (n ≤ 146)))))
theorem ipCheck_iff (place proto : Int) (n : Nat) : ipCheck place proto n = true ↔ 0 ≤ place ∧ place ≤ 65528 ∧ place % 8 = 0 ∧ 0 ≤ proto ∧ proto ≤ 255 ∧ n ≤ 146 := by
  simp [ipCheck]
theorem ipCheck_any (id : Nat) (more : Bool) (place proto : Int) (src dst : Nat) (A : Option Addr) (n c : Nat) (w : World) (hn : n ≤ 9223372036854775807) (hp : -9223372036854775808 ≤ place ∧ place ≤ 9223372036854775807) (ho : -9223372036854775808 ≤ proto ∧ proto ≤ 9223372036854775807) :
    Calls Try.prog 48 #[.agg #[.int .u16 id, .bool more, .int .i64 place, .int .i64 proto, .int .u32 src, .int .u32 dst, .slice A n c]] w (RetV w (.bool (ipCheck place proto n))) := by
  have fin : ∀ b, ipCheck place proto n = b → b = ipCheck place proto n := fun b h => h.symm
  by_cases g1 : 0 ≤ place
  · have d1 : decide (0 ≤ place) = true := decide_eq_true g1
    by_cases g2 : place ≤ 65528
    · have d2 : decide (place ≤ 65528) = true := decide_eq_true g2
      by_cases g3 : place % 8 = 0
      · have d3 : (place % 8 == 0) = true := by rw [beq_iff_eq]; exact g3
        by_cases g4 : 0 ≤ proto
        · have d4 : decide (0 ≤ proto) = true := decide_eq_true g4
          by_cases g5 : proto ≤ 255
          · have d5 : decide (proto ≤ 255) = true := decide_eq_true g5
            have hM : ipCheck place proto n = decide ((n : Int) ≤ 146) := by
              unfold ipCheck
              rw [decide_eq_true g1, decide_eq_true g2, decide_eq_true g3, decide_eq_true g4, decide_eq_true g5]
              by_cases h : n ≤ 146
              · rw [decide_eq_true h, decide_eq_true (by omega)]; rfl
              · rw [decide_eq_false h, decide_eq_false (by omega)]; rfl
            rw [hM]
            clear hM fin g3
            go_enter Try.func48, Try.ntmps48
            go_wp2
            go_ret
            exact ⟨rfl, (below_self w).alloc (Nat.le_refl _) _⟩
          · have d5 : decide (proto ≤ 255) = false := decide_eq_false g5
            have hM : ipCheck place proto n = false := by rw [Bool.eq_false_iff, Ne, ipCheck_iff]; omega
            rw [hM]
            clear hM fin g3
            go_enter Try.func48, Try.ntmps48
            go_wp2
            go_ret
            exact ⟨rfl, (below_self w).alloc (Nat.le_refl _) _⟩
        · have d4 : decide (0 ≤ proto) = false := decide_eq_false g4
          have hM : ipCheck place proto n = false := by rw [Bool.eq_false_iff, Ne, ipCheck_iff]; omega
          rw [hM]
          clear hM fin g3
          go_enter Try.func48, Try.ntmps48
          go_wp2
          go_ret
          exact ⟨rfl, (below_self w).alloc (Nat.le_refl _) _⟩
      · have d3 : (place % 8 == 0) = false := by rw [beq_eq_false_iff_ne]; exact g3
        have hM : ipCheck place proto n = false := by rw [Bool.eq_false_iff, Ne, ipCheck_iff]; omega
        rw [hM]
        clear hM fin g3
        go_enter Try.func48, Try.ntmps48
        go_wp2
        go_ret
        exact ⟨rfl, (below_self w).alloc (Nat.le_refl _) _⟩
    · have d2 : decide (place ≤ 65528) = false := decide_eq_false g2
      have hM : ipCheck place proto n = false := by rw [Bool.eq_false_iff, Ne, ipCheck_iff]; omega
      rw [hM]
      clear hM fin
      go_enter Try.func48, Try.ntmps48
      go_wp2
      go_ret
      exact ⟨rfl, (below_self w).alloc (Nat.le_refl _) _⟩
  · have d1 : decide (0 ≤ place) = false := decide_eq_false g1
    have hM : ipCheck place proto n = false := by rw [Bool.eq_false_iff, Ne, ipCheck_iff]; omega
    rw [hM]
    clear hM fin
    go_enter Try.func48, Try.ntmps48
    go_wp2
    go_ret
    exact ⟨rfl, (below_self w).alloc (Nat.le_refl _) _⟩
def ipWhole (more : Bool) (place : Int) : Bool := !more && decide (place = 0)
theorem ipWhole_any (id : Nat) (more : Bool) (place proto : Int) (src dst : Nat) (A : Option Addr) (n c : Nat) (w : World) :
    Calls Try.prog 49 #[.agg #[.int .u16 id, .bool more, .int .i64 place, .int .i64 proto, .int .u32 src, .int .u32 dst, .slice A n c]] w (RetV w (.bool (ipWhole more place))) := by
  by_cases g1 : place = 0
  · have d1 : (place == 0) = true := by rw [beq_iff_eq]; exact g1
    have hM : ipWhole more place = !more := by unfold ipWhole; rw [decide_eq_true g1]; simp
    rw [hM]
    clear hM g1
    cases more
    all_goals
      go_enter Try.func49, Try.ntmps49
      go_wp2
      go_ret
      exact ⟨rfl, (below_self w).alloc (Nat.le_refl _) _⟩
  · have d1 : (place == 0) = false := by rw [beq_eq_false_iff_ne]; exact g1
    have hM : ipWhole more place = false := by unfold ipWhole; rw [decide_eq_false g1]; simp
    rw [hM]
    clear hM g1
    cases more
    all_goals
      go_enter Try.func49, Try.ntmps49
      go_wp2
      go_ret
      exact ⟨rfl, (below_self w).alloc (Nat.le_refl _) _⟩
end Go.Proofs.Yteajboafcjeagaa
