/-
  Layer 19: arp: later, Find's inner function, IndexFunc.
-/
import Derived.Test.YtnfepikgbdeomaaArpE
import Derived.Test.YtnfepikgbdeomaaArpP
namespace Go.Proofs.Ytnfepikgbdeomaa
set_option maxRecDepth 20000
open Go.RowKit
set_option linter.unusedVariables false
set_option linter.unusedSimpArgs false
set_option maxHeartbeats 8000000

/-- A time so much later, cut. -/
def arLater (t b : Nat) : Nat := if 1099511627776 - b < t then 1099511627776 else t + b
theorem arpLater_any (t b : Nat) (w : World) (ht : t < 18446744073709551616) (hb : b ≤ 1000) : Calls Try.prog 109 #[.int .u64 (t : Int), .int .u64 (b : Int)] w (fun e w' => e = .returned (.int .u64 (arLater t b : Int)) ∧ w' = w) := by
  have w1 : IntKind.u64.wrap (1099511627776 - (b : Int)) = ((1099511627776 - b : Nat) : Int) := by rw [IntKind.wrap_u64]; omega
  unfold arLater
  obtain ⟨q, hq⟩ : ∃ q : Nat, 1099511627776 - b = q := ⟨_, rfl⟩
  rw [hq] at w1 ⊢
  by_cases h : q < t
  · have d1 : decide ((q : Int) < (t : Int)) = true := decide_eq_true (by omega)
    rw [if_pos h]
    clear hq
    go_enter Try.func109, Try.ntmps109
    go_wp2
    go_ret
    exact ⟨rfl, rfl⟩
  · have d1 : decide ((q : Int) < (t : Int)) = false := decide_eq_false (by omega)
    have w2 : IntKind.u64.wrap ((t : Int) + (b : Int)) = ((t + b : Nat) : Int) := by rw [IntKind.wrap_u64]; omega
    rw [if_neg h]
    obtain ⟨z, hz⟩ : ∃ z : Nat, t + b = z := ⟨_, rfl⟩
    rw [hz] at w2 ⊢
    clear hq hz
    go_enter Try.func109, Try.ntmps109
    go_wp2
    go_ret
    exact ⟨rfl, rfl⟩
theorem arpFind1_any (x : Nb) (ip now g h : Nat) (w : World) (hg : w.heap[g]? = some (.cells #[.int .u32 (ip : Int)] 23 (0, 0))) (hh : w.heap[h]? = some (.cells #[.int .u64 (now : Int)] 42 (0, 0))) :
    Calls Try.prog 108 #[.agg (nbA x), .pointer (some ⟨g, 0, none⟩), .pointer (some ⟨h, 0, none⟩)] w (RetV w (.bool (arIs ip now x))) := by
  obtain ⟨V, hV⟩ : ∃ V, V = w.alloc (.cells (nbA x) 109) := ⟨_, rfl⟩
  have bV : Below w.heap.size w V := by rw [hV]; exact (below_self w).alloc (Nat.le_refl _) _
  have q : NbAt V w.heap.size x := by rw [hV]; exact drw_at _ rfl
  have x0 := q.c0
  have x7 := q.c7
  have cg : V.cell? ⟨g, 0, none⟩ = some (.int .u32 (ip : Int)) := (cell_of_row V g 0 _ _ _ (drw_up hg bV)).trans rfl
  have ch : V.cell? ⟨h, 0, none⟩ = some (.int .u64 (now : Int)) := (cell_of_row V h 0 _ _ _ (drw_up hh bV)).trans rfl
  have HV := Lib.hid hV
  clear hV hg hh q
  unfold arIs
  by_cases h1 : x.ip = ip
  · have d1 : ((x.ip : Int) == (ip : Int)) = true := by simp [h1]
    rw [decide_eq_true h1]
    obtain ⟨T, hT⟩ : ∃ T, decide (now < x.t) = T := ⟨_, rfl⟩
    have d2 : decide ((now : Int) < (x.t : Int)) = T := by rw [← hT]; exact decide_eq_decide.2 (by omega)
    rw [hT]
    have HT := Lib.hid hT
    clear h1 hT
    go_enter Try.func108, Try.ntmps108
    go_wp2_with (rw [← HV.out])
    go_ret
    exact ⟨by simp [HT.out], bV⟩
  · have d1 : ((x.ip : Int) == (ip : Int)) = false := beq_eq_false_iff_ne.2 (by omega)
    rw [decide_eq_false h1]
    clear h1
    go_enter Try.func108, Try.ntmps108
    go_wp2_with (rw [← HV.out])
    go_ret
    exact ⟨by simp, bV⟩
end Go.Proofs.Ytnfepikgbdeomaa
