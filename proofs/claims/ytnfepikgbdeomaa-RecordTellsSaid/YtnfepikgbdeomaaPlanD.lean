/-
  A region that draws its order, walked by states: what has been done so far, whatever the order, is told by an invariant.
-/
import Derived.Test.YtnfepikgbdeomaaPlanT
namespace Go.Proofs.Ytnfepikgbdeomaa
set_option maxRecDepth 20000
open Go.RowKit

section
variable {P : Program} {ops : Array Oper} {Q : Exit → Act → World → Prop} {S : World → Prop}
theorem wpAnyH_dp {J : Type} (lst : J → Array Bool) (cand : J → List (Nat × J)) (mu : J → Nat) (k0 : Nat) (I : J → Act → World → Prop)
    (hB : ∀ x, cand x = [] ∨ (Region.ready .any ops (lst x) == (cand x).map (·.1) && (cand x).all (fun p => lst p.2 == (lst x).setIfInBounds p.1 true && mu p.2 + 1 == mu x)) = true)
    (hstep : ∀ x a w, I x a w → S w → ∀ p ∈ cand x, wpOp P ops Q p.1 (fun a' w' => S w' ∧ I p.2 a' w') a w)
    (hfin : ∀ x a w, cand x = [] → I x a w → S w → wpAnyH P .any ops Q S k0 (lst x) a w) (h0 : ∀ x, cand x = [] → mu x = 0) :
    ∀ (m : Nat) x a w, mu x = m → I x a w → S w → wpAnyH P .any ops Q S (k0 + m) (lst x) a w := by
  intro m
  induction m with
  | zero =>
    intro x a w hm hI hS
    by_cases hc : cand x = []
    · exact hfin x a w hc hI hS
    · rcases hB x with h | h
      · exact absurd h hc
      · obtain ⟨p, hp⟩ := List.exists_mem_of_ne_nil _ hc
        rw [Bool.and_eq_true] at h
        have h2 := List.all_eq_true.1 h.2 p hp
        simp only [Bool.and_eq_true, beq_iff_eq] at h2
        omega
  | succ m ih =>
    intro x a w hm hI hS
    have hc : cand x ≠ [] := fun h => by have := h0 x h; omega
    rcases hB x with h | h
    · exact absurd h hc
    · rw [Bool.and_eq_true] at h
      refine wpAnyH_all (rs := (cand x).map (·.1)) (by simpa using h.1) (by simpa using hc) (fun j hj => ?_)
      obtain ⟨p, hp, rfl⟩ := List.mem_map.1 hj
      have h2 := List.all_eq_true.1 h.2 p hp
      simp only [Bool.and_eq_true, beq_iff_eq] at h2
      refine wpOp_mono (fun a' w' hh => ⟨hh.1, ?_⟩) (hstep x a w hI hS p hp)
      rw [← h2.1]
      exact ih p.2 a' w' (by omega) hh.2 hh.1
end
theorem ex_loadP {P : Program} {o : Oper} {a : Act} {w : World} {ty : TypeId} {x : Operand} {p : Addr} {v : Value} (ho : o.op = .load ty x) (hx : a.eval x = .pointer (some p)) (hl : (loadVar ty p).run P w = .ok v w) : (execOp a.eval o).run P w = .ok (.value v) w := by
  unfold execOp
  simp only [ho, hx, Instr.loadAt, Instr.sureAddr, Sem.run_bind, Sem.run_pure, Result.andThen_ok, hl]
end Go.Proofs.Ytnfepikgbdeomaa
