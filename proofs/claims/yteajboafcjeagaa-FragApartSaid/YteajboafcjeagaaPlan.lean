/-
  A region that draws its order, walked in ONE order that is given: what is steady (it yields its value in whatever world that meets S) is taken when the plan says so, and whatever else comes up is then the only one that may.
-/
import Derived.Test.YteajboafcjeagaaPre
import Derived.Deep.RegionHeld3
namespace Go.Proofs.Yteajboafcjeagaa
set_option maxRecDepth 20000
open Go.RowKit

/-- Is the plan one of this region? (i, true): number i is taken first; (i, false): number i is the only one that may come up. -/
def planB (ops : Array Oper) : List (Nat × Bool) → Array Bool → Bool
  | [], listed => (Region.ready .any ops listed).isEmpty
  | (i, true) :: rest, listed => Region.free .any ops listed i && (Region.ready .any ops listed).contains i && planB ops rest (listed.setIfInBounds i true)
  | (i, false) :: rest, listed => (Region.ready .any ops listed == [i]) && planB ops rest (listed.setIfInBounds i true)

section
variable {P : Program} {ops : Array Oper} {Q : Exit → Act → World → Prop} {S : World → Prop}

def wpPlan (P : Program) (ops : Array Oper) (S : World → Prop) (Q : Exit → Act → World → Prop) : List (Nat × Bool) → Act → World → Prop
  | [], a, w => Q .normal a w
  | (i, true) :: rest, a, w => ∃ o v, ops[i]? = some o ∧ YieldsIf P ops S o v a ∧ wpPlan P ops S Q rest (a.put o.dst v) w
  | (i, false) :: rest, a, w => wpOp P ops Q i (fun a' w' => S w' ∧ wpPlan P ops S Q rest a' w') a w

theorem at_drop {i : Nat} {o : Oper} {tl : List Oper} (ho : ops.toList.drop i = o :: tl) : ops[i]? = some o := by
  have h : (ops.toList.drop i)[0]? = some o := by rw [ho]; rfl
  rw [List.getElem?_drop, Nat.add_zero] at h
  simpa using h
/-- (The operation is met as a literal: the list is cut up to it.) -/
theorem plan_take {i : Nat} {rest : List (Nat × Bool)} {o : Oper} {tl : List Oper} {v : Value} {a : Act} {w : World} (ho : ops.toList.drop i = o :: tl) (hy : YieldsIf P ops S o v a)
    (h : wpPlan P ops S Q rest (a.put o.dst v) w) : wpPlan P ops S Q ((i, true) :: rest) a w := ⟨o, v, at_drop ho, hy, h⟩
theorem plan_run {i : Nat} {rest : List (Nat × Bool)} {o : Oper} {tl : List Oper} {a : Act} {w : World} (ho : ops.toList.drop i = o :: tl)
    (h : ∀ K' : Act → World → Prop, Shut (∀ a w, S w → wpPlan P ops S Q rest a w → K' a w) → if Region.wanted o (yielded ops a.tmps) = true then Oper.wp P o a w K' Q else K' (a.put o.dst undef) w) :
    wpPlan P ops S Q ((i, false) :: rest) a w := wpOp_step (at_drop ho) (fun K' hK => h K' (fun a w hS hW => hK a w ⟨hS, hW⟩))
theorem plan_done {a : Act} {w : World} (h : Q .normal a w) : wpPlan P ops S Q [] a w := h

theorem wpAnyH_plan (hs : Region.noSelect ops = true) (hQ : ∀ c (a : Act) (d : Option Tmp) (v : Value) w, Q (.panic c) (a.put d v) w → Q (.panic c) a w) :
    ∀ (plan : List (Nat × Bool)) (fuel : Nat) (listed : Array Bool) (a : Act) (w : World), plan.length ≤ fuel → planB ops plan listed = true → S w → wpPlan P ops S Q plan a w →
      wpAnyH P .any ops Q S fuel listed a w := by
  intro plan
  induction plan with
  | nil =>
    intro fuel listed a w _ hB _ h
    exact wpAnyH_done (by simpa [planB] using hB) h fuel
  | cons p rest ih =>
    obtain ⟨i, b⟩ := p
    intro fuel listed a w hl hB hS h
    obtain ⟨fuel, rfl⟩ : ∃ f, fuel = f + 1 := ⟨fuel - 1, by simp at hl; omega⟩
    have hl' : rest.length ≤ fuel := by simpa using hl
    cases b with
    | true =>
      simp only [planB, Bool.and_eq_true] at hB
      obtain ⟨o, v, ho, hy, hr⟩ := h
      exact wpAnyH_take ho hs hB.1.1 hB.1.2 (fun c a w => hQ c a _ _ w) hy hS (ih fuel _ _ _ hl' hB.2 hS hr)
    | false =>
      simp only [planB, Bool.and_eq_true, beq_iff_eq] at hB
      refine wpAnyH_all hB.1 (by simp) (fun j hj => ?_)
      obtain rfl : j = i := by simpa using hj
      exact wpOp_mono (fun a' w' h' => ⟨h'.1, ih fuel _ _ _ hl' hB.2 h'.1 h'.2⟩) h

/-- The beginning. -/
theorem wp_region_plan {id : Nat} {a : Act} {w : World} (plan : List (Nat × Bool)) (hm : P.follows .mixedOrders = true)
    (hB : (Region.noSelect ops && decide (plan.length ≤ ops.size) && planB ops plan (Array.replicate ops.size false)) = true)
    (hQ : ∀ c (a : Act) (d : Option Tmp) (v : Value) w, Q (.panic c) (a.put d v) w → Q (.panic c) a w) (hS : S w.drew)
    (h : wpPlan P ops S Q plan a w.drew) : (Code.region id ops true).wp P Q a w := by
  simp only [Bool.and_eq_true, decide_eq_true_eq] at hB
  exact wp_region_held hm (wpAnyH_plan hB.1.1 hQ plan _ _ _ _ hB.1.2 hB.2 hS h)
end
end Go.Proofs.Yteajboafcjeagaa
