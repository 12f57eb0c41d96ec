/-
  A region that draws its order, walked in segments: where several operations may come up next, each of them is walked.
-/
import Derived.Test.YteajboafcjeagaaPlan
namespace Go.Proofs.Yteajboafcjeagaa
set_option maxRecDepth 20000
open Go.RowKit

/-! ### Calls that leave the world alone, taken first as loads are -/
section
variable {P : Program} {ops : Array Oper} {Q : Exit → Act → World → Prop} {S : World → Prop}

/-- The operation yields v, in whatever world that meets S: by itself, or by a call that leaves the world alone. -/
def YieldsX (P : Program) (ops : Array Oper) (S : World → Prop) (o : Oper) (v : Value) (a : Act) : Prop :=
  YieldsIf P ops S o v a ∨ (Region.wanted o (yielded ops a.tmps) = true ∧ ∃ f args, ∀ w, S w → (execOp a.eval o).run P w = .ok (.enter f args) w ∧ Calls P f args w (fun e w' => e = .returned v ∧ w = w'))

theorem YieldsX.wpOp {i : Nat} {o : Oper} {v : Value} {a : Act} (hi : ops[i]? = some o) (hy : YieldsX P ops S o v a)
    {K : Act → World → Prop} {w : World} (hS : S w) (h : K (a.put o.dst v) w) : wpOp P ops Q i K a w := by
  rcases hy with hy | ⟨hw, f, args, hv⟩
  · exact hy.wpOp hi hS h
  · unfold Go.wpOp
    obtain ⟨h1, h2⟩ := hv w hS
    simp only [hi, hw, if_true, Oper.wp, h1, Oper.upon]
    refine .inl (Calls.mono h2 ?_)
    rintro e w' ⟨rfl, rfl⟩
    exact h

theorem YieldsX.of_same {o : Oper} {v : Value} {a a' : Act} (hy : YieldsX P ops S o v a) (he : execOp a'.eval o = execOp a.eval o)
    (hw : Region.wanted o (yielded ops a'.tmps) = Region.wanted o (yielded ops a.tmps)) : YieldsX P ops S o v a' := by
  rcases hy with hy | hy
  · exact .inl (hy.of_same he hw)
  · right
    rw [he, hw]
    exact hy

theorem wpOp_putX {j : Nat} {oi oj : Oper} {v : Value} (hj : ops[j]? = some oj) (hap : oi.apart ops oj = true)
    (hsi : ∀ cs b, oi.op ≠ .select cs b) (hsj : ∀ cs b, oj.op ≠ .select cs b)
    (hQ : ∀ c a w, Q (.panic c) (a.put oi.dst v) w → Q (.panic c) a w) {K : Act → World → Prop} {a : Act} {w : World}
    (hy : YieldsX P ops S oi v a) (h : wpOp P ops Q j K (a.put oi.dst v) w) :
    wpOp P ops Q j (fun a' w' => YieldsX P ops S oi v a' ∧ K (a'.put oi.dst v) w') a w := by
  obtain ⟨h1, h2, h3⟩ := Oper.apart_spec hap
  have keep : ∀ (a : Act), YieldsX P ops S oi v a → ∀ u, YieldsX P ops S oi v (a.put oj.dst u) := fun a hy u =>
    hy.of_same (execOp_put oi hsi a oj.dst u h3) (wanted_put oi a oj.dst u h3)
  have keepD : ∀ d, YieldsX P ops S oi v { a with defers := d :: a.defers } := fun d => hy.of_same rfl rfl
  unfold wpOp at *
  simp only [hj] at *
  rw [wanted_put oj a oi.dst v h1] at h
  split
  · rename_i hw
    simp only [hw, if_true] at h
    rcases h with h | ⟨hasks, hlets⟩
    case inr => exact .inr ⟨by unfold Oper.asks at *; rw [execOp_put oj hsj a oi.dst v h1] at hasks; exact hasks, hlets⟩
    refine .inl ?_
    unfold Oper.wp at *
    rw [execOp_put oj hsj a oi.dst v h1] at h
    generalize (execOp a.eval oj).run P w = r at *
    cases r with
    | ok n w' =>
      cases n <;> simp only [Oper.upon] at h ⊢
      case value u => exact ⟨keep a hy u, by rw [← Act.put_comm a v u h2]; exact h⟩
      case skip => exact ⟨keep a hy _, by rw [← Act.put_comm a v undef h2]; exact h⟩
      case defer d =>
        refine ⟨keep _ (keepD d) _, ?_⟩
        rw [← Act.put_comm _ v undef h2, ← Act.put_defers]
        exact h
      case enter f args =>
        refine Calls.mono h fun e w'' he => ?_
        cases e with
        | returned u => exact ⟨keep a hy u, by rw [← Act.put_comm a v u h2]; exact he⟩
        | panicked c => exact hQ _ _ _ he
        | outgrown => exact he
      case row row args => exact Rows.mono h fun u w'' he => ⟨keep a hy u, by rw [← Act.put_comm a v u h2]; exact he⟩
    | halt x w' =>
      cases x <;> simp only [Oper.upon] at h ⊢
      case panic u => exact hQ _ _ _ h
  · rename_i hw
    simp only [hw] at h
    exact ⟨keep a hy _, by rw [← Act.put_comm a v undef h2]; exact h⟩

theorem wpAnyH_firstX {md : Region.Mode} {i : Nat} {oi : Oper} {v : Value} (hi : ops[i]? = some oi) (hsel : ∀ (j : Nat) (o : Oper) cs b, ops[j]? = some o → o.op ≠ .select cs b)
    (hQ : ∀ c a w, Q (.panic c) (a.put oi.dst v) w → Q (.panic c) a w) :
    ∀ (fuel : Nat) (listed : Array Bool) (a : Act) (w : World),
      (∀ j oj, ops[j]? = some oj → j ≠ i → listed.getD j true = false → (∀ e ∈ oj.after, Region.binds md e = true → e.on ≠ i) → oi.apart ops oj = true) →
      i ∈ Region.ready md ops listed → YieldsX P ops S oi v a → S w →
      wpAnyH P md ops Q S fuel (listed.setIfInBounds i true) (a.put oi.dst v) w → wpAnyH P md ops Q S (fuel + 1) listed a w := by
  intro fuel
  induction fuel with
  | zero =>
    intro listed a w _ hr hy hS H
    refine ⟨fun h => (by rw [h] at hr; cases hr), fun j hj => ?_⟩
    by_cases hji : j = i
    · subst hji; exact hy.wpOp hi hS ⟨hS, H⟩
    · have := ready_mono hj hji
      rw [H.1] at this
      cases this
  | succ fuel ih =>
    intro listed a w hfree hr hy hS H
    refine ⟨fun h => (by rw [h] at hr; cases hr), fun j hj => ?_⟩
    by_cases hji : j = i
    · subst hji; exact hy.wpOp hi hS ⟨hS, H⟩
    · have h1 := H.2 j (ready_mono hj hji)
      obtain ⟨hjun, oj, hoj, hall⟩ := mem_ready.1 hj
      have hnot : ∀ e ∈ oj.after, Region.binds md e = true → e.on ≠ i := fun e he hb heq => by
        have h1 := hall e he hb
        have h0 := (mem_ready.1 hr).1
        rw [heq] at h1
        rcases Nat.lt_or_ge i listed.size with h' | h'
        · simp [h'] at h0 h1; rw [h0] at h1; cases h1
        · simp [Array.getElem?_eq_none h'] at h1
      have h2 := wpOp_putX hoj (hfree j oj hoj hji hjun hnot) (fun cs b => hsel i oi cs b hi) (fun cs b => hsel j oj cs b hoj) hQ hy h1
      have hfree' : ∀ k ok, ops[k]? = some ok → k ≠ i → (listed.setIfInBounds j true).getD k true = false →
          (∀ e ∈ ok.after, Region.binds md e = true → e.on ≠ i) → oi.apart ops ok = true := fun k ok hk hki hun hno => by
        refine hfree k ok hk hki ?_ hno
        by_cases hjk : j = k
        · subst hjk; exact hjun
        · rw [getD_set_ne true hjk] at hun; exact hun
      refine wpOp_mono (fun a' w' h3 => ⟨h3.2.1, ih (listed.setIfInBounds j true) a' w' hfree' (ready_mono hr (Ne.symm hji)) h3.1 h3.2.1 ?_⟩) h2
      rw [Array.setIfInBounds_comm _ _ hji]
      exact h3.2.2

theorem wpAnyH_takeX {md : Region.Mode} {i : Nat} {oi : Oper} {v : Value} {fuel : Nat} {listed : Array Bool} {a : Act} {w : World} (hi : ops[i]? = some oi)
    (hs : Region.noSelect ops = true) (hf : Region.free md ops listed i = true) (hr : (Region.ready md ops listed).contains i = true)
    (hQ : ∀ c a w, Q (.panic c) (a.put oi.dst v) w → Q (.panic c) a w) (hy : YieldsX P ops S oi v a) (hS : S w)
    (h : wpAnyH P md ops Q S fuel (listed.setIfInBounds i true) (a.put oi.dst v) w) : wpAnyH P md ops Q S (fuel + 1) listed a w :=
  wpAnyH_firstX hi (Region.noSelect_spec hs) hQ fuel listed a w (Region.free_spec hi hf) (by simpa using hr) hy hS h
end

/-- The plan's end, where the plan is one of this region. -/
def planL (ops : Array Oper) : List (Nat × Bool) → Array Bool → Option (Array Bool)
  | [], l => some l
  | (i, true) :: r, l => if (Region.free .any ops l i && (Region.ready .any ops l).contains i) = true then planL ops r (l.setIfInBounds i true) else none
  | (i, false) :: r, l => if (Region.ready .any ops l == [i]) = true then planL ops r (l.setIfInBounds i true) else none

section
variable {P : Program} {ops : Array Oper} {Q : Exit → Act → World → Prop} {S : World → Prop} {C : Act → World → Prop}

def wpPlanC (P : Program) (ops : Array Oper) (S : World → Prop) (Q : Exit → Act → World → Prop) (C : Act → World → Prop) : List (Nat × Bool) → Act → World → Prop
  | [], a, w => C a w
  | (i, true) :: rest, a, w => ∃ o v, ops[i]? = some o ∧ YieldsX P ops S o v a ∧ wpPlanC P ops S Q C rest (a.put o.dst v) w
  | (i, false) :: rest, a, w => wpOp P ops Q i (fun a' w' => S w' ∧ wpPlanC P ops S Q C rest a' w') a w

theorem seg_take {i : Nat} {rest : List (Nat × Bool)} {o : Oper} {tl : List Oper} {v : Value} {a : Act} {w : World} (ho : ops.toList.drop i = o :: tl) (hy : YieldsIf P ops S o v a)
    (h : wpPlanC P ops S Q C rest (a.put o.dst v) w) : wpPlanC P ops S Q C ((i, true) :: rest) a w := ⟨o, v, at_drop ho, .inl hy, h⟩
/-- A call that leaves the world alone. -/
theorem seg_pure {i : Nat} {rest : List (Nat × Bool)} {o : Oper} {tl : List Oper} {v : Value} {a : Act} {w : World} (ho : ops.toList.drop i = o :: tl) {f : FuncId} {args : Array Value} (hw : Region.wanted o (yielded ops a.tmps) = true)
    (hy : ∀ w, S w → (execOp a.eval o).run P w = .ok (.enter f args) w) (hc : ∀ w, S w → Calls P f args w (fun e w' => e = .returned v ∧ w = w'))
    (h : wpPlanC P ops S Q C rest (a.put o.dst v) w) : wpPlanC P ops S Q C ((i, true) :: rest) a w := ⟨o, v, at_drop ho, .inr ⟨hw, f, args, fun w hS => ⟨hy w hS, hc w hS⟩⟩, h⟩
theorem seg_run {i : Nat} {rest : List (Nat × Bool)} {o : Oper} {tl : List Oper} {a : Act} {w : World} (ho : ops.toList.drop i = o :: tl)
    (h : ∀ K' : Act → World → Prop, Shut (∀ a w, S w → wpPlanC P ops S Q C rest a w → K' a w) → if Region.wanted o (yielded ops a.tmps) = true then Oper.wp P o a w K' Q else K' (a.put o.dst undef) w) :
    wpPlanC P ops S Q C ((i, false) :: rest) a w := wpOp_step (at_drop ho) (fun K' hK => h K' (fun a w hS hW => hK a w ⟨hS, hW⟩))
theorem seg_done {a : Act} {w : World} (h : C a w) : wpPlanC P ops S Q C [] a w := h
theorem op_run {i : Nat} {o : Oper} {tl : List Oper} {a : Act} {w : World} (ho : ops.toList.drop i = o :: tl)
    (h : ∀ K' : Act → World → Prop, Shut (∀ a w, S w → C a w → K' a w) → if Region.wanted o (yielded ops a.tmps) = true then Oper.wp P o a w K' Q else K' (a.put o.dst undef) w) :
    wpOp P ops Q i (fun a' w' => S w' ∧ C a' w') a w := wpOp_step (at_drop ho) (fun K' hK => h K' (fun a w hS hW => hK a w ⟨hS, hW⟩))

theorem wpAnyH_seg (hs : Region.noSelect ops = true) (hQ : ∀ c (a : Act) (d : Option Tmp) (v : Value) w, Q (.panic c) (a.put d v) w → Q (.panic c) a w) (f : Nat) (l' : Array Bool) :
    ∀ (plan : List (Nat × Bool)) (l : Array Bool) (a : Act) (w : World), (planL ops plan l == some l') = true → S w →
      wpPlanC P ops S Q (fun a w => S w → wpAnyH P .any ops Q S f l' a w) plan a w → wpAnyH P .any ops Q S (f + plan.length) l a w := by
  intro plan
  induction plan with
  | nil =>
    intro l a w hB hS h
    have : l = l' := by simpa [planL] using hB
    subst this
    exact h hS
  | cons p rest ih =>
    obtain ⟨i, b⟩ := p
    intro l a w hB hS h
    rw [List.length_cons, ← Nat.add_assoc]
    cases b with
    | true =>
      by_cases hc : (Region.free .any ops l i && (Region.ready .any ops l).contains i) = true
      · have hB' : (planL ops rest (l.setIfInBounds i true) == some l') = true := by simpa only [planL, if_pos hc] using hB
        rw [Bool.and_eq_true] at hc
        obtain ⟨o, v, ho, hy, hr⟩ := h
        exact wpAnyH_takeX ho hs hc.1 hc.2 (fun c a w => hQ c a _ _ w) hy hS (ih _ _ _ hB' hS hr)
      · simp only [planL, if_neg hc] at hB
        exact absurd hB (by simp)
    | false =>
      by_cases hc : (Region.ready .any ops l == [i]) = true
      · have hB' : (planL ops rest (l.setIfInBounds i true) == some l') = true := by simpa only [planL, if_pos hc] using hB
        refine wpAnyH_all (by simpa using hc) (by simp) (fun j hj => ?_)
        obtain rfl : j = i := by simpa using hj
        exact wpOp_mono (fun a' w' h' => ⟨h'.1, ih _ _ _ hB' h'.1 h'.2⟩) h
      · simp only [planL, if_neg hc] at hB
        exact absurd hB (by simp)

/-- The beginning. -/
theorem wp_region_seg {id : Nat} {a : Act} {w : World} (f : Nat) (l' : Array Bool) (plan : List (Nat × Bool)) (hm : P.follows .mixedOrders = true)
    (hB : (Region.noSelect ops && (f + plan.length == ops.size) && (planL ops plan (Array.replicate ops.size false) == some l')) = true)
    (hQ : ∀ c (a : Act) (d : Option Tmp) (v : Value) w, Q (.panic c) (a.put d v) w → Q (.panic c) a w) (hS : S w.drew)
    (h : wpPlanC P ops S Q (fun a w => S w → wpAnyH P .any ops Q S f l' a w) plan a w.drew) : (Code.region id ops true).wp P Q a w := by
  rw [Bool.and_eq_true, Bool.and_eq_true, beq_iff_eq] at hB
  refine wp_region_held (S := S) hm ?_
  have := wpAnyH_seg hB.1.1 hQ f l' plan _ a w.drew hB.2 hS h
  rw [hB.1.2] at this
  exact this
theorem wpAnyH_two {i j f : Nat} {l : Array Bool} {a : Act} {w : World} (hr : (Region.ready .any ops l == [i, j]) = true)
    (hi : wpOp P ops Q i (fun a' w' => S w' ∧ wpAnyH P .any ops Q S f (l.setIfInBounds i true) a' w') a w)
    (hj : wpOp P ops Q j (fun a' w' => S w' ∧ wpAnyH P .any ops Q S f (l.setIfInBounds j true) a' w') a w) : wpAnyH P .any ops Q S (f + 1) l a w := by
  refine wpAnyH_all (rs := [i, j]) (by simpa using hr) (by simp) (fun k hk => ?_)
  simp only [List.mem_cons, List.not_mem_nil, or_false] at hk
  rcases hk with rfl | rfl
  · exact hi
  · exact hj
theorem wpAnyH_three {i j k f : Nat} {l : Array Bool} {a : Act} {w : World} (hr : (Region.ready .any ops l == [i, j, k]) = true)
    (hi : wpOp P ops Q i (fun a' w' => S w' ∧ wpAnyH P .any ops Q S f (l.setIfInBounds i true) a' w') a w)
    (hj : wpOp P ops Q j (fun a' w' => S w' ∧ wpAnyH P .any ops Q S f (l.setIfInBounds j true) a' w') a w)
    (hk : wpOp P ops Q k (fun a' w' => S w' ∧ wpAnyH P .any ops Q S f (l.setIfInBounds k true) a' w') a w) : wpAnyH P .any ops Q S (f + 1) l a w := by
  refine wpAnyH_all (rs := [i, j, k]) (by simpa using hr) (by simp) (fun m hm => ?_)
  simp only [List.mem_cons, List.not_mem_nil, or_false] at hm
  rcases hm with rfl | rfl | rfl
  · exact hi
  · exact hj
  · exact hk
end
end Go.Proofs.Yteajboafcjeagaa
