/-
  A region whose last operation writes what the region reads: what is read is steady as long as the last one has not come up.
-/
import Derived.Test.YteajboafcjeagaaPlanT
namespace Go.Proofs.Yteajboafcjeagaa
set_option maxRecDepth 20000
open Go.RowKit

section
variable {P : Program} {ops : Array Oper} {Q : Exit → Act → World → Prop} {S : World → Prop} {md : Region.Mode} {z : Nat}

/-- As 'wpAnyH', but behind number z nothing is asked of the world. -/
def wpAnyZ (P : Program) (md : Region.Mode) (ops : Array Oper) (Q : Exit → Act → World → Prop) (S : World → Prop) (z : Nat) : Nat → Array Bool → Act → World → Prop
  | 0, listed, a, w => Region.ready md ops listed = [] ∧ Q .normal a w
  | fuel + 1, listed, a, w =>
    (Region.ready md ops listed = [] → Q .normal a w) ∧
    ∀ i ∈ Region.ready md ops listed, wpOp P ops Q i (fun a' w' => (i ≠ z → S w') ∧ wpAnyZ P md ops Q S z fuel (listed.setIfInBounds i true) a' w') a w

theorem wpAny_of_Z : ∀ (fuel : Nat) (listed : Array Bool) (a : Act) (w : World), wpAnyZ P md ops Q S z fuel listed a w → wpAny P md ops Q fuel listed a w
  | 0, _, _, _, h => h
  | fuel + 1, _, _, _, h => ⟨h.1, fun i hi => wpOp_mono (fun a' w' h' => wpAny_of_Z fuel _ a' w' h'.2) (h.2 i hi)⟩

/-- What was listed, was listed behind what it waits for. -/
def Closed (md : Region.Mode) (ops : Array Oper) (l : Array Bool) : Prop :=
  ∀ k ok, ops[k]? = some ok → l.getD k false = true → ∀ e ∈ ok.after, Region.binds md e = true → l.getD e.on false = true
theorem Closed.set {l : Array Bool} {j : Nat} (h : Closed md ops l) (hj : j ∈ Region.ready md ops l) : Closed md ops (l.setIfInBounds j true) := by
  intro k ok hk hl e he hb
  by_cases hjk : j = k
  · subst hjk
    obtain ⟨_, o, ho, hall⟩ := mem_ready.1 hj
    rw [hk] at ho
    injection ho with ho
    subst ho
    exact getD_set_true (hall e he hb)
  · rw [getD_set_ne false hjk] at hl
    exact getD_set_true (h k ok hk hl e he hb)
/-- Does number k wait for number i, by a chain of at most n? -/
def waitsN (md : Region.Mode) (ops : Array Oper) : Nat → Nat → Nat → Bool
  | 0, _, _ => false
  | n + 1, k, i => ((ops[k]?).map (fun o => o.after.any fun e => Region.binds md e && (e.on == i || waitsN md ops n e.on i))).getD false
theorem waitsN_no {l : Array Bool} {i : Nat} (hcl : Closed md ops l) (hi : l.getD i false = false) : ∀ (n k : Nat), waitsN md ops n k i = true → ∀ ok, ops[k]? = some ok → (∀ e ∈ ok.after, Region.binds md e = true → l.getD e.on false = true) → False := by
  intro n
  induction n with
  | zero => intro k h; simp [waitsN] at h
  | succ n ih =>
    intro k h ok hk hall
    simp only [waitsN, hk, Option.map_some, Option.getD_some, Array.any_eq_true] at h
    obtain ⟨q, hq, hq2⟩ := h
    rw [Bool.and_eq_true, Bool.or_eq_true, beq_iff_eq] at hq2
    have hl := hall _ (Array.getElem_mem hq) hq2.1
    rcases hq2.2 with e | e
    · rw [e, hi] at hl; cases hl
    · cases ho : ops[(ok.after[q]).on]? with
      | none =>
        cases n with
        | zero => simp [waitsN] at e
        | succ n => simp [waitsN, ho] at e
      | some o2 => exact ih _ e o2 ho (fun e2 he2 hb2 => hcl _ o2 ho hl e2 he2 hb2)

theorem wpAnyZ_first {i : Nat} {oi oz : Oper} {v : Value} (hi : ops[i]? = some oi) (hz : ops[z]? = some oz) (hiz : i ≠ z) (N : Nat) (hwait : waitsN md ops N z i = true)
    (hsel : ∀ (j : Nat) (o : Oper) cs b, ops[j]? = some o → o.op ≠ .select cs b)
    (hQ : ∀ c a w, Q (.panic c) (a.put oi.dst v) w → Q (.panic c) a w) :
    ∀ (fuel : Nat) (listed : Array Bool) (a : Act) (w : World),
      (∀ j oj, ops[j]? = some oj → j ≠ i → listed.getD j true = false → (∀ e ∈ oj.after, Region.binds md e = true → e.on ≠ i) → oi.apart ops oj = true) →
      i ∈ Region.ready md ops listed → Closed md ops listed → YieldsX P ops S oi v a → S w →
      wpAnyZ P md ops Q S z fuel (listed.setIfInBounds i true) (a.put oi.dst v) w → wpAnyZ P md ops Q S z (fuel + 1) listed a w := by
  intro fuel
  induction fuel with
  | zero =>
    intro listed a w _ hr hcl hy hS H
    refine ⟨fun h => (by rw [h] at hr; cases hr), fun j hj => ?_⟩
    by_cases hji : j = i
    · subst hji; exact hy.wpOp hi hS ⟨fun _ => hS, H⟩
    · have := ready_mono hj hji
      rw [H.1] at this
      cases this
  | succ fuel ih =>
    intro listed a w hfree hr hcl hy hS H
    refine ⟨fun h => (by rw [h] at hr; cases hr), fun j hj => ?_⟩
    by_cases hji : j = i
    · subst hji; exact hy.wpOp hi hS ⟨fun _ => hS, H⟩
    · have h1 := H.2 j (ready_mono hj hji)
      obtain ⟨hjun, oj, hoj, hall⟩ := mem_ready.1 hj
      have hnot : ∀ e ∈ oj.after, Region.binds md e = true → e.on ≠ i := fun e he hb heq => by
        have h1 := hall e he hb
        have h0 := (mem_ready.1 hr).1
        rw [heq] at h1
        rcases Nat.lt_or_ge i listed.size with h' | h'
        · simp [h'] at h0 h1; rw [h0] at h1; cases h1
        · simp [Array.getElem?_eq_none h'] at h1
      have hjz : j ≠ z := by
        rintro rfl
        have h0 := (mem_ready.1 hr).1
        refine waitsN_no hcl ?_ N j hwait oj hoj hall
        rcases Nat.lt_or_ge i listed.size with h' | h'
        · simp [h'] at h0 ⊢; exact h0
        · simp [Array.getElem?_eq_none h']
      have h2 := wpOp_putX hoj (hfree j oj hoj hji hjun hnot) (fun cs b => hsel i oi cs b hi) (fun cs b => hsel j oj cs b hoj) hQ hy h1
      have hfree' : ∀ k ok, ops[k]? = some ok → k ≠ i → (listed.setIfInBounds j true).getD k true = false →
          (∀ e ∈ ok.after, Region.binds md e = true → e.on ≠ i) → oi.apart ops ok = true := fun k ok hk hki hun hno => by
        refine hfree k ok hk hki ?_ hno
        by_cases hjk : j = k
        · subst hjk; exact hjun
        · rw [getD_set_ne true hjk] at hun; exact hun
      refine wpOp_mono (fun a' w' h3 => ⟨fun _ => h3.2.1 hjz, ih (listed.setIfInBounds j true) a' w' hfree' (ready_mono hr (Ne.symm hji)) (hcl.set hj) h3.1 (h3.2.1 hjz) ?_⟩) h2
      rw [Array.setIfInBounds_comm _ _ hji]
      exact h3.2.2

/-- Does the last one wait for all that is taken? -/
def waitsB (ops : Array Oper) (z : Nat) (plan : List (Nat × Bool)) : Bool :=
  plan.all fun p => p.1 != z && (!p.2 || waitsN .any ops 12 z p.1)

theorem wpAnyZ_seg (hs : Region.noSelect ops = true) (hQ : ∀ c (a : Act) (d : Option Tmp) (v : Value) w, Q (.panic c) (a.put d v) w → Q (.panic c) a w) (l' : Array Bool) (hz : (Region.ready .any ops l' == [z]) = true) (hz2 : (Region.ready .any ops (l'.setIfInBounds z true)).isEmpty = true) :
    ∀ (plan : List (Nat × Bool)) (l : Array Bool) (a : Act) (w : World), (planL ops plan l == some l') = true → waitsB ops z plan = true → Closed .any ops l → S w →
      wpPlanC P ops S Q (fun a w => wpOp P ops Q z (fun a' w' => Q .normal a' w') a w) plan a w → wpAnyZ P .any ops Q S z (1 + plan.length) l a w := by
  intro plan
  induction plan with
  | nil =>
    intro l a w hB _ _ hS h
    have : l = l' := by simpa [planL] using hB
    subst this
    have hr : Region.ready .any ops l = [z] := by simpa using hz
    refine ⟨fun h0 => absurd (hr ▸ h0) (by simp), fun i hi => ?_⟩
    rw [hr] at hi
    obtain rfl : i = z := by simpa using hi
    exact wpOp_mono (fun a' w' h' => ⟨fun h => absurd rfl h, by simpa using hz2, h'⟩) h
  | cons p rest ih =>
    obtain ⟨i, b⟩ := p
    intro l a w hB hW hcl hS h
    rw [List.length_cons, ← Nat.add_assoc]
    simp only [waitsB, List.all_cons, Bool.and_eq_true] at hW
    have hW2 : waitsB ops z rest = true := by simpa only [waitsB] using hW.2
    cases b with
    | true =>
      by_cases hc : (Region.free .any ops l i && (Region.ready .any ops l).contains i) = true
      · have hB' : (planL ops rest (l.setIfInBounds i true) == some l') = true := by simpa only [planL, if_pos hc] using hB
        rw [Bool.and_eq_true] at hc
        obtain ⟨o, v, ho, hy, hr⟩ := h
        have hiz : i ≠ z := by simpa using hW.1.1
        have hw := hW.1.2
        simp only [Bool.not_true, Bool.false_or] at hw
        cases hoz : ops[z]? with
        | none => rw [waitsN, hoz] at hw; simp at hw
        | some oz =>
          have hrd : i ∈ Region.ready .any ops l := by simpa using hc.2
          exact wpAnyZ_first ho hoz hiz 12 hw (Region.noSelect_spec hs) (fun c a w => hQ c a _ _ w) _ _ _ _ (Region.free_spec ho hc.1) hrd hcl hy hS (ih _ _ _ hB' hW2 (hcl.set hrd) hS hr)
      · simp only [planL, if_neg hc] at hB
        exact absurd hB (by simp)
    | false =>
      by_cases hc : (Region.ready .any ops l == [i]) = true
      · have hB' : (planL ops rest (l.setIfInBounds i true) == some l') = true := by simpa only [planL, if_pos hc] using hB
        have hr : Region.ready .any ops l = [i] := by simpa using hc
        refine ⟨fun h0 => absurd (hr ▸ h0) (by simp), fun j hj => ?_⟩
        rw [hr] at hj
        obtain rfl : j = i := by simpa using hj
        exact wpOp_mono (fun a' w' h' => ⟨fun _ => h'.1, ih _ _ _ hB' hW2 (hcl.set (by rw [hr]; simp)) h'.1 h'.2⟩) h
      · simp only [planL, if_neg hc] at hB
        exact absurd hB (by simp)

/-- The beginning: all but the last by plan, then the last. -/
theorem wp_region_last {id : Nat} {a : Act} {w : World} (z : Nat) (l' : Array Bool) (plan : List (Nat × Bool)) (hm : P.follows .mixedOrders = true)
    (hB : (Region.noSelect ops && (1 + plan.length == ops.size) && (planL ops plan (Array.replicate ops.size false) == some l') && (Region.ready .any ops l' == [z]) && (Region.ready .any ops (l'.setIfInBounds z true)).isEmpty && waitsB ops z plan) = true)
    (hQ : ∀ c (a : Act) (d : Option Tmp) (v : Value) w, Q (.panic c) (a.put d v) w → Q (.panic c) a w) (hS : S w.drew)
    (h : wpPlanC P ops S Q (fun a w => wpOp P ops Q z (fun a' w' => Q .normal a' w') a w) plan a w.drew) : (Code.region id ops true).wp P Q a w := by
  simp only [Bool.and_eq_true] at hB
  obtain ⟨⟨⟨⟨⟨h1, h2⟩, h3⟩, h4⟩, h5⟩, h6⟩ := hB
  have := wpAnyZ_seg (S := S) h1 hQ l' h4 h5 plan _ a w.drew h3 h6 (fun k ok _ hl => by simp [Array.getD] at hl) hS h
  rw [beq_iff_eq.1 h2] at this
  exact wp_region_any hm (wpAny_of_Z _ _ _ _ this)
theorem last_run {o : Oper} {tl : List Oper} {a : Act} {w : World} {C : Act → World → Prop} (ho : ops.toList.drop z = o :: tl)
    (h : ∀ K' : Act → World → Prop, Shut (∀ a w, C a w → K' a w) → if Region.wanted o (yielded ops a.tmps) = true then Oper.wp P o a w K' Q else K' (a.put o.dst undef) w) :
    wpOp P ops Q z C a w := wpOp_step (at_drop ho) (fun K' hK => h K' (fun a w hW => hK a w hW))
end
end Go.Proofs.Yteajboafcjeagaa
