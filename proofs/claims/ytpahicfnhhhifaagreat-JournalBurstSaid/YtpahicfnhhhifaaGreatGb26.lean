/-
 Proved here, for the statement JournalBurst:
 A region in which what is read is steady as long as number z has not come up (a 
 Layer 14: what the heads of the laws come to (plain).
-/
import Derived.Test.YtpahicfnhhhifaaGreatGb20
set_option linter.unusedVariables false
set_option linter.unusedSimpArgs false
namespace Go.Proofs.YtpahicfnhhhifaaGreat
set_option maxRecDepth 20000
open Go.RowKit
section
variable {P : Program} {ops : Array Oper} {Q : Exit → Act → World → Prop} {S : World → Prop} {md : Region.Mode} {z : Nat}
def wpAnyY (P : Program) (md : Region.Mode) (ops : Array Oper) (Q : Exit → Act → World → Prop) (S : World → Prop) (z : Nat) : Nat → Array Bool → Act → World → Prop
 | 0, listed, a, w => Region.ready md ops listed = [] ∧ Q .normal a w
 | fuel + 1, listed, a, w =>
  (Region.ready md ops listed = [] → Q .normal a w) ∧
  ∀ i ∈ Region.ready md ops listed, wpOp P ops Q i (fun a' w' => ((listed.setIfInBounds i true).getD z false = false → S w') ∧ wpAnyY P md ops Q S z fuel (listed.setIfInBounds i true) a' w') a w
theorem wpAny_of_Y : ∀ (fuel : Nat) (listed : Array Bool) (a : Act) (w : World), wpAnyY P md ops Q S z fuel listed a w → wpAny P md ops Q fuel listed a w
 | 0, _, _, _, h => h
 | fuel + 1, _, _, _, h => ⟨h.1, fun i hi => wpOp_mono (fun a' w' h' => wpAny_of_Y fuel _ a' w' h'.2) (h.2 i hi)⟩
theorem getF_set_ne {l : Array Bool} {i j : Nat} (h : i ≠ j) : (l.setIfInBounds i true).getD j false = l.getD j false := getD_set_ne false h
theorem wpAnyY_first {i : Nat} {oi oz : Oper} {v : Value} (hi : ops[i]? = some oi) (hz : ops[z]? = some oz) (hiz : i ≠ z) (N : Nat) (hwait : waitsN md ops N z i = true)
  (hsel : ∀ (j : Nat) (o : Oper) cs b, ops[j]? = some o → o.op ≠ .select cs b)
  (hQ : ∀ c a w, Q (.panic c) (a.put oi.dst v) w → Q (.panic c) a w) :
  ∀ (fuel : Nat) (listed : Array Bool) (a : Act) (w : World),
   (∀ j oj, ops[j]? = some oj → j ≠ i → listed.getD j true = false → (∀ e ∈ oj.after, Region.binds md e = true → e.on ≠ i) → oi.apart ops oj = true) →
   i ∈ Region.ready md ops listed → Closed md ops listed → YieldsX P ops S oi v a → S w →
   wpAnyY P md ops Q S z fuel (listed.setIfInBounds i true) (a.put oi.dst v) w → wpAnyY P md ops Q S z (fuel + 1) listed a w := by
 have unl : ∀ {listed : Array Bool}, i ∈ Region.ready md ops listed → listed.getD i false = false := fun {listed} hr => by
  have h0 := (mem_ready.1 hr).1
  rcases Nat.lt_or_ge i listed.size with h' | h'
  ·simp [h'] at h0 ⊢; exact h0
  ·simp [Array.getElem?_eq_none h']
 have nz : ∀ {listed : Array Bool}, i ∈ Region.ready md ops listed → Closed md ops listed → listed.getD z false = false := fun {listed} hr hcl => by
  cases hb : listed.getD z false with
  | false => rfl
  | true => exact (waitsN_no hcl (unl hr) N z hwait oz hz (hcl z oz hz hb)).elim
 intro fuel
 induction fuel with
 | zero =>
  intro listed a w _ hr hcl hy hS H
  refine ⟨fun h => (by rw [h] at hr; cases hr), fun j hj => ?_⟩
  by_cases hji : j = i
  ·subst hji; exact hy.wpOp hi hS ⟨fun _ => hS, H⟩
  ·have := ready_mono hj hji
   rw [H.1] at this
   cases this
 | succ fuel ih =>
  intro listed a w hfree hr hcl hy hS H
  refine ⟨fun h => (by rw [h] at hr; cases hr), fun j hj => ?_⟩
  by_cases hji : j = i
  ·subst hji; exact hy.wpOp hi hS ⟨fun _ => hS, H⟩
  ·have h1 := H.2 j (ready_mono hj hji)
   obtain ⟨hjun, oj, hoj, hall⟩ := mem_ready.1 hj
   have hnot : ∀ e ∈ oj.after, Region.binds md e = true → e.on ≠ i := fun e he hb heq => by
    have h1 := hall e he hb
    have h0 := (mem_ready.1 hr).1
    rw [heq] at h1
    rcases Nat.lt_or_ge i listed.size with h' | h'
    ·simp [h'] at h0 h1; rw [h0] at h1; cases h1
    ·simp [Array.getElem?_eq_none h'] at h1
   have hjz : j ≠ z := by
    rintro rfl
    exact waitsN_no hcl (unl hr) N j hwait oj hoj hall
   have hzl := nz hr hcl
   have hS2 : ((listed.setIfInBounds i true).setIfInBounds j true).getD z false = false := by rw [getF_set_ne hjz, getF_set_ne hiz]; exact hzl
   have hS3 : (listed.setIfInBounds j true).getD z false = false := by rw [getF_set_ne hjz]; exact hzl
   have h2 := wpOp_putX hoj (hfree j oj hoj hji hjun hnot) (fun cs b => hsel i oi cs b hi) (fun cs b => hsel j oj cs b hoj) hQ hy h1
   have hfree' : ∀ k ok, ops[k]? = some ok → k ≠ i → (listed.setIfInBounds j true).getD k true = false →
     (∀ e ∈ ok.after, Region.binds md e = true → e.on ≠ i) → oi.apart ops ok = true := fun k ok hk hki hun hno => by
    refine hfree k ok hk hki ?_ hno
    by_cases hjk : j = k
    ·subst hjk; exact hjun
    ·rw [getD_set_ne true hjk] at hun; exact hun
   refine wpOp_mono (fun a' w' h3 => ⟨fun _ => h3.2.1 hS2, ih (listed.setIfInBounds j true) a' w' hfree' (ready_mono hr (Ne.symm hji)) (hcl.set hj) h3.1 (h3.2.1 hS2) ?_⟩) h2
   rw [Array.setIfInBounds_comm _ _ hji]
   exact h3.2.2
def moveB (ops : Array Oper) (i : Nat) : Bool := ((ops[i]?).map (fun o => match o.op with | .move _ | .assign _ | .extract _ _ => true | _ => false)).getD false
theorem blind {o : Oper} (h : (match o.op with | .move _ | .assign _ | .extract _ _ => true | _ => false) = true) (a : Act) : (∃ v, ∀ w : World, (execOp a.eval o).run P w = .ok (.value v) w) ∨ ∃ e : Halt, ∀ w : World, (execOp a.eval o).run P w = .halt e w := by
 cases ho : o.op <;> rw [ho] at h <;> first | cases h | skip
 ·exact .inl ⟨_, fun w => by simp only [execOp, ho, Sem.run_pure]; rfl⟩
 ·exact .inl ⟨_, fun w => by simp only [execOp, ho, Sem.run_pure]; rfl⟩
 ·rename_i t ix
  simp only [execOp, ho]
  generalize a.eval t = u
  unfold Instr.extract
  split
  ·split
   ·exact .inl ⟨_, fun w => by simp [Sem.run_bind, Sem.run_pure]; rfl⟩
   ·exact .inr ⟨_, fun w => by simp [Sem.run_bind, go_sem]; rfl⟩
  ·exact .inr ⟨_, fun w => by simp [Sem.run_bind, go_sem]; rfl⟩
theorem moved {i : Nat} {o : Oper} (hi : ops[i]? = some o) (hm : moveB ops i = true) {v : Value} {a : Act} {w : World} (hS : S w) (hy : YieldsX P ops S o v a) : YieldsX P ops (fun _ => True) o v a := by
 unfold moveB at hm
 rw [hi] at hm
 simp only [Option.map_some, Option.getD_some] at hm
 rcases hy with (⟨h1, h2⟩ | h) | ⟨h1, f, args, h2⟩
 ·rcases blind (P := P) hm a with ⟨v', hv⟩ | ⟨e, he⟩
  ·have := h2 w hS
   rw [hv w] at this
   injection this with this
   injection this with this
   subst this
   exact .inl (.inl ⟨h1, fun w' _ => hv w'⟩)
  ·have := h2 w hS
   rw [he w] at this
   cases this
 ·exact .inl (.inr h)
 ·exfalso
  have := (h2 w hS).1
  rcases blind (P := P) hm a with ⟨v', hv⟩ | ⟨e, he⟩
  ·rw [hv w] at this
   injection this with this
   cases this
  ·rw [he w] at this
   cases this
theorem wpAnyY_firstT {i : Nat} {oi : Oper} {v : Value} (hi : ops[i]? = some oi) (hiz : i ≠ z)
  (hsel : ∀ (j : Nat) (o : Oper) cs b, ops[j]? = some o → o.op ≠ .select cs b)
  (hQ : ∀ c a w, Q (.panic c) (a.put oi.dst v) w → Q (.panic c) a w) :
  ∀ (fuel : Nat) (listed : Array Bool) (a : Act) (w : World),
   (∀ j oj, ops[j]? = some oj → j ≠ i → listed.getD j true = false → (∀ e ∈ oj.after, Region.binds md e = true → e.on ≠ i) → oi.apart ops oj = true) →
   i ∈ Region.ready md ops listed → YieldsX P ops (fun _ => True) oi v a → (listed.getD z false = false → S w) →
   wpAnyY P md ops Q S z fuel (listed.setIfInBounds i true) (a.put oi.dst v) w → wpAnyY P md ops Q S z (fuel + 1) listed a w := by
 intro fuel
 induction fuel with
 | zero =>
  intro listed a w _ hr hy hS H
  refine ⟨fun h => (by rw [h] at hr; cases hr), fun j hj => ?_⟩
  by_cases hji : j = i
  ·subst hji; exact hy.wpOp hi trivial ⟨fun h => hS (by rw [getF_set_ne hiz] at h; exact h), H⟩
  ·have := ready_mono hj hji
   rw [H.1] at this
   cases this
 | succ fuel ih =>
  intro listed a w hfree hr hy hS H
  refine ⟨fun h => (by rw [h] at hr; cases hr), fun j hj => ?_⟩
  by_cases hji : j = i
  ·subst hji; exact hy.wpOp hi trivial ⟨fun h => hS (by rw [getF_set_ne hiz] at h; exact h), H⟩
  ·have h1 := H.2 j (ready_mono hj hji)
   obtain ⟨hjun, oj, hoj, hall⟩ := mem_ready.1 hj
   have hnot : ∀ e ∈ oj.after, Region.binds md e = true → e.on ≠ i := fun e he hb heq => by
    have h1 := hall e he hb
    have h0 := (mem_ready.1 hr).1
    rw [heq] at h1
    rcases Nat.lt_or_ge i listed.size with h' | h'
    ·simp [h'] at h0 h1; rw [h0] at h1; cases h1
    ·simp [Array.getElem?_eq_none h'] at h1
   have e1 : ((listed.setIfInBounds i true).setIfInBounds j true).getD z false = (listed.setIfInBounds j true).getD z false := by rw [Array.setIfInBounds_comm _ _ (Ne.symm hji), getF_set_ne hiz]
   have h2 := wpOp_putX hoj (hfree j oj hoj hji hjun hnot) (fun cs b => hsel i oi cs b hi) (fun cs b => hsel j oj cs b hoj) hQ hy h1
   have hfree' : ∀ k ok, ops[k]? = some ok → k ≠ i → (listed.setIfInBounds j true).getD k true = false →
     (∀ e ∈ ok.after, Region.binds md e = true → e.on ≠ i) → oi.apart ops ok = true := fun k ok hk hki hun hno => by
    refine hfree k ok hk hki ?_ hno
    by_cases hjk : j = k
    ·subst hjk; exact hjun
    ·rw [getD_set_ne true hjk] at hun; exact hun
   refine wpOp_mono (fun a' w' h3 => ⟨fun h => h3.2.1 (e1.trans h), ih (listed.setIfInBounds j true) a' w' hfree' (ready_mono hr (Ne.symm hji)) h3.1 (fun h => h3.2.1 (e1.trans h)) ?_⟩) h2
   rw [Array.setIfInBounds_comm _ _ hji]
   exact h3.2.2
def waitsY (ops : Array Oper) (z : Nat) (plan : List (Nat × Bool)) : Bool :=
 plan.all fun p => p.1 != z && (!p.2 || (waitsN .any ops 12 z p.1 || moveB ops p.1))
def closedB (ops : Array Oper) (l : Array Bool) : Bool := (List.range ops.size).all fun k => !(l.getD k false) || ((ops[k]?).map (fun o => o.after.all fun e => !(Region.binds .any e) || l.getD e.on false)).getD true
theorem closed_of {l : Array Bool} (h : closedB ops l = true) : Closed .any ops l := by
 intro k ok hk hl e he hb
 have hk' : k < ops.size := (Array.getElem?_eq_some_iff.1 hk).1
 have h1 := List.all_eq_true.1 h k (List.mem_range.2 hk')
 rw [hl, hk] at h1
 simp only [Bool.not_true, Bool.false_or, Option.map_some, Option.getD_some] at h1
 have h2 := Array.all_eq_true_iff_forall_mem.1 h1 e he
 rw [hb] at h2
 simpa using h2
theorem wpAnyY_seg (hs : Region.noSelect ops = true) (hQ : ∀ c (a : Act) (d : Option Tmp) (v : Value) w, Q (.panic c) (a.put d v) w → Q (.panic c) a w) (f : Nat) (l' : Array Bool) :
  ∀ (plan : List (Nat × Bool)) (l : Array Bool) (a : Act) (w : World), (planL ops plan l == some l' && waitsY ops z plan) = true → Closed .any ops l → S w →
   wpPlanC P ops S Q (fun a w => S w → wpAnyY P .any ops Q S z f l' a w) plan a w → wpAnyY P .any ops Q S z (f + plan.length) l a w := by
 intro plan
 induction plan with
 | nil =>
  intro l a w hB _ hS h
  rw [Bool.and_eq_true] at hB
  have : l = l' := by simpa [planL] using hB.1
  subst this
  exact h hS
 | cons p rest ih =>
  obtain ⟨i, b⟩ := p
  intro l a w hB hcl hS h
  rw [List.length_cons, ← Nat.add_assoc]
  rw [Bool.and_eq_true] at hB
  obtain ⟨hB, hW⟩ := hB
  simp only [waitsY, List.all_cons, Bool.and_eq_true] at hW
  have hW2 : waitsY ops z rest = true := by simpa only [waitsY] using hW.2
  cases b with
  | true =>
   by_cases hc : (Region.free .any ops l i && (Region.ready .any ops l).contains i) = true
   ·have hB' : (planL ops rest (l.setIfInBounds i true) == some l') = true := by simpa only [planL, if_pos hc] using hB
    rw [Bool.and_eq_true] at hc
    obtain ⟨o, v, ho, hy, hr⟩ := h
    have hiz : i ≠ z := by simpa using hW.1.1
    have hw := hW.1.2
    simp only [Bool.not_true, Bool.false_or, Bool.or_eq_true] at hw
    have hrd : i ∈ Region.ready .any ops l := by simpa using hc.2
    rcases hw with hw | hw
    case inr => exact wpAnyY_firstT ho hiz (Region.noSelect_spec hs) (fun c a w => hQ c a _ _ w) _ _ _ _ (Region.free_spec ho hc.1) hrd (moved ho hw hS hy) (fun _ => hS) (ih _ _ _ (by rw [hB', hW2]; rfl) (hcl.set hrd) hS hr)
    cases hoz : ops[z]? with
    | none => rw [waitsN, hoz] at hw; simp at hw
    | some oz =>
     exact wpAnyY_first ho hoz hiz 12 hw (Region.noSelect_spec hs) (fun c a w => hQ c a _ _ w) _ _ _ _ (Region.free_spec ho hc.1) hrd hcl hy hS (ih _ _ _ (by rw [hB', hW2]; rfl) (hcl.set hrd) hS hr)
   ·simp only [planL, if_neg hc] at hB
    exact absurd hB (by simp)
  | false =>
   by_cases hc : (Region.ready .any ops l == [i]) = true
   ·have hB' : (planL ops rest (l.setIfInBounds i true) == some l') = true := by simpa only [planL, if_pos hc] using hB
    have hr : Region.ready .any ops l = [i] := by simpa using hc
    refine ⟨fun h0 => absurd (hr ▸ h0) (by simp), fun j hj => ?_⟩
    rw [hr] at hj
    obtain rfl : j = i := by simpa using hj
    exact wpOp_mono (fun a' w' h' => ⟨fun _ => h'.1, ih _ _ _ (by rw [hB', hW2]; rfl) (hcl.set (by rw [hr]; simp)) h'.1 h'.2⟩) h
   ·simp only [planL, if_neg hc] at hB
    exact absurd hB (by simp)
theorem wpAnyY_seg' (hs : Region.noSelect ops = true) (hQ : ∀ c (a : Act) (d : Option Tmp) (v : Value) w, Q (.panic c) (a.put d v) w → Q (.panic c) a w) (f : Nat) (l' : Array Bool)
  (plan : List (Nat × Bool)) (l : Array Bool) (a : Act) (w : World) (hB : (planL ops plan l == some l' && waitsY ops z plan) = true) (hC : closedB ops l = true) (hS : S w)
   (h : wpPlanC P ops S Q (fun a w => S w → wpAnyY P .any ops Q S z f l' a w) plan a w) : wpAnyY P .any ops Q S z (f + plan.length) l a w := wpAnyY_seg hs hQ f l' plan l a w hB (closed_of hC) hS h
theorem wpAnyY_alt {rs : List Nat} {f : Nat} {l : Array Bool} {a : Act} {w : World} (hr : (Region.ready .any ops l == rs) = true) (hne : rs ≠ []) (h : ∀ i ∈ rs, wpOp P ops Q i (fun a' w' => S w' ∧ wpAnyY P .any ops Q S z f (l.setIfInBounds i true) a' w') a w) : wpAnyY P .any ops Q S z (f + 1) l a w := by
 have hr' : Region.ready .any ops l = rs := by simpa using hr
 exact ⟨fun h0 => absurd (hr' ▸ h0) hne, fun i hi => wpOp_mono (fun a' w' h' => ⟨fun _ => h'.1, h'.2⟩) (h i (hr' ▸ hi))⟩
theorem wpAnyY_two {i j f : Nat} {l : Array Bool} {a : Act} {w : World} (hr : (Region.ready .any ops l == [i, j]) = true)
  (hi : wpOp P ops Q i (fun a' w' => S w' ∧ wpAnyY P .any ops Q S z f (l.setIfInBounds i true) a' w') a w)
  (hj : wpOp P ops Q j (fun a' w' => S w' ∧ wpAnyY P .any ops Q S z f (l.setIfInBounds j true) a' w') a w) : wpAnyY P .any ops Q S z (f + 1) l a w :=
 wpAnyY_alt hr (by simp) (fun k hk => by
  simp only [List.mem_cons, List.not_mem_nil, or_false] at hk
  rcases hk with rfl | rfl
  ·exact hi
  ·exact hj)
theorem wpAnyY_free : ∀ (f : Nat) (l : Array Bool) (a : Act) (w : World), l.getD z false = true → wpAnyH P .any ops Q (fun _ => True) f l a w → wpAnyY P .any ops Q S z f l a w
 | 0, _, _, _, _, h => h
 | f + 1, l, a, w, hz, h => ⟨h.1, fun i hi => wpOp_mono (fun a' w' h' => by
   have e : (l.setIfInBounds i true).getD z false = true := getD_set_true hz
   exact ⟨fun h0 => (by rw [e] at h0; cases h0), wpAnyY_free f _ a' w' e h'.2⟩) (h.2 i hi)⟩
theorem wpAnyY_gate {f : Nat} {l : Array Bool} {a : Act} {w : World} (hr : (Region.ready .any ops l == [z] && (l.setIfInBounds z true).getD z false) = true)
  (h : wpOp P ops Q z (fun a' w' => True ∧ wpAnyH P .any ops Q (fun _ => True) f (l.setIfInBounds z true) a' w') a w) : wpAnyY P .any ops Q S z (f + 1) l a w := by
 rw [Bool.and_eq_true] at hr
 have hr' : Region.ready .any ops l = [z] := by simpa using hr.1
 refine ⟨fun h0 => absurd (hr' ▸ h0) (by simp), fun i hi => ?_⟩
 rw [hr'] at hi
 obtain rfl : i = z := by simpa using hi
 exact wpOp_mono (fun a' w' h' => ⟨fun h0 => (by rw [hr.2] at h0; cases h0), wpAnyY_free f _ a' w' hr.2 h'.2⟩) h
theorem wp_region_segY {id : Nat} {a : Act} {w : World} (z : Nat) (f : Nat) (l' : Array Bool) (plan : List (Nat × Bool)) (hm : P.follows .mixedOrders = true)
  (hB : (Region.noSelect ops && (f + plan.length == ops.size) && (planL ops plan (Array.replicate ops.size false) == some l') && waitsY ops z plan) = true)
  (hQ : ∀ c (a : Act) (d : Option Tmp) (v : Value) w, Q (.panic c) (a.put d v) w → Q (.panic c) a w) (hS : S w.drew)
  (h : wpPlanC P ops S Q (fun a w => S w → wpAnyY P .any ops Q S z f l' a w) plan a w.drew) : (Code.region id ops true).wp P Q a w := by
 simp only [Bool.and_eq_true] at hB
 obtain ⟨⟨⟨h1, h2⟩, h3⟩, h4⟩ := hB
 have := wpAnyY_seg (S := S) (z := z) h1 hQ f l' plan _ a w.drew (by rw [h3, h4]; rfl) (fun k ok _ hl => by simp [Array.getD] at hl) hS h
 rw [beq_iff_eq.1 h2] at this
 exact wp_region_any hm (wpAny_of_Y _ _ _ _ this)
end
end Go.Proofs.YtpahicfnhhhifaaGreat
namespace Go.Proofs.YtpahicfnhhhifaaGreat
set_option maxRecDepth 20000
set_option maxHeartbeats 1000000
def hjS : List UInt8 := [115, 116, 97, 116, 101]
def hjT : List UInt8 := [116, 119, 111]
def hjB : List UInt8 := jnBase hjS
def hjR : Rc := rcMk hjB ⟨1, 0, 9, 3, 1, 5, [], List.replicate 32 0⟩
def hjb : List UInt8 := rcPutL hjR
def hj0 : Jn := ⟨1, 0, 0, 0, 0, hjB, [], 0, [], 0, suZ, 2, 0⟩
def hj1 : Jn := ⟨1, 0, 1, 0, 0, hjR.D, [(98, hjb)], 0, [], 0, suZ, 2, 0⟩
def hj2 : Jn := ⟨1, 0, 1, 0, 1, hjR.D, [], 1, [], 1, suZ, 2, 0⟩
def hj3 : Jn := ⟨1, 0, 1, 0, 1, hjR.D, [], 1, [], 0, suZ, 2, 0⟩
def hj4 : Jn := ⟨1, 0, 1, 0, 1, hjR.D, [], 2, [], 1, suZ, 2, 0⟩
def hj5 : Jn := ⟨1, 0, 1, 1, 1, hjR.D, [], 0, [], 0, suZ, 2, 0⟩
def hjW : Jn := jnSaved hj5 hjT
def hjD : Dk := jnFmt hjS 100
def hjD2 : Dk := dkWrite hjD 98 hjb
theorem hjS_len : hjS.length = 5 := rfl
theorem hjB_len : hjB.length = 32 := shOf_len _
theorem hjR_ok : hjR.ok := rcMk_ok _ _ ⟨by decide, by decide, by decide, by decide, ⟨by decide, by decide⟩, by decide, rfl⟩
theorem hjR_chk : hjR.chk = true := by rfl
theorem hjb_len : hjb.length = 256 := by unfold hjb rcPutL; rw [if_pos hjR_chk]; exact rcL_len _ (by show (0 : Nat) ≤ 186; omega) (shLink_len _ _)
theorem hj_begin : jnBeginE 0 2 = 0 ∧ jnBegin 1 0 hjB 2 = hj0 := ⟨by decide, by unfold jnBegin; rw [if_pos (by decide)]; rfl⟩
theorem hj0_chk : jnChk hj0 = true := by unfold jnChk jnCnt jbOk hj0; decide
theorem hj1_chk : jnChk hj1 = true := by unfold jnChk jnCnt jbOk hj1 jb1; simp [hjb_len]; decide
theorem hj2_chk : jnChk hj2 = true := by unfold jnChk jnCnt jbOk hj2; decide
theorem hj3_chk : jnChk hj3 = true := by unfold jnChk jnCnt jbOk hj3; decide
theorem hj4_chk : jnChk hj4 = true := by unfold jnChk jnCnt jbOk hj4; decide
theorem hj5_chk : jnChk hj5 = true := by unfold jnChk jnCnt jbOk hj5; decide
theorem hj_app : jnAppE hj0 1 5 0 = 0 ∧ jnApp hj0 9 3 1 5 [] = hj1 := by
 have e : jnAppE hj0 1 5 0 = 0 := by
  unfold jnAppE jnGoing
  rw [hj0_chk]
  simp [hj0, rcChk]
 refine ⟨e, ?_⟩
 unfold jnApp
 rw [show ([] : List UInt8).length = 0 from rfl, if_pos e]
 rfl
theorem hj_ask1 : jnAsk hj1 = (hj2, (98, hjb), false, true) := by
 unfold jnAsk
 rw [if_neg (by simp [hj1_chk])]
 rfl
theorem hj_ask2 : jnAsk hj2 = (hj2, (0, []), false, false) := by
 unfold jnAsk
 rw [if_neg (by simp [hj2_chk])]
 rfl
theorem hj_came2 : jnCameE hj2 = 0 ∧ jnCame hj2 true = hj3 := by
 have e : jnCameE hj2 = 0 := by unfold jnCameE; rw [if_neg (by simp [hj2_chk]), if_neg (by simp [hj2])]
 refine ⟨e, ?_⟩
 unfold jnCame
 rw [if_pos e]
 rfl
theorem hj_ask3 : jnAsk hj3 = (hj4, (0, []), true, true) := by
 unfold jnAsk
 rw [if_neg (by simp [hj3_chk])]
 rfl
theorem hj_came4 : jnCameE hj4 = 0 ∧ jnCame hj4 true = hj5 := by
 have e : jnCameE hj4 = 0 := by unfold jnCameE; rw [if_neg (by simp [hj4_chk]), if_neg (by simp [hj4])]
 refine ⟨e, ?_⟩
 unfold jnCame
 rw [if_pos e]
 rfl
theorem hj_save5 : jnSaveE hj5 hjT = 0 ∧ jnSave hj5 hjT = hjW := by
 have e : jnSaveE hj5 hjT = 0 := by
  unfold jnSaveE jnGoing
  rw [hj5_chk]
  simp [hj5, hjT]
 exact ⟨e, by unfold jnSave; rw [if_pos e]; rfl⟩
theorem hjW_eq : hjW = ⟨2, 1, 0, 0, 0, jnBase hjT, [], 3, [(50, jnSec hjT 0)], 0, ⟨2, 1, 3, jnBase hjT⟩, 2, 0⟩ := by rfl
theorem hjW_chk : jnChk hjW = true := by rw [hjW_eq]; unfold jnChk jnCnt jbOk jb1; simp [jnSec_len]; decide
theorem hj_saveW : jnSaveE hjW [] = 8 := by
 unfold jnSaveE jnGoing
 rw [hjW_chk]
 simp [hjW, jnSaved, hj5]
theorem hjD_all : jnFmtE hjS 100 = 0 ∧ dkOk hjD = true ∧ hjD.s.length = 100 ∧ hjD.k = [] ∧
  ∀ i : Nat, i < 100 → dkRead hjD (i : Int) = if i = 1 then suPutL 1 0 5 hjB else if 2 ≤ i ∧ i < 3 then jnSec hjS (i - 2) else List.replicate 256 0 := by
 have h := jnFmt_ok hjS 100 (by omega) (by decide)
 rw [show jnFmt hjS ((100 : Nat) : Int) = hjD from rfl, show ((hjS.length : Nat) : Int) = 5 from rfl, show jnBase hjS = hjB from rfl, show (hjS.length + 255) / 256 = 1 from rfl] at h
 exact h
theorem hjD2_all : dkWriteE hjD 98 hjb = 0 ∧ dkOk hjD2 = true ∧ hjD2.s.length = 100 ∧
  ∀ i : Nat, i < 100 → dkRead hjD2 (i : Int) = if i = 98 then hjb else if i = 1 then suPutL 1 0 5 hjB else if i = 2 then jnSec hjS 0 else List.replicate 256 0 := by
 obtain ⟨h1, h2, h3, h4, h5⟩ := hjD_all
 obtain ⟨e1, e2, e3⟩ := dkWrite_in hjD h2 98 (by omega) hjb hjb_len (by rw [h4]; simp)
 refine ⟨e1, e3, by rw [show hjD2 = _ from e2]; exact h3, fun i hi => ?_⟩
 have := dkRead_write hjD h2 98 (by omega) hjb hjb_len (by rw [h4]; simp) i (by omega)
 rw [show dkRead hjD2 (i : Int) = _ from this]
 by_cases h : i = 98
 ·rw [if_pos h.symm, if_pos h]
 ·rw [if_neg (fun e => h e.symm), if_neg h, h5 i hi]
  by_cases h1 : i = 1
  ·rw [if_pos h1, if_pos h1]
  ·rw [if_neg h1, if_neg h1]
   by_cases h2 : i = 2
   ·subst h2; rfl
   ·rw [if_neg (by omega), if_neg h2]
theorem hj_load : jnLoadE hjD2 = 0 ∧ jnLoadS hjD2 = ⟨1, 0, 5, hjB⟩ ∧ jnHad hjD2 (jnLoadS hjD2) = hjS ∧ jnLoadR hjD2 = [hjR] := by
 obtain ⟨h1, h2, h3, h4⟩ := hjD2_all
 have r0 : dkRead hjD2 0 = List.replicate 256 0 := h4 0 (by omega)
 have r1 : dkRead hjD2 1 = suPutL 1 0 5 hjB := h4 1 (by omega)
 have g0 : suGood (List.replicate 256 0) 0 = false := suGood_zeros 0
 have g1 : suGood (suPutL 1 0 5 hjB) 1 = true := by rw [suGood_put 1 0 5 hjB (by omega) (by decide) hjB_len]; rfl
 have eS : jnLoadS hjD2 = ⟨1, 0, 5, hjB⟩ := by
  unfold jnLoadS suCh
  rw [r0, r1, g0, g1, if_neg (by simp), if_pos rfl]
  exact (suGet_put 1 0 5 hjB (by omega) (by decide) hjB_len).2
 have eH : jnHad hjD2 (jnLoadS hjD2) = hjS := by
  refine jnHad_of hjD2 hjS _ (by rw [eS]; rfl) (fun i hi => ?_)
  rw [eS]
  obtain rfl : i = 0 := by rw [hjS_len] at hi; omega
  exact h4 2 (by omega)
 have eE : jnLoadE hjD2 = 0 := by
  unfold jnLoadE
  have e1 : suChE (List.replicate 256 0) (suPutL 1 0 5 hjB) = 0 := by unfold suChE; rw [if_pos (.inr g1)]
  rw [if_neg (by simp [h2]), if_neg (by omega), r0, r1, e1, if_neg (by simp), eH, eS, if_neg (by show ¬ jnBase hjS ≠ hjB; exact fun h => h rfl)]
 refine ⟨eE, eS, eH, ?_⟩
 unfold jnLoadR
 rw [eS, h3]
 have c := jnRecs_chain hjD2 1 [hjR] 2 0 hjB ⟨⟨hjR_ok, hjR_chk, rfl, rfl, rfl⟩, trivial⟩ (by simp) (fun j hj => by
  obtain rfl : j = 0 := by simpa using hj
  exact h4 98 (by omega))
 rw [show (100 - 98 : Nat) = 2 from rfl]
 refine c.trans ?_
 rw [jnRecs_end]
 ·rfl
 ·rw [show dkRead hjD2 (98 + ((0 + [hjR].length : Nat) : Int)) = List.replicate 256 0 from h4 99 (by omega)]
  exact rcFol_zeros _ _ _
end Go.Proofs.YtpahicfnhhhifaaGreat
