/-
  Layer 19: arp: plain laws on neighbours. No program is walked here.
-/
import Derived.Test.YtnfepikgbdeomaaArpB
namespace Go.Proofs.Ytnfepikgbdeomaa
set_option maxRecDepth 20000
open Go.RowKit
set_option linter.unusedVariables false
set_option linter.unusedSimpArgs false
set_option maxHeartbeats 4000000

/-- Neighbours that may be. -/
structure NbS (l : List Nb) : Prop where
  len : l.length ≤ 8
  time : ∀ x ∈ l, x.t ≤ 1099511627776
  sorted : l.Pairwise (fun x y => x.ip < y.ip)
theorem nbS_of {l : List Nb} (h : nbOk l = true) : NbS l := by
  rw [nbOk_iff] at h
  obtain ⟨h1, h2⟩ := h
  have hg : ∀ i (hi : i < l.length), l.getD i nb0 = l[i] := fun i hi => by simp [List.getD, hi]
  have ht : ∀ i (hi : i < l.length), l[i].t ≤ 1099511627776 := fun i hi => by
    have := h2 i hi
    unfold nbOk1 at this
    rw [Bool.and_eq_true, decide_eq_true_eq, hg i hi] at this
    exact this.1
  have hs : ∀ i (hi : i + 1 < l.length), l[i].ip < l[i + 1].ip := fun i hi => by
    have := h2 (i + 1) hi
    unfold nbOk1 at this
    rw [Bool.and_eq_true, decide_eq_true_eq, hg (i + 1) hi, Nat.add_sub_cancel, hg i (by omega)] at this
    simpa using this.2
  refine ⟨h1, fun x hx => ?_, ?_⟩
  · obtain ⟨i, hi, rfl⟩ := List.getElem_of_mem hx
    exact ht i hi
  · rw [List.pairwise_iff_getElem]
    intro i j hi hj hij
    have : ∀ k (hk : i + (k + 1) < l.length), l[i].ip < l[i + (k + 1)].ip := by
      intro k
      induction k with
      | zero => exact fun hk => hs i hk
      | succ k ih => exact fun hk => Nat.lt_trans (ih (by omega)) (hs (i + (k + 1)) hk)
    have h3 := this (j - i - 1) (by omega)
    have e : i + (j - i - 1 + 1) = j := by omega
    simpa [e] using h3
theorem nbOk_of {l : List Nb} (h : NbS l) : nbOk l = true := by
  rw [nbOk_iff]
  refine ⟨h.len, fun i hi => ?_⟩
  have hg : ∀ i (hi : i < l.length), l.getD i nb0 = l[i] := fun i hi => by simp [List.getD, hi]
  unfold nbOk1
  rw [Bool.and_eq_true, decide_eq_true_eq, hg i hi]
  refine ⟨h.time _ (List.getElem_mem hi), ?_⟩
  rcases Nat.eq_zero_or_pos i with rfl | hp
  · simp
  · rw [hg (i - 1) (by omega)]
    have := (List.pairwise_iff_getElem.1 h.sorted) (i - 1) i (by omega) hi (by omega)
    simp [this]
theorem NbS.inj {l : List Nb} (h : NbS l) {x y : Nb} (hx : x ∈ l) (hy : y ∈ l) (he : x.ip = y.ip) : x = y := by
  obtain ⟨i, hi, rfl⟩ := List.getElem_of_mem hx
  obtain ⟨j, hj, rfl⟩ := List.getElem_of_mem hy
  have := List.pairwise_iff_getElem.1 h.sorted
  rcases Nat.lt_trichotomy i j with h1 | h1 | h1
  · have := this i j hi hj h1; omega
  · subst h1; rfl
  · have := this j i hj hi h1; omega
theorem NbS.idx {l : List Nb} (h : NbS l) {i j : Nat} (hi : i < l.length) (hj : j < l.length) (he : l[i].ip = l[j].ip) : i = j := by
  have := List.pairwise_iff_getElem.1 h.sorted
  rcases Nat.lt_trichotomy i j with h1 | h1 | h1
  · have := this i j hi hj h1; omega
  · exact h1
  · have := this j i hj hi h1; omega
/-- Where an address stands, or would. -/
def SPos (l : List Nb) (ip p : Nat) : Prop := p ≤ l.length ∧ (∀ y ∈ l.take p, y.ip < ip) ∧ (∀ y ∈ l.drop p, ip ≤ y.ip)
/-- What learning comes to. -/
structure Learnt (l : List Nb) (x : Nb) (m : List Nb) : Prop where
  s : NbS m
  mem : x ∈ m
  old : ∀ y ∈ m, y = x ∨ y ∈ l
  gone : ∃ o : Option Nb, (∀ y ∈ l, y.ip ≠ x.ip → some y ≠ o → y ∈ m) ∧ (o ≠ none → l.length = 8)
theorem nbS_ins {l : List Nb} {x : Nb} {p : Nat} (h : NbS l) (hp : SPos l x.ip p) (hx : x.t ≤ 1099511627776) (hn : ∀ y ∈ l, y.ip ≠ x.ip) (hl : l.length < 8) : NbS (l.take p ++ x :: l.drop p) := by
  have hs := h.sorted
  rw [← List.take_append_drop p l, List.pairwise_append] at hs
  refine ⟨?_, ?_, ?_⟩
  · have := hp.1
    simp; omega
  · intro y hy
    rw [List.mem_append, List.mem_cons] at hy
    rcases hy with hy | rfl | hy
    · exact h.time y (List.mem_of_mem_take hy)
    · exact hx
    · exact h.time y (List.mem_of_mem_drop hy)
  · rw [List.pairwise_append, List.pairwise_cons]
    refine ⟨hs.1, ⟨fun y hy => ?_, hs.2.1⟩, fun y hy z hz => ?_⟩
    · have h1 := hp.2.2 y hy
      have h2 := hn y (List.mem_of_mem_drop hy)
      omega
    · rw [List.mem_cons] at hz
      rcases hz with rfl | hz
      · exact hp.2.1 y hy
      · exact hs.2.2 y hy z hz
theorem mem_ins {l : List Nb} {x y : Nb} {p : Nat} : y ∈ l.take p ++ x :: l.drop p ↔ y = x ∨ y ∈ l := by
  have : y ∈ l ↔ y ∈ l.take p ∨ y ∈ l.drop p := by rw [← List.mem_append, List.take_append_drop]
  rw [List.mem_append, List.mem_cons, this]
  constructor
  · rintro (h | h | h) <;> simp [h]
  · rintro (h | h | h) <;> simp [h]
theorem learnt_ins {l : List Nb} {x : Nb} {p : Nat} (h : NbS l) (hp : SPos l x.ip p) (hx : x.t ≤ 1099511627776) (hn : ∀ y ∈ l, y.ip ≠ x.ip) (hl : l.length < 8) : Learnt l x (l.take p ++ x :: l.drop p) :=
  ⟨nbS_ins h hp hx hn hl, mem_ins.2 (.inl rfl), fun y hy => mem_ins.1 hy, none, fun y hy _ _ => mem_ins.2 (.inr hy), fun h => absurd rfl h⟩
theorem learnt_del {l : List Nb} {x : Nb} {p k : Nat} (h : NbS l) (hk : k < l.length) (h8 : l.length = 8) (hp : SPos (l.take k ++ l.drop (k + 1)) x.ip p) (hx : x.t ≤ 1099511627776) (hn : ∀ y ∈ l, y.ip ≠ x.ip) : Learnt l x ((l.take k ++ l.drop (k + 1)).take p ++ x :: (l.take k ++ l.drop (k + 1)).drop p) := by
  obtain ⟨q, hq⟩ : ∃ q, q = l.take k ++ l.drop (k + 1) := ⟨_, rfl⟩
  rw [← hq] at hp ⊢
  have hsub : List.Sublist q l := by
    have h1 : List.Sublist (l.take k ++ l.drop (k + 1)) (l.take k ++ l.drop k) := List.Sublist.append_left (List.drop_sublist_drop_left l (by omega)) _
    rw [List.take_append_drop] at h1
    rw [hq]; exact h1
  have hql : q.length = 7 := by rw [hq]; simp; omega
  have hS : NbS q := ⟨by omega, fun y hy => h.time y (hsub.mem hy), h.sorted.sublist hsub⟩
  refine ⟨nbS_ins hS hp hx (fun y hy => hn y (hsub.mem hy)) (by omega), mem_ins.2 (.inl rfl), fun y hy => ?_, some l[k], fun y hy _ hne => mem_ins.2 (.inr ?_), fun _ => h8⟩
  · rcases mem_ins.1 hy with h1 | h1
    · exact .inl h1
    · exact .inr (hsub.mem h1)
  · have e : y ∈ l.take k ++ l.drop k := by rw [List.take_append_drop]; exact hy
    rw [List.drop_eq_getElem_cons hk, List.mem_append, List.mem_cons] at e
    rw [hq, List.mem_append]
    rcases e with e | e | e
    · exact .inl e
    · exact absurd (by rw [e]) hne
    · exact .inr e
theorem learnt_set {l : List Nb} {x : Nb} {p : Nat} (h : NbS l) (hp : p < l.length) (hx : x.t ≤ 1099511627776) (he : l[p].ip = x.ip) : Learnt l x (l.set p x) := by
  have hip : ∀ i (hi : i < (l.set p x).length), ((l.set p x)[i]).ip = (l[i]'(by simpa using hi)).ip := fun i hi => by
    rw [List.getElem_set]
    split
    · rename_i h1; subst h1; exact he.symm
    · rfl
  refine ⟨⟨by simpa using h.len, fun y hy => ?_, ?_⟩, ?_, fun y hy => ?_, none, fun y hy hne _ => ?_, fun h => absurd rfl h⟩
  · rcases List.mem_or_eq_of_mem_set hy with h1 | rfl
    · exact h.time y h1
    · exact hx
  · rw [List.pairwise_iff_getElem]
    intro i j hi hj hij
    rw [hip i hi, hip j hj]
    exact List.pairwise_iff_getElem.1 h.sorted i j _ _ hij
  · exact List.mem_set hp x
  · rcases List.mem_or_eq_of_mem_set hy with h1 | h1
    · exact .inr h1
    · exact .inl h1
  · obtain ⟨i, hi, rfl⟩ := List.getElem_of_mem hy
    have hip : i ≠ p := fun e => hne (by subst e; exact he)
    have : (l.set p x)[i]'(by simpa using hi) = l[i] := List.getElem_set_ne (fun e => hip e.symm) _
    rw [← this]
    exact List.getElem_mem _
theorem NbS.le {l : List Nb} (h : NbS l) {k j : Nat} (hk : k ≤ j) (hj : j < l.length) : (l.getD k nb0).ip ≤ (l.getD j nb0).ip := by
  have hg : ∀ i (hi : i < l.length), l.getD i nb0 = l[i] := fun i hi => by simp [List.getD, hi]
  rw [hg k (by omega), hg j hj]
  rcases Nat.lt_or_ge k j with h1 | h1
  · exact Nat.le_of_lt (List.pairwise_iff_getElem.1 h.sorted k j (by omega) hj h1)
  · obtain rfl : k = j := by omega
    exact Nat.le_refl _
theorem spos_of {l : List Nb} {ip p : Nat} (hp : p ≤ l.length) (h1 : ∀ k, k < p → (l.getD k nb0).ip < ip) (h2 : ∀ k, p ≤ k → k < l.length → ip ≤ (l.getD k nb0).ip) : SPos l ip p := by
  have hg : ∀ i (hi : i < l.length), l.getD i nb0 = l[i] := fun i hi => by simp [List.getD, hi]
  refine ⟨hp, fun y hy => ?_, fun y hy => ?_⟩
  · obtain ⟨i, hi, rfl⟩ := List.getElem_of_mem hy
    rw [List.getElem_take]
    have hi' : i < p := by rw [List.length_take] at hi; omega
    have := h1 i hi'
    rwa [hg i (by omega)] at this
  · obtain ⟨i, hi, rfl⟩ := List.getElem_of_mem hy
    rw [List.getElem_drop]
    have hi' : p + i < l.length := by rw [List.length_drop] at hi; omega
    have := h2 (p + i) (by omega) hi'
    rwa [hg _ hi'] at this
theorem spos_no {l : List Nb} {ip p : Nat} (h : SPos l ip p) (hS : NbS l) (hn : ∀ y, l[p]? = some y → y.ip ≠ ip) : ∀ y ∈ l, y.ip ≠ ip := fun y hy => by
  have e : y ∈ l.take p ++ l.drop p := by rw [List.take_append_drop]; exact hy
  rw [List.mem_append] at e
  rcases e with e | e
  · have := h.2.1 y e; omega
  · obtain ⟨i, hi, rfl⟩ := List.getElem_of_mem e
    rw [List.getElem_drop]
    have hi' : p + i < l.length := by rw [List.length_drop] at hi; omega
    rcases Nat.eq_zero_or_pos i with rfl | h0
    · exact hn _ (by simp)
    · have h1 := List.pairwise_iff_getElem.1 hS.sorted p (p + i) (by omega) hi' (by omega)
      have h2 := h.2.2 (l[p]) (by rw [List.drop_eq_getElem_cons (by omega)]; exact List.mem_cons_self)
      omega
/-- Is it that address, and believed still? -/
def arIs (ip now : Nat) (x : Nb) : Bool := decide (x.ip = ip) && decide (now < x.t)
theorem find_ip {m : List Nb} {x : Nb} (h : NbS m) (hx : x ∈ m) (now : Nat) : m.find? (arIs x.ip now) = if now < x.t then some x else none := by
  by_cases ht : now < x.t
  · rw [if_pos ht]
    cases hf : m.find? (arIs x.ip now) with
    | none =>
      have := List.find?_eq_none.1 hf x hx
      simp [arIs, ht] at this
    | some y =>
      have h1 := List.find?_some hf
      have h2 := List.mem_of_find?_eq_some hf
      unfold arIs at h1
      rw [Bool.and_eq_true, decide_eq_true_eq] at h1
      rw [h.inj h2 hx h1.1]
  · rw [if_neg ht, List.find?_eq_none]
    intro y hy h1
    unfold arIs at h1
    rw [Bool.and_eq_true, decide_eq_true_eq, decide_eq_true_eq] at h1
    rw [h.inj hy hx h1.1] at h1
    exact ht h1.2
/-- How many are gone of the first i. -/
def GoneI (l : List Nb) (o : Option Nb) (i g : Nat) : Prop := g = 0 ∨ (g = 1 ∧ l.length = 8 ∧ ∃ j, j < i ∧ j < l.length ∧ o = some (l.getD j nb0))
theorem goneI_keep {l : List Nb} {o : Option Nb} {i g : Nat} (h : GoneI l o i g) : GoneI l o (i + 1) g := by
  rcases h with h | ⟨h1, h2, j, h3, h4, h5⟩
  · exact .inl h
  · exact .inr ⟨h1, h2, j, by omega, h4, h5⟩
theorem goneI_step {l : List Nb} {o : Option Nb} {i g : Nat} (hS : NbS l) (h : GoneI l o i g) (hi : i < l.length) (ho : o = some (l.getD i nb0)) (h8 : l.length = 8) : GoneI l o (i + 1) (g + 1) := by
  have hg : ∀ i (hi : i < l.length), l.getD i nb0 = l[i] := fun i hi => by simp [List.getD, hi]
  rcases h with rfl | ⟨h1, h2, j, h3, h4, h5⟩
  · exact .inr ⟨rfl, h8, i, by omega, hi, ho⟩
  · rw [ho] at h5
    injection h5 with h5
    rw [hg i hi, hg j h4] at h5
    have := hS.idx hi h4 (by rw [h5])
    omega
theorem learnt_nil {x : Nb} {m : List Nb} (h : Learnt [] x m) : m = [x] := by
  have h1 : ∀ y ∈ m, y = x := fun y hy => by rcases h.old y hy with h2 | h2; exact h2; cases h2
  have hs := h.s.sorted
  match m, h.mem, hs, h1 with
  | [y], _, _, h1 => rw [h1 y (by simp)]
  | y :: z :: r, _, hs, h1 =>
    rw [h1 y (by simp), h1 z (by simp)] at hs
    simp at hs
end Go.Proofs.Ytnfepikgbdeomaa
