/-
  Plain: heads as bytes and back; which is chosen.
-/
import Derived.Test.YteajboafcjeagaaCrcMath
import Derived.Test.YteajboafcjeagaaNumMath
namespace Go.Proofs.Yteajboafcjeagaa
set_option maxRecDepth 20000
set_option linter.unusedSimpArgs false
set_option linter.unusedVariables false

structure Su where
  g : Nat
  s : Int
  l : Int
  D : List UInt8
deriving DecidableEq
def suZ : Su := ⟨0, 0, 0, List.replicate 32 0⟩
def suCheck (s l : Int) : Bool := decide ((s = 0 ∨ s = 1) ∧ 0 ≤ l ∧ l ≤ 12288)
def suB (g s l : Nat) (D : List UInt8) : List UInt8 := [80, 72, 83, 66] ++ (leB g 4 ++ (leB l 4 ++ ([UInt8.ofNat s] ++ (D ++ List.replicate 207 0))))
def suL (g s l : Nat) (D : List UInt8) : List UInt8 := crcClosed (suB g s l D)
def suPutE (s l : Int) : Int := if suCheck s l = true then 0 else 2
def suPutL (g : Nat) (s l : Int) (D : List UInt8) : List UInt8 := if suCheck s l = true then suL g s.toNat l.toNat D else []
def suOf (b : List UInt8) : Su := ⟨lev ((b.drop 4).take 4), ((b.getD 12 0).toNat : Nat), (lev ((b.drop 8).take 4) : Nat), (b.drop 13).take 32⟩
def suGetE (b : List UInt8) : Int :=
  if b.length ≠ 256 then 2 else if crcHolds b = false then 6 else if suCheck (suOf b).s (suOf b).l = true ∧ suPutL (suOf b).g (suOf b).s (suOf b).l (suOf b).D = b then 0 else 3
def suGet (b : List UInt8) : Su := if suGetE b = 0 then suOf b else suZ
def suGood (b : List UInt8) (h : Nat) : Bool := decide (suGetE b = 0 ∧ (suGet b).g % 2 = h)
def suChE (a b : List UInt8) : Int := if suGood a 0 = true ∨ suGood b 1 = true then 0 else 7
def suCh (a b : List UInt8) : Su :=
  if suGood a 0 = true ∧ (suGood b 1 = false ∨ (suGet b).g < (suGet a).g) then suGet a else if suGood b 1 = true then suGet b else suZ

theorem suB_len (g s l : Nat) (D : List UInt8) (h : D.length = 32) : (suB g s l D).length = 252 := by simp [suB, leB_length, h]
theorem suL_len (g s l : Nat) (D : List UInt8) (h : D.length = 32) : (suL g s l D).length = 256 := by simp [suL, crcClosed, suB_len g s l D h, le4_length]
theorem suPutL_len (g : Nat) (s l : Int) (D : List UInt8) (h : D.length = 32) : (suPutL g s l D).length ≤ 256 := by
  unfold suPutL; split
  · rw [suL_len _ _ _ _ h]; omega
  · simp
theorem lev4_lt (b : List UInt8) (k : Nat) : lev ((b.drop k).take 4) < 4294967296 := by
  have h := lev_lt ((b.drop k).take 4)
  have h2 : ((b.drop k).take 4).length ≤ 4 := by rw [List.length_take]; omega
  exact Nat.lt_of_lt_of_le h (Nat.pow_le_pow_right (by omega) h2)
theorem suOf_bounds (b : List UInt8) (h : b.length = 256) : (suOf b).g < 4294967296 ∧ (0 ≤ (suOf b).s ∧ (suOf b).s < 256) ∧ (0 ≤ (suOf b).l ∧ (suOf b).l < 4294967296) ∧ (suOf b).D.length = 32 := by
  refine ⟨lev4_lt b 4, ?_, ?_, ?_⟩
  · have := (b.getD 12 0).toNat_lt
    exact ⟨by simp [suOf], by simp only [suOf]; omega⟩
  · have := lev4_lt b 8
    exact ⟨by simp [suOf], by simp only [suOf]; omega⟩
  · simp [suOf, h]
theorem suGet_len (b : List UInt8) : (suGet b).D.length = 32 := by
  unfold suGet
  split
  · rename_i h
    unfold suGetE at h
    split at h
    · simp at h
    · rename_i h2
      exact (suOf_bounds b (by simpa using h2)).2.2.2
  · simp [suZ]
theorem suGet_bounds (b : List UInt8) : (suGet b).g < 4294967296 ∧ (0 ≤ (suGet b).s ∧ (suGet b).s < 256) ∧ (0 ≤ (suGet b).l ∧ (suGet b).l < 4294967296) := by
  unfold suGet
  split
  · rename_i h
    unfold suGetE at h
    split at h
    · simp at h
    · rename_i h2
      have := suOf_bounds b (by simpa using h2)
      exact ⟨this.1, this.2.1, this.2.2.1⟩
  · simp [suZ]
theorem suOf_put (g s l : Nat) (D : List UInt8) (hg : g < 4294967296) (hs : s < 256) (hl : l < 4294967296) (hD : D.length = 32) : suOf (suL g s l D) = ⟨g, s, l, D⟩ := by
  have e0 : suL g s l D = [80, 72, 83, 66] ++ (leB g 4 ++ (leB l 4 ++ ([UInt8.ofNat s] ++ (D ++ (List.replicate 207 0 ++ le4 (crcOf (suB g s l D))))))) := by
    unfold suL crcClosed; conv => lhs; arg 1; unfold suB
    simp [List.append_assoc]
  obtain ⟨R, hR⟩ : ∃ R, List.replicate 207 0 ++ le4 (crcOf (suB g s l D)) = R := ⟨_, rfl⟩
  rw [hR] at e0
  have d4 : (suL g s l D).drop 4 = leB g 4 ++ (leB l 4 ++ ([UInt8.ofNat s] ++ (D ++ R))) := by rw [e0]; rfl
  have d8 : (suL g s l D).drop 8 = leB l 4 ++ ([UInt8.ofNat s] ++ (D ++ R)) := by
    rw [show 8 = 4 + 4 from rfl, ← List.drop_drop, d4]
    exact List.drop_left' (by rw [leB_length])
  have d12 : (suL g s l D).drop 12 = [UInt8.ofNat s] ++ (D ++ R) := by
    rw [show 12 = 8 + 4 from rfl, ← List.drop_drop, d8]
    exact List.drop_left' (by rw [leB_length])
  have d13 : (suL g s l D).drop 13 = D ++ R := by
    rw [show 13 = 12 + 1 from rfl, ← List.drop_drop, d12]; rfl
  have g12 : (suL g s l D).getD 12 0 = UInt8.ofNat s := by
    have : ((suL g s l D).drop 12)[0]? = some (UInt8.ofNat s) := by rw [d12]; rfl
    rw [List.getElem?_drop] at this
    simp only [Nat.add_zero] at this
    rw [List.getD, this]; rfl
  unfold suOf
  rw [d4, d8, d13, g12, List.take_left' (by rw [leB_length]), List.take_left' (by rw [leB_length]), List.take_left' hD, lev_leB, lev_leB, UInt8.toNat_ofNat']
  rw [Nat.mod_eq_of_lt hg, Nat.mod_eq_of_lt hl, Nat.mod_eq_of_lt hs]
theorem suGet_put (g : Nat) (s l : Int) (D : List UInt8) (hg : g < 4294967296) (hc : suCheck s l = true) (hD : D.length = 32) : suGetE (suPutL g s l D) = 0 ∧ suGet (suPutL g s l D) = ⟨g, s, l, D⟩ := by
  have hc' := of_decide_eq_true hc
  obtain ⟨p, rfl⟩ : ∃ p : Nat, s = (p : Int) := ⟨s.toNat, by omega⟩
  obtain ⟨q, rfl⟩ : ∃ q : Nat, l = (q : Int) := ⟨l.toNat, by omega⟩
  have e : suPutL g p q D = suL g p q D := by unfold suPutL; rw [if_pos hc]; rfl
  have e2 := suOf_put g p q D hg (by omega) (by omega) hD
  have e1 : suGetE (suL g p q D) = 0 := by
    unfold suGetE
    rw [if_neg (by rw [suL_len _ _ _ _ hD]; simp), if_neg (by unfold suL; rw [crcHolds_closed]; simp), e2, if_pos ⟨hc, e⟩]
  rw [e]
  exact ⟨e1, by unfold suGet; rw [if_pos e1, e2]⟩
theorem suGet_ok (b : List UInt8) (h : suGetE b = 0) : suGet b = suOf b ∧ b.length = 256 ∧ crcHolds b = true ∧ suCheck (suGet b).s (suGet b).l = true ∧ suPutL (suGet b).g (suGet b).s (suGet b).l (suGet b).D = b := by
  have e : suGet b = suOf b := by unfold suGet; rw [if_pos h]
  rw [e]
  unfold suGetE at h
  split at h
  · simp at h
  · rename_i h1
    split at h
    · simp at h
    · rename_i h2
      split at h
      · rename_i h3
        exact ⟨rfl, by simpa using h1, by simpa using h2, h3.1, h3.2⟩
      · simp at h
theorem suGood_put (g : Nat) (s l : Int) (D : List UInt8) (hg : g < 4294967296) (hc : suCheck s l = true) (hD : D.length = 32) (h : Nat) : suGood (suPutL g s l D) h = decide (g % 2 = h) := by
  obtain ⟨h1, h2⟩ := suGet_put g s l D hg hc hD
  unfold suGood
  rw [h1, h2]
  simp
/-- The old one, or one that is greater. -/
theorem suOld (g : Nat) (s l : Int) (D b : List UInt8) (hg : g < 4294967296) (hc : suCheck s l = true) (hD : D.length = 32) :
    (g % 2 = 0 → suChE (suPutL g s l D) b = 0 ∧ (suCh (suPutL g s l D) b = ⟨g, s, l, D⟩ ∨ (suGetE b = 0 ∧ suCh (suPutL g s l D) b = suGet b ∧ g < (suGet b).g))) ∧
    (g % 2 = 1 → suChE b (suPutL g s l D) = 0 ∧ (suCh b (suPutL g s l D) = ⟨g, s, l, D⟩ ∨ (suGetE b = 0 ∧ suCh b (suPutL g s l D) = suGet b ∧ g < (suGet b).g))) := by
  obtain ⟨h1, h2⟩ := suGet_put g s l D hg hc hD
  have hp := suGood_put g s l D hg hc hD
  obtain ⟨P, hP⟩ : ∃ P, suPutL g s l D = P := ⟨_, rfl⟩
  rw [hP] at h1 h2 hp ⊢
  constructor
  · intro h0
    have p0 : suGood P 0 = true := by rw [hp]; exact decide_eq_true h0
    refine ⟨by unfold suChE; rw [if_pos (.inl p0)], ?_⟩
    unfold suCh
    rw [h2, p0]
    cases hb : suGood b 1 with
    | false => left; simp
    | true =>
      by_cases hlt : (suGet b).g < g
      · left; simp [hlt]
      · right
        have hb' := of_decide_eq_true hb
        refine ⟨hb'.1, by simp [hlt], ?_⟩
        omega
  · intro h0
    have p1 : suGood P 1 = true := by rw [hp]; exact decide_eq_true h0
    refine ⟨by unfold suChE; rw [if_pos (.inr p1)], ?_⟩
    unfold suCh
    rw [h2, p1]
    cases hb : suGood b 0 with
    | false => left; simp
    | true =>
      by_cases hlt : g < (suGet b).g
      · right
        have hb' := of_decide_eq_true hb
        exact ⟨hb'.1, by simp [hlt], hlt⟩
      · left; simp [hlt]
theorem suNewest (g g' : Nat) (s l s' l' : Int) (D D' : List UInt8) (hg : g < 4294967296) (hg' : g' < 4294967296) (hc : suCheck s l = true) (hc' : suCheck s' l' = true) (hD : D.length = 32) (hD' : D'.length = 32) (h0 : g % 2 = 0) (h1 : g' % 2 = 1) :
    suChE (suPutL g s l D) (suPutL g' s' l' D') = 0 ∧ suCh (suPutL g s l D) (suPutL g' s' l' D') = if g < g' then ⟨g', s', l', D'⟩ else ⟨g, s, l, D⟩ := by
  obtain ⟨a1, a2⟩ := suGet_put g s l D hg hc hD
  obtain ⟨b1, b2⟩ := suGet_put g' s' l' D' hg' hc' hD'
  have p0 := (suGood_put g s l D hg hc hD 0).trans (decide_eq_true h0)
  have p1 := (suGood_put g' s' l' D' hg' hc' hD' 1).trans (decide_eq_true h1)
  refine ⟨by unfold suChE; rw [if_pos (.inl p0)], ?_⟩
  unfold suCh
  rw [a2, b2, p0, p1]
  by_cases h : g < g'
  · rw [if_pos h, if_neg (by intro hh; rcases hh.2 with hh | hh; · cases hh
                             · simp only at hh; omega), if_pos rfl]
  · rw [if_neg h, if_pos ⟨rfl, .inr (by show g' < g; omega)⟩]
end Go.Proofs.Yteajboafcjeagaa
