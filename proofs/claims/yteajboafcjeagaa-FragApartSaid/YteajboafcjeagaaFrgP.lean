/-
  Layer 21: frag: the plain law: which bytes a datagram has.
-/
import Derived.Test.YteajboafcjeagaaFrgJ
namespace Go.Proofs.Yteajboafcjeagaa
set_option maxRecDepth 20000
open Go.RowKit
set_option linter.unusedVariables false
set_option linter.unusedSimpArgs false
set_option maxHeartbeats 4000000

/-- What is had of a datagram's body: the places of which hs holds. -/
structure FrPt (po : OwT) (T : Nat) (body : List UInt8) (hs : Nat → Prop) (x : Fr) : Prop where
  ok : x.ok
  ow : x.ow = po
  till : x.till = T
  H : ∀ i, i < 128 → (x.H.getD i false = true ↔ hs i)
  D : ∀ i, i < 128 → hs i → x.D.getD i 0 = body.getD i 0
  Z : ∀ i, i < 128 → ¬ hs i → x.D.getD i 0 = 0
  sub : ∀ i, hs i → i < body.length
  ln : (hs (body.length - 1) ∧ x.ln = (body.length : Int)) ∨ (¬ hs (body.length - 1) ∧ x.ln = -1)
theorem fHad_all {H : List Bool} {b : Bool} {n : Nat} (hn : n ≤ 128) : ∀ d p, n - p = d → p ≤ n → (∀ i, p ≤ i → i < n → H.getD i false ≠ b) → n ≤ fHad H p b
  | 0, p, hd, hp, h => by
    obtain rfl : p = n := by omega
    by_cases h1 : p < 128
    · rw [fHad, if_pos h1]
      split
      · exact Nat.le_refl _
      · next h2 =>
        have : ∀ d q, 128 - q = d → q ≤ 128 → q ≤ fHad H q b := by
          intro d
          induction d with
          | zero => intro q hq hq2; rw [fHad_end (by omega)]; exact Nat.le_refl _
          | succ d ih =>
            intro q hq hq2
            rw [fHad, if_pos (by omega)]
            split
            · exact Nat.le_refl _
            · exact Nat.le_trans (Nat.le_succ q) (ih (q + 1) (by omega) (by omega))
        exact Nat.le_trans (Nat.le_succ p) (this _ (p + 1) rfl (by omega))
    · rw [fHad_end (by omega)]; exact Nat.le_refl _
  | d + 1, p, hd, hp, h => by
    rw [fHad_next (h p (Nat.le_refl _) (by omega)) (by omega)]
    exact fHad_all hn d (p + 1) (by omega) (by omega) (fun i h1 h2 => h i (by omega) h2)
theorem fHad_at {H : List Bool} {b : Bool} {i : Nat} (hi : i < 128) (h : H.getD i false = b) : ∀ d p, i - p = d → p ≤ i → fHad H p b ≤ i
  | 0, p, hd, hp => by
    obtain rfl : p = i := by omega
    rw [fHad_stop h hi]; exact Nat.le_refl _
  | d + 1, p, hd, hp => by
    rw [fHad, if_pos (by omega)]
    split
    · exact hp
    · exact fHad_at hi h d (p + 1) (by omega) (by omega)
theorem fHad_le {H : List Bool} {b : Bool} : ∀ d p, 128 - p = d → p ≤ 128 → fHad H p b ≤ 128
  | 0, p, hd, hp => by rw [fHad_end (by omega)]; exact hp
  | d + 1, p, hd, hp => by
    rw [fHad, if_pos (by omega)]
    split
    · exact hp
    · exact fHad_le d (p + 1) (by omega) (by omega)
section
variable {po : OwT} {T : Nat} {body : List UInt8} {hs : Nat → Prop} {x : Fr}
theorem FrPt.lnr (h : FrPt po T body hs x) (hb : body.length ≤ 128) : -1 ≤ x.ln ∧ x.ln ≤ 128 := by
  rcases h.ln with ⟨_, e⟩ | ⟨_, e⟩ <;> rw [e] <;> omega
theorem FrPt.right (h : FrPt po T body hs x) (hT : T ≤ 1099511627776) (hb : body.length ≤ 128) (hp : 0 ≤ po.2.2.2 ∧ po.2.2.2 ≤ 255) : FrR x where
  ok := h.ok
  p := by rw [← h.ow] at hp; exact hp
  l := h.lnr hb
  t := by rw [h.till]; exact hT
  none := fun i hi e => h.Z i hi (fun hh => by rw [(h.H i hi).2 hh] at e; cases e)
  some := fun i hi e hl => by
    rcases h.ln with ⟨_, e2⟩ | ⟨_, e2⟩
    · rw [e2]; have := h.sub i ((h.H i hi).1 e); omega
    · exact absurd e2 hl
theorem FrPt.fits (h : FrPt po T body hs x) (hb1 : 1 ≤ body.length) (hb : body.length ≤ 128) {pl m : Nat} {more : Bool} (hm : pl + m ≤ body.length) (hmo : more = decide (pl + m < body.length)) : FitsY x more (pl + m) where
  le := by omega
  l := by
    rcases h.ln with ⟨_, e⟩ | ⟨_, e⟩
    · right; rw [e]; omega
    · left; exact e
  m := fun e => by
    rw [hmo] at e
    have e := of_decide_eq_false e
    refine ⟨?_, ?_⟩
    · rcases h.ln with ⟨_, e2⟩ | ⟨_, e2⟩
      · right; rw [e2]; omega
      · left; exact e2
    · have h1 : 128 ≤ fHad x.H (pl + m) true := fHad_all (Nat.le_refl _) _ _ rfl (by omega) (fun i h1 h2 e3 => by have := h.sub i ((h.H i h2).1 e3); omega)
      have h2 := fHad_le (H := x.H) (b := true) _ (pl + m) rfl (by omega)
      omega
theorem FrPt.whole (h : FrPt po T body hs x) (hb1 : 1 ≤ body.length) (hb : body.length ≤ 128) : frWhole x = true ↔ ∀ i, i < body.length → hs i := by
  unfold frWhole
  rcases h.ln with ⟨h1, e⟩ | ⟨h1, e⟩
  · rw [e, decide_eq_false (show ¬ ((body.length : Int) = -1) by omega), Bool.false_or, Bool.not_eq_true', decide_eq_false_iff_not]
    constructor
    · intro hl i hi
      apply Classical.byContradiction
      intro hn
      have hf : x.H.getD i false = false := by
        cases hq : x.H.getD i false with
        | false => rfl
        | true => exact absurd ((h.H i (by omega)).1 hq) hn
      have := fHad_at (by omega) hf _ 0 rfl (Nat.zero_le _)
      omega
    · intro ha hl
      have := fHad_all (H := x.H) (b := false) hb _ 0 rfl (Nat.zero_le _) (fun i _ hi e => by rw [(h.H i (by omega)).2 (ha i hi)] at e; cases e)
      omega
  · rw [e]
    simp
    exact ⟨body.length - 1, by omega, h1⟩
theorem FrPt.all (h : FrPt po T body hs x) (hb1 : 1 ≤ body.length) (hb : body.length ≤ 128) (ha : ∀ i, i < body.length → hs i) : x.D.take x.ln.toNat = body := by
  have hl : x.ln = (body.length : Int) := by
    rcases h.ln with ⟨_, e⟩ | ⟨h1, _⟩
    · exact e
    · exact absurd (ha _ (by omega)) h1
  rw [hl, Int.toNat_natCast]
  apply List.ext_getElem?
  intro i
  rw [List.getElem?_take]
  by_cases hi : i < body.length
  · have := h.D i (by omega) (ha i hi)
    have hd : i < x.D.length := by rw [h.ok.D]; omega
    simp only [List.getD, List.getElem?_eq_getElem hd, List.getElem?_eq_getElem hi, Option.getD_some] at this
    rw [if_pos hi, List.getElem?_eq_getElem hd, List.getElem?_eq_getElem hi, this]
  · rw [if_neg hi, List.getElem?_eq_none (by omega)]
end
theorem getD_set {α : Type} (l : List α) (i j : Nat) (v d : α) (hi : i < l.length) : (l.set i v).getD j d = if j = i then v else l.getD j d := by
  simp only [List.getD, List.getElem?_set]
  by_cases h : i = j
  · subst h; simp [hi]
  · simp [h, Ne.symm h]
theorem fAddK_part {x : Fr} (hok : x.ok) (pl : Nat) (xs : List UInt8) : ∀ k, pl + k ≤ 128 → (fAddK x pl xs k).src = x.src ∧ (fAddK x pl xs k).dst = x.dst ∧ (fAddK x pl xs k).id = x.id ∧ (fAddK x pl xs k).proto = x.proto ∧ (fAddK x pl xs k).ln = x.ln ∧ (fAddK x pl xs k).till = x.till ∧
    (∀ i, i < 128 → ((fAddK x pl xs k).H.getD i false = true ↔ (x.H.getD i false = true ∨ (pl ≤ i ∧ i < pl + k)))) ∧
    (∀ i, i < 128 → (fAddK x pl xs k).D.getD i 0 = if x.H.getD i false = true then x.D.getD i 0 else if pl ≤ i ∧ i < pl + k then xs.getD (i - pl) 0 else x.D.getD i 0)
  | 0, _ => by
    refine ⟨rfl, rfl, rfl, rfl, rfl, rfl, fun i hi => ?_, fun i hi => ?_⟩
    · simp [fAddK]; omega
    · unfold fAddK
      split
      · rfl
      · rw [if_neg (by omega)]
  | k + 1, hk => by
    obtain ⟨h1, h2, h3, h4, h5, h6, h7, h8⟩ := fAddK_part hok pl xs k (by omega)
    have hoy := fAddK_ok hok pl xs k
    have e : fAddK x pl xs (k + 1) = if (fAddK x pl xs k).H.getD (pl + k) false = true then fAddK x pl xs k else (fAddK x pl xs k).had (pl + k) (xs.getD k 0) := rfl
    rw [e]
    generalize fAddK x pl xs k = y at *
    by_cases hq : y.H.getD (pl + k) false = true
    · rw [if_pos hq]
      have hx := (h7 (pl + k) (by omega)).1 hq
      have hx : x.H.getD (pl + k) false = true := by rcases hx with h | h; exact h; omega
      refine ⟨h1, h2, h3, h4, h5, h6, fun i hi => ?_, fun i hi => ?_⟩
      · rw [h7 i hi]
        constructor
        · rintro (h | h)
          · exact .inl h
          · exact .inr (by omega)
        · rintro (h | h)
          · exact .inl h
          · by_cases hi2 : i = pl + k
            · exact .inl (by rw [hi2]; exact hx)
            · exact .inr (by omega)
      · rw [h8 i hi]
        by_cases hh : x.H.getD i false = true
        · rw [if_pos hh, if_pos hh]
        · rw [if_neg hh, if_neg hh]
          have : i ≠ pl + k := fun e => hh (by rw [e]; exact hx)
          by_cases hr : pl ≤ i ∧ i < pl + k
          · rw [if_pos hr, if_pos (by omega)]
          · rw [if_neg hr, if_neg (by omega)]
    · rw [if_neg hq]
      have hx : x.H.getD (pl + k) false ≠ true := fun h => hq ((h7 (pl + k) (by omega)).2 (.inl h))
      refine ⟨h1, h2, h3, h4, h5, h6, fun i hi => ?_, fun i hi => ?_⟩
      · show ((y.H.set (pl + k) true).getD i false = true) ↔ _
        rw [getD_set _ _ _ _ _ (by rw [hoy.H]; omega)]
        by_cases hi2 : i = pl + k
        · rw [if_pos hi2]; exact ⟨fun _ => .inr (by omega), fun _ => rfl⟩
        · rw [if_neg hi2, h7 i hi]
          constructor
          · rintro (h | h)
            · exact .inl h
            · exact .inr (by omega)
          · rintro (h | h)
            · exact .inl h
            · exact .inr (by omega)
      · show (y.D.set (pl + k) (xs.getD k 0)).getD i 0 = _
        rw [getD_set _ _ _ _ _ (by rw [hoy.D]; omega)]
        by_cases hi2 : i = pl + k
        · rw [if_pos hi2, hi2, if_neg hx, if_pos (by omega), Nat.add_sub_cancel_left]
        · rw [if_neg hi2, h8 i hi]
          by_cases hh : x.H.getD i false = true
          · rw [if_pos hh, if_pos hh]
          · rw [if_neg hh, if_neg hh]
            by_cases hr : pl ≤ i ∧ i < pl + k
            · rw [if_pos hr, if_pos (by omega)]
            · rw [if_neg hr, if_neg (by omega)]
theorem FrPt.add {po : OwT} {T : Nat} {body : List UInt8} {hs : Nat → Prop} {x : Fr} (h : FrPt po T body hs x) (hb1 : 1 ≤ body.length) (hb : body.length ≤ 128) {pl m : Nat} {more : Bool} (hm1 : 1 ≤ m) (hm : pl + m ≤ body.length) (hmo : more = decide (pl + m < body.length)) :
    FrPt po T body (fun i => hs i ∨ (pl ≤ i ∧ i < pl + m)) (fAdd x pl more ((body.drop pl).take m)) := by
  have hxl : ((body.drop pl).take m).length = m := by rw [List.length_take, List.length_drop]; omega
  obtain ⟨h1, h2, h3, h4, h5, h6, h7, h8⟩ := fAddK_part h.ok pl ((body.drop pl).take m) m (by omega)
  have hoy := fAddK_ok h.ok pl ((body.drop pl).take m) m
  have e : fAdd x pl more ((body.drop pl).take m) = if more then fAddK x pl ((body.drop pl).take m) m else { fAddK x pl ((body.drop pl).take m) m with ln := ((pl + m : Nat) : Int) } := by unfold fAdd; rw [hxl]
  have hxs : ∀ i, pl ≤ i → i < pl + m → ((body.drop pl).take m).getD (i - pl) 0 = body.getD i 0 := fun i hi1 hi2 => by
    simp only [List.getD, List.getElem?_take, List.getElem?_drop]
    rw [if_pos (by omega), show pl + (i - pl) = i by omega]
  rw [e]
  generalize fAddK x pl ((body.drop pl).take m) m = y at *
  have key : ∀ z : Fr, z.ok → z.ow = po → z.till = x.till → z.H = y.H → z.D = y.D → ((hs (body.length - 1) ∨ (pl ≤ body.length - 1 ∧ body.length - 1 < pl + m)) ∧ z.ln = (body.length : Int) ∨ ¬ (hs (body.length - 1) ∨ (pl ≤ body.length - 1 ∧ body.length - 1 < pl + m)) ∧ z.ln = -1) → FrPt po T body (fun i => hs i ∨ (pl ≤ i ∧ i < pl + m)) z := by
    intro z hz1 hz2 hz3 hz4 hz5 hz6
    refine ⟨hz1, hz2, by rw [hz3]; exact h.till, fun i hi => ?_, fun i hi hh => ?_, fun i hi hh => ?_, fun i hi => ?_, hz6⟩
    · rw [hz4, h7 i hi, h.H i hi]
    · rw [hz5, h8 i hi]
      by_cases hx : x.H.getD i false = true
      · rw [if_pos hx]; exact h.D i hi ((h.H i hi).1 hx)
      · rw [if_neg hx]
        rcases hh with hh | hh
        · exact absurd ((h.H i hi).2 hh) hx
        · rw [if_pos hh]; exact hxs i hh.1 hh.2
    · rw [hz5, h8 i hi, if_neg (fun hx => hh (.inl ((h.H i hi).1 hx))), if_neg (fun hr => hh (.inr hr))]
      exact h.Z i hi (fun hx => hh (.inl hx))
    · rcases hi with hi | hi
      · exact h.sub i hi
      · omega
  have how : y.ow = po := by rw [← h.ow]; unfold Fr.ow; rw [h1, h2, h3, h4]
  by_cases hlt : pl + m < body.length
  · obtain rfl : more = true := by rw [hmo]; exact decide_eq_true hlt
    rw [if_pos rfl]
    refine key y hoy how h6 rfl rfl ?_
    rw [h5]
    rcases h.ln with ⟨g1, g2⟩ | ⟨g1, g2⟩
    · exact .inl ⟨.inl g1, g2⟩
    · exact .inr ⟨fun hh => by rcases hh with hh | hh; exact g1 hh; omega, g2⟩
  · obtain rfl : more = false := by rw [hmo]; exact decide_eq_false hlt
    rw [if_neg (by simp)]
    refine key { y with ln := ((pl + m : Nat) : Int) } ⟨hoy.src, hoy.dst, hoy.id, hoy.proto, hoy.D, hoy.H, by show _ ≤ ((pl + m : Nat) : Int) ∧ ((pl + m : Nat) : Int) ≤ _; omega, hoy.till⟩ how h6 rfl rfl (.inl ⟨.inr (by omega), ?_⟩)
    show ((pl + m : Nat) : Int) = _
    omega
theorem getD_rep {α : Type} (n i : Nat) (v : α) : (List.replicate n v).getD i v = v := by
  simp only [List.getD, List.getElem?_replicate]
  split <;> rfl
theorem frPt_new {po : OwT} (ho : OwOk po) {body : List UInt8} {hs : Nat → Prop} {now : Nat} (hn : now ≤ 1000) (hno : ∀ i, ¬ hs i) : FrPt po (now + 30) body hs (frN po.1 po.2.1 po.2.2.1 po.2.2.2 (now + 30)) where
  ok := frN_ok ho (by omega)
  ow := rfl
  till := rfl
  H := fun i hi => ⟨fun e => by
    have e : (List.replicate 128 false).getD i false = true := e
    rw [getD_rep] at e; exact absurd e (by decide), fun e => absurd e (hno i)⟩
  D := fun i hi e => absurd e (hno i)
  Z := fun i hi _ => by
    show (List.replicate 128 0).getD i 0 = 0
    exact getD_rep _ _ _
  sub := fun i e => absurd e (hno i)
  ln := .inr ⟨hno _, rfl⟩
/-- A datagram's pieces among others. -/
theorem placed_of {l l1 l2 lp : List Fr} {po : OwT} {T : Nat} {body : List UInt8} {hs : Nat → Prop} {now j : Nat} (ho : OwOk po) (hn : now ≤ 1000) (hS : FrS l)
    (hl : (∃ x, l = l1 ++ x :: l2 ∧ FrPt po T body hs x) ∨ (l = l1 ∧ l2 = [] ∧ T = now + 30 ∧ (∀ i, ¬ hs i) ∧ ∀ x ∈ l, x.ow ≠ po)) (hP : Placed l po now lp j) :
    ∃ x, FrPt po T body hs x ∧ lp = l1 ++ x :: l2 ∧ j = l1.length := by
  rcases hl with ⟨x, rfl, hx⟩ | ⟨rfl, rfl, rfl, hno, hne⟩
  · rcases hP with ⟨rfl, hj, he⟩ | ⟨_, _, hne⟩
    · refine ⟨x, hx, rfl, ?_⟩
      have hd := List.pairwise_iff_getElem.1 hS.d
      have e1 : (l1 ++ x :: l2)[l1.length]'(by simp) = x := by simp
      have e2 : (l1 ++ x :: l2).getD j fr0 = (l1 ++ x :: l2)[j] := by rw [List.getD, List.getElem?_eq_getElem hj]; rfl
      rw [e2] at he
      rcases Nat.lt_trichotomy j l1.length with h | h | h
      · exact absurd (by rw [e1, he, hx.ow]) (hd j l1.length hj (by simp) h)
      · exact h
      · exact absurd (by rw [e1, he, hx.ow]) (hd l1.length j (by simp) hj h)
    · exact absurd hx.ow (hne x (by simp))
  · rcases hP with ⟨rfl, hj, he⟩ | ⟨rfl, rfl, _⟩
    · exact absurd he (hne _ (by rw [List.getD, List.getElem?_eq_getElem hj]; exact List.getElem_mem hj))
    · exact ⟨_, frPt_new ho hn hno, rfl, rfl⟩
theorem frs_sub {l m : List Fr} (h : FrS l) (hs : m.Sublist l) : FrS m := ⟨Nat.le_trans hs.length_le h.n, fun x hx => h.r x (hs.subset hx), h.d.sublist hs⟩
theorem frs_out {l1 l2 : List Fr} {x : Fr} (h : FrS (l1 ++ x :: l2)) : FrS (l1 ++ l2) := frs_sub h (by simp)
theorem frs_turn {l1 l2 : List Fr} {x y : Fr} (h : FrS (l1 ++ x :: l2)) (hy : FrR y) (ho : y.ow = x.ow) : FrS (l1 ++ y :: l2) := by
  refine ⟨by have := h.n; simpa using this, fun z hz => ?_, ?_⟩
  · rcases List.mem_append.1 hz with h1 | h1
    · exact h.r z (by simp [h1])
    · rcases List.mem_cons.1 h1 with rfl | h1
      · exact hy
      · exact h.r z (by simp [h1])
  · have hd := h.d
    rw [List.pairwise_append, List.pairwise_cons] at hd ⊢
    refine ⟨hd.1, ⟨fun z hz => ?_, hd.2.1.2⟩, fun a ha z hz => ?_⟩
    · show y.ow ≠ z.ow; rw [ho]; exact hd.2.1.1 z hz
    · rcases List.mem_cons.1 hz with rfl | hz
      · show a.ow ≠ z.ow; rw [ho]; exact hd.2.2 a ha x (by simp)
      · exact hd.2.2 a ha z (by simp [hz])
theorem frs_more {l : List Fr} {y : Fr} (h : FrS l) (hn : l.length ≤ 3) (hy : FrR y) (ho : ∀ x ∈ l, x.ow ≠ y.ow) : FrS (l ++ [y]) := by
  refine ⟨by simp; omega, fun z hz => ?_, ?_⟩
  · rcases List.mem_append.1 hz with h1 | h1
    · exact h.r z h1
    · simp at h1; rw [h1]; exact hy
  · rw [List.pairwise_append]
    exact ⟨h.d, by simp, fun a ha z hz => by simp at hz; rw [hz]; exact ho a ha⟩
theorem frs_nil : FrS [] := ⟨by simp, (fun x hx => by cases hx), List.Pairwise.nil⟩
end Go.Proofs.Yteajboafcjeagaa
