/-
  Layer 19: arp: Delete, Insert at neighbours of the call's own.
-/
import Derived.Test.YtnfepikgbdeomaaArpJ
import Derived.Test.YtnfepikgbdeomaaRowK
import Derived.Lib.Overlaps
import Derived.Laws.Externs
namespace Go.Proofs.Ytnfepikgbdeomaa
set_option maxRecDepth 20000
open Go.RowKit
set_option linter.unusedVariables false
set_option linter.unusedSimpArgs false
set_option maxHeartbeats 8000000

theorem elemNb : ElemK Try.prog 94 109 (.agg #[.int .u32 0, .int .u8 0, .int .u8 0, .int .u8 0, .int .u8 0, .int .u8 0, .int .u8 0, .int .u64 0]) 8 24 :=
  .of Try.underlying94 (by kernel_rfl) rfl (by decide)
theorem OwNb.row {w : World} {base : Nat} {A : Option Addr} {n c : Nat} {l : List Nb} (h : OwNb w base A n c l) (hn : 1 ≤ n) :
    ∃ g zs, A = some ⟨g, 0, none⟩ ∧ base ≤ g ∧ RowAt w 109 g zs ∧ zs.length = c * 8 ∧ n ≤ c ∧ c ≤ maxLen ∧ zs.take (n * 8) = l.flatMap nbV ∧ l.length = n := by
  have hl := h.1
  rw [nbs_len] at hl
  rcases h.2 with ⟨h1, h2⟩ | ⟨g, cap, cur, hv, hb, hg, hc, hm, hs, ht⟩
  · omega
  · injection hv with e1 e2 e3
    subst e1 e3
    refine ⟨g, cur.toList, rfl, hb, hg, by simpa using hs, hc, hm, ht, by omega⟩
theorem own_of_row {w : World} {base g n c : Nat} {zs : List Value} {l : List Nb} (hb : base ≤ g) (hr : RowAt w 109 g zs) (hz : zs.length = c * 8) (hn : n ≤ c) (hc : c ≤ maxLen) (ht : zs.take (n * 8) = l.flatMap nbV) (hl : l.length = n) : OwNb w base (some ⟨g, 0, none⟩) n c l := by
  have h3 := nbs_len l
  refine ⟨by rw [h3]; omega, .inr ⟨g, c, zs.toArray, rfl, hb, hr, hn, hc, by simpa using hz, ht⟩⟩
theorem OwNb.lent {w : World} {base : Nat} {A : Option Addr} {n c : Nat} {l : List Nb} (h : OwNb w base A n c l) : l.length = n := by
  have hl := h.1
  rw [nbs_len] at hl
  omega
theorem nbs_take (k : Nat) : ∀ (l : List Nb), (l.flatMap nbV).take (k * 8) = (l.take k).flatMap nbV := by
  induction k with
  | zero => intro l; simp
  | succ k ih =>
    intro l
    cases l with
    | nil => simp
    | cons x l =>
      rw [List.take_succ_cons, List.flatMap_cons, List.flatMap_cons, List.take_append, nbV_len, ← ih l, List.take_of_length_le (by rw [nbV_len]; omega)]
      congr 2; omega
theorem nbs_drop (k : Nat) : ∀ (l : List Nb), (l.flatMap nbV).drop (k * 8) = (l.drop k).flatMap nbV := by
  induction k with
  | zero => intro l; simp
  | succ k ih =>
    intro l
    cases l with
    | nil => simp
    | cons x l =>
      rw [List.drop_succ_cons, List.flatMap_cons, List.drop_append, nbV_len, ← ih l, List.drop_of_length_le (by rw [nbV_len]; omega), List.nil_append]
      congr 1; omega
/-- What is read behind a place of the row. -/
theorem row_tail {w : World} {g n : Nat} {zs : List Value} {l : List Nb} (hr : RowAt w 109 g zs) (ht : zs.take (n * 8) = l.flatMap nbV) (k : Nat) (hk : k ≤ n) : Rd w (some ⟨g, k * 8, none⟩) ((l.drop k).flatMap nbV) := by
  have := hr.rd (k * 8) ((n - k) * 8)
  rw [← nbs_drop, ← ht]
  rw [List.drop_take]
  have e : n * 8 - k * 8 = (n - k) * 8 := by omega
  rw [e]
  exact this
def RetDel (w : World) (base : Nat) (A : Option Addr) (n c : Nat) (l : List Nb) (e : Ending) (w' : World) : Prop := e = .returned (.slice A n c) ∧ OwNb w' base A n c l ∧ Below base w w'
set_option maxRecDepth 100000 in
theorem delNb_any (base : Nat) (A : Option Addr) (n c : Nat) (l : List Nb) (k : Nat) (w : World) (hown : OwNb w base A n c l) (hk : k < n) (hn8 : n ≤ 1000) (m : Nat) (hm : m + 1 = n) :
    Calls Try.prog 114 #[.slice A n c, .int .i64 (k : Int), .int .i64 ((k : Int) + 1)] w (RetDel w base A m c (l.take k ++ l.drop (k + 1))) := by
  obtain ⟨g, zs, rfl, hb, hrow, hz, hnc, hcm, ht, hl⟩ := hown.row (by omega)
  have hc63 : c ≤ 9223372036854775807 := by unfold maxLen at hcm; omega
  have e1 : ((k : Int) == (k : Int) + 1) = false := beq_eq_false_iff_ne.2 (by omega)
  have b1 : (0 : Int) ≤ (k : Int) + 1 := by omega
  have b2 : (k : Int) ≤ (k : Int) + 1 := by omega
  have b3 : (k : Int) + 1 ≤ (n : Int) := by omega
  have b4 : (n : Int) ≤ (c : Int) := by omega
  have b5 : ((k : Int) + 1).toNat = k + 1 := by omega
  have b6 : (k : Int) ≤ (c : Int) := by omega
  have hsrc := row_tail hrow ht (k + 1) (by omega)
  have hsl : ((l.drop (k + 1)).flatMap nbV).length = (n - (k + 1)) * 8 := by rw [nbs_len, List.length_drop, hl]; omega
  obtain ⟨zs1, hzs1⟩ : ∃ z, z = zs.take (k * 8) ++ (l.drop (k + 1)).flatMap nbV ++ zs.drop (k * 8 + ((l.drop (k + 1)).flatMap nbV).length) := ⟨_, rfl⟩
  have hlen1 : zs1.length = c * 8 := by rw [hzs1, List.length_append, List.length_append, List.length_take, List.length_drop, hsl, hz]; omega
  have htk1 : zs1.take (m * 8) = (l.take k ++ l.drop (k + 1)).flatMap nbV := by
    have e : (zs.take (k * 8) ++ (l.drop (k + 1)).flatMap nbV).length = m * 8 := by rw [List.length_append, List.length_take, hsl, hz]; omega
    rw [hzs1, List.take_left' e, List.flatMap_append]
    congr 1
    rw [← nbs_take, ← ht, List.take_take]
    congr 1; omega
  have ha : ∀ (A : Option Addr) (d q : Nat), q = n - (k + 1) → (A = some ⟨g, (k + 1) * 8, none⟩ ∨ (k + 1 = n)) → ∀ (W : World) ty, RowAt W 109 g zs → ∃ w', (Builtin.append_ #[94, 94] ty #[.slice (some ⟨g, 0, none⟩) k c, .slice A q d]).run Try.prog W = .ok (.slice (some ⟨g, 0, none⟩) m c) w' ∧ Wrote W w' 109 g zs1 := by
    rintro A d q rfl hA W ty hW
    have hs2 : Rd W A ((l.drop (k + 1)).flatMap nbV) := by
      rcases hA with rfl | hA
      · exact row_tail hW ht (k + 1) (by omega)
      · left
        rw [List.drop_eq_nil_of_le (by omega)]; rfl
    obtain ⟨w', h1, h2⟩ := run_appK_room elemNb hW ty k c A (n - (k + 1)) d _ hs2 hsl (by omega) (by rw [hsl, hz]; omega) (nb_one _)
    rw [← hzs1] at h2
    rw [show k + (n - (k + 1)) = m by omega] at h1
    exact ⟨w', h1, h2⟩
  have hb2 : ∀ (W : World) ty (d q : Nat), q = n - m → RowAt W 109 g zs1 → ∃ w', (Builtin.clear_ #[94] ty #[.slice (some ⟨g, m * 8, none⟩) q d]).run Try.prog W = .ok (.tuple #[]) w' ∧ ∃ zs2, Wrote W w' 109 g zs2 ∧ zs2.length = c * 8 ∧ zs2.take (m * 8) = (l.take k ++ l.drop (k + 1)).flatMap nbV := by
    rintro W ty d q rfl hW
    obtain ⟨w', h1, h2⟩ := run_clearK elemNb (by decide) hW ty (m * 8) (n - m) d (by rw [hlen1]; omega)
    refine ⟨w', h1, _, h2, ?_, ?_⟩
    · rw [List.length_append, List.length_append, List.length_take, List.length_drop, hlen1, zer_len elemNb]; omega
    · rw [List.append_assoc, List.take_left' (by rw [List.length_take, hlen1]; omega), htk1]
  have HA := Lib.hid ha
  have HB2 := Lib.hid hb2
  have HROW := Lib.hid hrow
  have HL := Lib.hid (show (l.take k ++ l.drop (k + 1)).length = m by rw [List.length_append, List.length_take, List.length_drop, hl]; omega)
  clear hown hrow ht hl hz hsrc hsl hzs1 hlen1 htk1 ha hb2
  have b7 : (m : Int) ≤ (n : Int) := by omega
  have b8 : ¬ (c = m) := by omega
  have hkc : k ≤ c := by omega
  by_cases hck : c = k + 1
  · obtain rfl : m = k := by omega
    obtain rfl : m + 1 = n := hm
    obtain rfl : c = m + 1 := hck
    have hle : m ≤ m + 1 := by omega
    go_enter Try.func114, Try.ntmps114
    go_wp2_with fail
    refine wp_region_seg (S := fun _ => True) 0 #[true, true, true, true, true, true, true, true] [(0, true), (1, true), (2, true), (3, true), (4, true), (5, true), (6, false), (7, true)] (by kernel_rfl) (by kernel_rfl) (fun _ _ d _ _ h => by first | (cases d <;> exact h) | cases h.1) (trivial) ?_
    have HB := trivial
    iterate 6 (refine seg_take (v := ?_) rfl (Or.inl ⟨by rfl, ?_⟩) ?_; rotate_left; (focus (intro w' hw'; go_simp <;> with_reducible rfl)); try simp only [Act.put, List.setIfInBounds_toArray, List.set_cons_zero, List.set_cons_succ])
    refine seg_run rfl (fun K hK => ?_)
    rw [if_pos (by rfl)]
    obtain ⟨w1, hr1, hW1⟩ := HA.out (some ⟨g, 0, none⟩) 0 0 (by omega) (.inr trivial) w.drew 94 HROW.out.drew
    have HW1 := Lib.hid hW1.drew
    refine op_appRun _ _ _ _ rfl _ _ rfl rfl hr1 ?_
    clear hr1 hW1
    refine hK.out _ _ (HB) ?_
    clear hK
    try simp only [Act.put, List.setIfInBounds_toArray, List.set_cons_zero, List.set_cons_succ]
    iterate 1 (refine seg_take (v := ?_) rfl (Or.inl ⟨by rfl, ?_⟩) ?_; rotate_left; (focus (intro w' hw'; go_simp <;> with_reducible rfl)); try simp only [Act.put, List.setIfInBounds_toArray, List.set_cons_zero, List.set_cons_succ])
    refine seg_done (fun _ => ?_)
    refine wpAnyH_done (by kernel_rfl) ?_ _
    obtain ⟨w2, hr2, zs2, hW2, hz2, ht2⟩ := HB2.out w1 0 1 1 (by omega) HW1.out.row
    have HW2 := Lib.hid hW2
    have HT2 := Lib.hid ht2
    clear hW2 ht2
    go_wp2_with (refine wp_clearRun rfl _ _ rfl _ rfl hr2 ?_)
    clear hr2
    go_ret
    exact ⟨rfl, own_of_row hb HW2.out.row hz2 (by omega) hcm HT2.out HL.out, (HW1.out.below base hb).trans (HW2.out.below base hb)⟩
  · have hck2 : ¬ (k + 1 = c) := by omega
    have HM := Lib.hid hm
    clear hm
    go_enter Try.func114, Try.ntmps114
    go_wp2_with fail
    refine wp_region_seg (S := fun _ => True) 0 #[true, true, true, true, true, true, true, true] [(0, true), (1, true), (2, true), (3, true), (4, true), (5, true), (6, false), (7, true)] (by kernel_rfl) (by kernel_rfl) (fun _ _ d _ _ h => by first | (cases d <;> exact h) | cases h.1) (trivial) ?_
    have HB := trivial
    iterate 6 (refine seg_take (v := ?_) rfl (Or.inl ⟨by rfl, ?_⟩) ?_; rotate_left; (focus (intro w' hw'; go_simp <;> with_reducible rfl)); try simp only [Act.put, List.setIfInBounds_toArray, List.set_cons_zero, List.set_cons_succ])
    refine seg_run rfl (fun K hK => ?_)
    rw [if_pos (by rfl)]
    obtain ⟨w1, hr1, hW1⟩ := HA.out (some ⟨g, (k + 1) * 8, none⟩) (c - (k + 1)) (n - (k + 1)) rfl (.inl rfl) w.drew 94 HROW.out.drew
    have HW1 := Lib.hid hW1.drew
    refine op_appRun _ _ _ _ rfl _ _ rfl rfl hr1 ?_
    clear hr1 hW1
    refine hK.out _ _ (HB) ?_
    clear hK
    try simp only [Act.put, List.setIfInBounds_toArray, List.set_cons_zero, List.set_cons_succ]
    iterate 1 (refine seg_take (v := ?_) rfl (Or.inl ⟨by rfl, ?_⟩) ?_; rotate_left; (focus (intro w' hw'; go_simp <;> with_reducible rfl)); try simp only [Act.put, List.setIfInBounds_toArray, List.set_cons_zero, List.set_cons_succ])
    refine seg_done (fun _ => ?_)
    refine wpAnyH_done (by kernel_rfl) ?_ _
    have hnm : m ≤ n := by omega
    have hr2 := HB2.out w1 94 (c - m) (n - m) rfl HW1.out.row
    obtain ⟨w2, hr2, zs2, hW2, hz2, ht2⟩ := hr2
    have HW2 := Lib.hid hW2
    have HT2 := Lib.hid ht2
    have HR2 := Lib.hid hr2
    clear hW2 ht2 hr2
    go_wp2_with (refine wp_clearRun rfl _ _ rfl _ rfl HR2.out ?_)
    go_ret
    exact ⟨rfl, own_of_row hb HW2.out.row hz2 (by omega) hcm HT2.out HL.out, (HW1.out.below base hb).trans (HW2.out.below base hb)⟩
/-! ### Insert -/
def RetIns (w : World) (base : Nat) (n : Nat) (l : List Nb) (e : Ending) (w' : World) : Prop := ∃ A c, e = .returned (.slice A n c) ∧ OwNb w' base A n c l ∧ Below base w w'
set_option maxRecDepth 100000 in
theorem insNb_any (base : Nat) (A : Option Addr) (n c : Nat) (l : List Nb) (k vb : Nat) (x : Nb) (w : World) (hown : OwNb w base A n c l) (hk : k ≤ n) (hn8 : n ≤ 1000) (hbw : base ≤ w.heap.size) (hv : NbAt w vb x) (hne : ∀ a, A = some a → a.block ≠ vb) :
    Calls Try.prog 115 #[.slice A n c, .int .i64 (k : Int), .slice (some ⟨vb, 0, none⟩) 1 1] w (RetIns w base (n + 1) (l.take k ++ x :: l.drop k)) := by
  have hl := hown.lent
  have hvr : Rd w (some ⟨vb, 0, none⟩) (nbV x) := .inr ⟨vb, 0, rfl, hv.lt, fun i v hi => by
    rw [Nat.zero_add, cell_of_row _ _ i _ _ _ hv]; simpa [nbA, nbV] using hi⟩
  have hfm : (l.flatMap nbV) ++ nbV x = (l ++ [x]).flatMap nbV := by simp
  by_cases hkn : k = n
  · subst hkn
    have hfin : l.take k ++ x :: l.drop k = l ++ [x] := by rw [List.take_of_length_le (by omega), List.drop_eq_nil_of_le (by omega)]
    rw [hfin]
    have HO := Lib.hid hown
    have HV := Lib.hid hvr
    clear hown hv hvr hfin hl hne
    go_enter Try.func115, Try.ntmps115
    go_wp2_with (at_builtin; refine wp_app8 rfl _ _ rfl base _ k _ rfl HO.out _ 1 1 (nbV x) rfl HV.out rfl (by simp [nbV, Value.oneCell']) (by omega) hbw (k + 1) _ rfl hfm ?_; intro A4 c4 w4 ho4 hg4)
    all_goals
      have hb4 : Below base w w4 := (Below.refl base w).grown hg4 hbw (fun q hq => (HO.out.lt q hq).1)
      go_ret
      exact ⟨A4, c4, rfl, ho4, hb4⟩
  · obtain ⟨g, zs, rfl, hb, hrow, hz, hnc, hcm, ht, _⟩ := hown.row (by omega)
    have hgv : g ≠ vb := hne _ rfl
    have hc63 : c ≤ 9223372036854775807 := by unfold maxLen at hcm; omega
    have hlt : k < n := by omega
    have hD : ((l.drop k).flatMap nbV).length = (n - k) * 8 := by rw [nbs_len, List.length_drop, hl]; omega
    have hL : zs.take (k * 8) = (l.take k).flatMap nbV := by
      rw [← nbs_take, ← ht, List.take_take]; congr 1; omega
    have hLl : ((l.take k).flatMap nbV).length = k * 8 := by rw [nbs_len, List.length_take, hl]; omega
    have hXl : (nbV x).length = 8 := rfl
    have hfin : (l.take k ++ x :: l.drop k).flatMap nbV = (l.take k).flatMap nbV ++ (nbV x ++ (l.drop k).flatMap nbV) := by rw [List.flatMap_append, List.flatMap_cons]
    have hfl : (l.take k ++ x :: l.drop k).length = n + 1 := by rw [List.length_append, List.length_cons, List.length_take, List.length_drop, hl]; omega
    obtain ⟨D, hDD⟩ : ∃ D, D = (l.drop k).flatMap nbV := ⟨_, rfl⟩
    obtain ⟨L, hLL⟩ : ∃ L, L = (l.take k).flatMap nbV := ⟨_, rfl⟩
    have hD1 : ∀ v ∈ D, v.oneCell' = true := by rw [hDD]; exact nb_one _
    have hsrc : ∀ W : World, RowAt W 109 g zs → Rd W (some ⟨g, k * 8, none⟩) D := fun W hW => by rw [hDD]; exact row_tail hW ht k hk
    rw [← hDD] at hD hfin
    rw [← hLL] at hL hLl hfin
    have hX1 : ∀ v ∈ nbV x, v.oneCell' = true := by simp [nbV, Value.oneCell']
    by_cases hcn : c = n
    · obtain rfl : n = c := hcn.symm
      have ha : ∃ c' w1, (Builtin.append_ #[94, 3] 94 #[.slice (some ⟨g, 0, none⟩) k n, .int .i64 ((n + 1 - k : Nat) : Int)]).run Try.prog w = .ok (.slice (some ⟨w.heap.size, 0, none⟩) (n + 1) c') w1 ∧ n + 1 ≤ c' ∧ c' ≤ maxLen ∧ Below w.heap.size w w1 ∧ w1.heap.size = w.heap.size + 1 ∧ ∃ r1 : List Value, RowAt w1 109 w.heap.size r1 ∧ r1.length = c' * 8 ∧ r1.take (k * 8) = L := by
        obtain ⟨c', w1, h1, h2, h3, h4, h5, rest, h6, h7⟩ := run_appK_zeros elemNb hrow 94 3 .i64 .i64 Try.underlying3 k n (n + 1 - k) (by rw [hz]; omega) (by omega) (by omega) (by omega) (by omega)
        rw [show k + (n + 1 - k) = n + 1 by omega] at h1 h2
        refine ⟨c', w1, h1, h2, h3, h4, h5, _, h6, h7, ?_⟩
        rw [hL, List.append_assoc, List.take_left' hLl]
      obtain ⟨c', w1, hr1, hc1, hc2, hB1, hz1, r1, hrow1, hlr1, htk1⟩ := ha
      have hXw : Rd w1 (some ⟨vb, 0, none⟩) (nbV x) := hvr.below hB1
      obtain ⟨w2, hr2, hW2⟩ := run_copyK elemNb hrow1 3 94 (k * 8) (n + 1 - k) (c' - k) (some ⟨vb, 0, none⟩) 1 1 (nbV x) hXw (by rw [hXl]; simp only [Nat.min_def]; split <;> omega) (by rw [hXl, hlr1]; omega) hX1
      have hglt := hrow.lt
      have hrow2 := (hW2.keep (by omega) (hrow.up hB1)).drew
      obtain ⟨w3, hr3, hW3⟩ := run_copyK elemNb hW2.row.drew 3 94 ((k + 1) * 8) (n + 1 - (k + 1)) (c' - (k + 1)) (some ⟨g, k * 8, none⟩) (n - k) (n - k) D (hsrc _ hrow2) (by rw [hD, show n + 1 - (k + 1) = n - k by omega]; simp) (by rw [hD]; simp only [List.length_append, List.length_take, List.length_drop, hXl, hlr1]; omega) hD1
      have htk3 : (((r1.take (k * 8) ++ nbV x ++ r1.drop (k * 8 + (nbV x).length)).take ((k + 1) * 8) ++ D ++ (r1.take (k * 8) ++ nbV x ++ r1.drop (k * 8 + (nbV x).length)).drop ((k + 1) * 8 + D.length)).take ((n + 1) * 8)) = (l.take k ++ x :: l.drop k).flatMap nbV := by
        have e1 : ∀ T : List Value, (L ++ nbV x ++ T).take ((k + 1) * 8) = L ++ nbV x := fun T => List.take_left' (by rw [List.length_append, hLl, hXl]; omega)
        have e2 : ∀ T : List Value, (L ++ nbV x ++ D ++ T).take ((n + 1) * 8) = L ++ nbV x ++ D := fun T => List.take_left' (by rw [List.length_append, List.length_append, hLl, hXl, hD]; omega)
        rw [hfin, htk1, e1, e2, List.append_assoc]
      have hlr3 : ((r1.take (k * 8) ++ nbV x ++ r1.drop (k * 8 + (nbV x).length)).take ((k + 1) * 8) ++ D ++ (r1.take (k * 8) ++ nbV x ++ r1.drop (k * 8 + (nbV x).length)).drop ((k + 1) * 8 + D.length)).length = c' * 8 := by
        simp only [List.length_append, List.length_take, List.length_drop, hXl, hlr1, hD]; omega
      have HRO := Lib.hid (own_of_row hbw hW3.row hlr3 hc1 hc2 htk3 hfl)
      have HBB := Lib.hid (((hB1.mono hbw).trans (hW2.below base hbw)).drew.trans (hW3.below base hbw))
      clear hown hv hvr hne hrow hz ht hD hL hLl hXl hfin hfl hDD hLL hD1 hX1 hsrc hXw hrow1 hlr1 htk1 hrow2 hW2 hW3 htk3 hlr3 hB1 hfm hl
      obtain ⟨M, hM⟩ : ∃ M, M = n + 1 - k := ⟨_, rfl⟩
      have e1 : (n : Int) + 1 - (k : Int) = (M : Int) := by omega
      rw [← hM] at hr1
      have e2 : n + 1 - k = M := hM.symm
      have h1n : ¬ (n = k) := by omega
      have h2n : ¬ ((k : Int) = (n : Int)) := by omega
      have h3n : ((k : Int) == (n : Int)) = false := beq_eq_false_iff_ne.2 h2n
      have h4n : decide ((n : Int) < (n : Int) + 1) = true := decide_eq_true (by omega)
      have h5n : ¬ (c' = k) := by omega
      have h6n : ¬ (c' = k + 1) := by omega
      have h7n : k ≤ n + 1 := by omega
      have h8n : k ≤ c' := by omega
      have h9n : (k : Int) + 1 ≤ (n : Int) + 1 := by omega
      rw [show n + 1 - (k + 1) = n - k by omega] at hr3
      have HR1 := Lib.hid hr1
      have HR3 := Lib.hid hr3
      have HE2 := Lib.hid e2
      have HM := Lib.hid hM
      clear hr1 hr3 hM e2
      go_enter Try.func115, Try.ntmps115
      go_wp2_with (refine wp_appRun rfl _ _ _ _ rfl _ _ rfl rfl HR1.out ?_)
      clear hr2 e1
      have e3 : IntKind.i64.wrap ((k : Int) + 1) = (k : Int) + 1 := by rw [IntKind.wrap_i64]; omega
      have e4 : (0 : Int) ≤ (k : Int) + 1 := by omega
      have e5 : ((k : Int) + 1).toNat = k + 1 := by omega
      refine wp_region_seg (S := fun _ => True) 0 #[true, true, true, true, true, true, true, true, true] [(0, true), (1, true), (2, true), (3, true), (4, true), (5, true), (6, true), (7, true), (8, false)] (by kernel_rfl) (by kernel_rfl) (fun _ _ d _ _ h => by first | (cases d <;> exact h) | cases h.1) (trivial) ?_
      have HB := trivial
      iterate 8 (refine seg_take (v := ?_) rfl (Or.inl ⟨by rfl, ?_⟩) ?_; rotate_left; (focus (intro w' hw'; go_simp <;> with_reducible rfl)); try simp only [Act.put, List.setIfInBounds_toArray, List.set_cons_zero, List.set_cons_succ])
      refine seg_run rfl (fun K hK => ?_)
      rw [if_pos (by rfl)]
      refine op_copyRun _ _ _ _ rfl _ _ rfl rfl HR3.out ?_
      refine hK.out _ _ (HB) ?_
      clear hK
      try simp only [Act.put, List.setIfInBounds_toArray, List.set_cons_zero, List.set_cons_succ]
      refine seg_done (fun _ => ?_)
      refine wpAnyH_done (by kernel_rfl) ?_ _
      go_wp2_with fail
      go_ret
      exact ⟨_, _, rfl, HRO.out, HBB.out⟩
    · have hc1 : n + 1 ≤ c := by omega
      have hgl := hrow.lt
      have hsz : ∀ W, (Go.sizeOf 109).run Try.prog W = .ok 8 W := fun W => by
        obtain ⟨i, hi, _, h8, _⟩ := elemNb.info
        simp [Go.sizeOf, typeInfo, hi, h8]
      have hvs : w.shape? vb = some (109, 8) := by
        have : RowAt w 109 vb (nbV x) := hv
        have h := this.shape; rw [h, hXl]
      have hov : ∀ lb cb, (callFunc 143 #[.slice (some ⟨vb, 0, none⟩) 1 1, .slice (some ⟨g, (k + 1) * 8, none⟩) lb cb]).run Try.prog w = .ok (.value (.bool false)) w := fun lb cb => by
        rw [run_callFunc_extern Try.func143 (by kernel_rfl) (by kernel_rfl) (by kernel_rfl) (e := Extern.SlicesOverlaps.overlaps #[94, 94] #[4]) (by kernel_rfl),
          Lib.run_overlaps_apart w 94 4 109 Try.underlying94 8 hsz ⟨vb, 0, none⟩ ⟨g, (k + 1) * 8, none⟩ 1 1 lb cb (fun e => hgv e.symm) 109 109 8 zs.length hvs hrow.shape (by rw [hz]; omega) (frozen_of_row w vb 0 _ _ hv) (frozen_of_row w vb 8 _ _ hv)]
        rfl
      obtain ⟨w1, hr1, hW1⟩ := run_copyK elemNb hrow.drew 3 94 ((k + 1) * 8) (n + 1 - (k + 1)) (c - (k + 1)) (some ⟨g, k * 8, none⟩) (n + 1 - k) (c - k) D (hsrc _ hrow.drew) (by rw [hD]; simp only [Nat.min_def]; split <;> omega) (by rw [hD, hz]; omega) hD1
      have hW1 := hW1.drew
      have hXw : Rd w1 (some ⟨vb, 0, none⟩) (nbV x) := hW1.rd (fun a ha => by injection ha with ha; subst ha; exact fun e => hgv e.symm) hvr
      obtain ⟨w2, hr2, hW2⟩ := run_copyK elemNb hW1.row 3 94 (k * 8) (n + 1 - k) (c - k) (some ⟨vb, 0, none⟩) 1 1 (nbV x) hXw (by rw [hXl]; simp only [Nat.min_def]; split <;> omega) (by rw [hXl, List.length_append, List.length_append, List.length_take, List.length_drop, hD, hz]; omega) hX1
      obtain ⟨T, hT⟩ : ∃ T, T = zs.drop ((k + 1) * 8 + D.length) := ⟨_, rfl⟩
      have htk2 : (((zs.take ((k + 1) * 8) ++ D ++ zs.drop ((k + 1) * 8 + D.length)).take (k * 8) ++ nbV x ++ (zs.take ((k + 1) * 8) ++ D ++ zs.drop ((k + 1) * 8 + D.length)).drop (k * 8 + (nbV x).length)).take ((n + 1) * 8)) = (l.take k ++ x :: l.drop k).flatMap nbV := by
        have e1 : (zs.take ((k + 1) * 8) ++ D ++ T).take (k * 8) = L := by
          rw [List.append_assoc, List.take_append_of_le_length (by rw [List.length_take, hz]; omega), List.take_take, ← hL]; congr 1; omega
        have e2 : (zs.take ((k + 1) * 8) ++ D ++ T).drop (k * 8 + (nbV x).length) = D ++ T := by
          rw [List.append_assoc, List.drop_left' (by rw [List.length_take, hXl, hz]; omega)]
        rw [← hT, e1, e2, hfin, ← List.append_assoc, ← List.append_assoc, List.take_left' (by rw [List.length_append, List.length_append, hLl, hXl, hD]; omega)]
      have hlr2 : ((zs.take ((k + 1) * 8) ++ D ++ zs.drop ((k + 1) * 8 + D.length)).take (k * 8) ++ nbV x ++ (zs.take ((k + 1) * 8) ++ D ++ zs.drop ((k + 1) * 8 + D.length)).drop (k * 8 + (nbV x).length)).length = c * 8 := by
        simp only [List.length_append, List.length_take, List.length_drop, hXl, hz, hD]; omega
      have HRO := Lib.hid (own_of_row hb hW2.row hlr2 hc1 hcm htk2 hfl)
      have HBB := Lib.hid ((hW1.below base hb).trans (hW2.below base hb))
      rw [show n + 1 - (k + 1) = n - k by omega] at hr1
      have HR1 := Lib.hid hr1
      have h2n : ¬ ((k : Int) = (n : Int)) := by omega
      have h3n : ((k : Int) == (n : Int)) = false := beq_eq_false_iff_ne.2 h2n
      have h4n : decide ((c : Int) < (n : Int) + 1) = false := decide_eq_false (by omega)
      have h4m : (n : Int) + 1 ≤ (c : Int) := by omega
      have h5n : ¬ (c = k) := by omega
      have h6n : ¬ (c = k + 1) := by omega
      have h7n : k ≤ n + 1 := by omega
      have h9n : (k : Int) + 1 ≤ (n : Int) + 1 := by omega
      have h8n : (k : Int) ≤ (n : Int) + 1 := by omega
      clear hown hv hvr hne hrow hz ht hD hL hLl hXl hfin hfl hDD hLL hD1 hX1 hsrc hXw hW1 hW2 htk2 hlr2 hfm hl hT hvs hsz hr1
      go_enter Try.func115, Try.ntmps115
      go_wp2_with (simp only [hov])
      clear hov
      have e3 : IntKind.i64.wrap ((k : Int) + 1) = (k : Int) + 1 := by rw [IntKind.wrap_i64]; omega
      have e4 : (0 : Int) ≤ (k : Int) + 1 := by omega
      have e5 : ((k : Int) + 1).toNat = k + 1 := by omega
      refine wp_region_seg (S := fun _ => True) 0 #[true, true, true, true, true, true, true, true, true] [(0, true), (1, true), (2, true), (3, true), (4, true), (5, true), (6, true), (7, true), (8, false)] (by kernel_rfl) (by kernel_rfl) (fun _ _ d _ _ h => by first | (cases d <;> exact h) | cases h.1) (trivial) ?_
      have HB := trivial
      iterate 8 (refine seg_take (v := ?_) rfl (Or.inl ⟨by rfl, ?_⟩) ?_; rotate_left; (focus (intro w' hw'; go_simp <;> with_reducible rfl)); try simp only [Act.put, List.setIfInBounds_toArray, List.set_cons_zero, List.set_cons_succ])
      refine seg_run rfl (fun K hK => ?_)
      rw [if_pos (by rfl)]
      refine op_copyRun _ _ _ _ rfl _ _ rfl rfl HR1.out ?_
      refine hK.out _ _ (HB) ?_
      clear hK
      try simp only [Act.put, List.setIfInBounds_toArray, List.set_cons_zero, List.set_cons_succ]
      refine seg_done (fun _ => ?_)
      refine wpAnyH_done (by kernel_rfl) ?_ _
      go_wp2_with fail
      go_ret
      exact ⟨_, _, rfl, HRO.out, HBB.out⟩
end Go.Proofs.Ytnfepikgbdeomaa
