/-
  The law NumTurns.
-/
import Derived.Test.YthaampcfkmfjcaaNumK
namespace Go.Proofs.Ythaampcfkmfjcaa
open Go.RowKit
set_option linter.unusedVariables false
set_option linter.unusedSimpArgs false

def TurnI (w : World) (k : Nat) (i : Value) (wr : World) : Prop := ∃ j : Nat, j ≤ k ∧ i = .int .i64 (j : Nat) ∧ Below w.heap.size w wr
theorem turn_bytes (x k j : Nat) (h : j < k) : ∃ u, (leB x k)[j]? = some u ∧ (beB x k)[k - 1 - j]? = some u := by
  have hl : j < (leB x k).length := by rw [leB_length]; exact h
  refine ⟨(leB x k)[j], List.getElem?_eq_getElem hl, ?_⟩
  unfold beB
  rw [List.getElem?_reverse (by rw [leB_length]; omega), leB_length, show k - 1 - (k - 1 - j) = j by omega]
  exact List.getElem?_eq_getElem hl

theorem turns_main (x k m : Nat) (w : World) (hx : x < 18446744073709551616) (hk : k ≤ 8) (hm : m ≤ k) :
    Calls Try.prog 10 #[.int .u64 x, .int .i64 k, .int .i64 m] w (RetV w (.bool true)) := by
  have d1 : decide ((k : Int) < 0) = false := decide_eq_false (by omega)
  have d2 : decide ((8 : Int) < (k : Int)) = false := decide_eq_false (by omega)
  have d3 : decide ((m : Int) < 0) = false := decide_eq_false (by omega)
  have d4 : decide (k < m) = false := decide_eq_false (by omega)
  have hck : clamp (k : Int) = k := by unfold clamp; split <;> (try split) <;> omega
  have HC := Lib.hid hck
  clear hck
  go_enter Try.func10, Try.ntmps10
  go_wp2_with fail
  refine (le_any x k _ hx).mono ?_
  rintro e w1 ⟨A1, n1, c1, rfl, ho1, hb1⟩
  rw [HC.out] at ho1
  obtain rfl : n1 = k := by rw [← ho1.len, leB_length]
  go_wp2_with fail
  refine (be_any x n1 _ hx).mono ?_
  rintro e w2 ⟨A2, n2, c2, rfl, ho2, hb2⟩
  rw [HC.out] at ho2
  obtain rfl : n2 = n1 := by rw [← ho2.len, beB_length]
  have r1 := ho1.rd.below hb2
  have r2 := ho2.rd
  go_wp2
  go_loopw [9] (TurnI w2 n2) (fun i _ => n2 - (intOf i).toNat)
  case atStart => exact ⟨0, Nat.zero_le _, rfl, Below.refl _ _⟩
  case round =>
    obtain ⟨j, hj, rfl, hB⟩ := hrel
    by_cases hlt : j < n2
    · obtain ⟨q, hq⟩ : ∃ q, q = n2 - 1 - j := ⟨_, rfl⟩
      obtain ⟨u, hu1, hu2⟩ := turn_bytes x n2 j hlt
      rw [← hq] at hu2
      obtain ⟨b, o, u1, rfl, hbl, hv1, hc1⟩ := (r1.below hB).at_ j hlt
      obtain ⟨b2, o2, u2, rfl, hbl2, hv2, hc2⟩ := (r2.below hB).at_ q (by omega)
      rw [hu1] at hv1
      rw [hu2] at hv2
      obtain rfl : u = u1 := by injection hv1
      obtain rfl : u = u2 := by injection hv2
      have k1 : (j : Int) < (n2 : Int) := by omega
      have k0 : (0 : Int) ≤ (j : Int) := by omega
      have k2 : (n2 : Int) - 1 - (j : Int) = (q : Int) := by omega
      have k3 : (0 : Int) ≤ (q : Int) := by omega
      have k4 : (q : Int) < (n2 : Int) := by omega
      have s1 : IntKind.i64.wrap ((n2 : Int) - 1) = (n2 : Int) - 1 := IntWalk.i64_in _ (by omega)
      have s2 : IntKind.i64.wrap (q : Int) = (q : Int) := IntWalk.i64_in _ (by omega)
      clear hq hu1 hu2 hv1 hv2
      go_wp2_with fail
      refine wp_region_plan (S := fun w' => Below wr.heap.size wr w') [(0, true), (1, true), (2, true), (3, true), (4, true), (5, true), (6, true), (7, true), (8, true), (9, true), (10, true), (11, true)] (by kernel_rfl) (by kernel_rfl) (fun _ _ d _ _ h => by cases d <;> exact h) ((Below.refl _ wr).drew) ?_
      iterate 12 (refine plan_take (v := ?_) rfl (Or.inl ⟨by rfl, ?_⟩) ?_; rotate_left; (focus (intro w' hw'; have j1 := (hw'.cell (p := ⟨b, o + j, none⟩) hbl).trans hc1; have j2 := (hw'.cell (p := ⟨b2, o2 + q, none⟩) hbl2).trans hc2; go_simp <;> with_reducible rfl)); try simp only [Act.put, List.setIfInBounds_toArray, List.set_cons_zero, List.set_cons_succ])
      refine plan_done ?_
      go_wp2
      go_roundw
      case rel => exact ⟨j + 1, by omega, by go_num, hB.drew⟩
      case measure => simp [intOf] <;> omega
    · obtain rfl : j = n2 := by omega
      obtain ⟨q, hq⟩ : ∃ q, q = j - m := ⟨_, rfl⟩
      have hcm : clamp (m : Int) = m := by unfold clamp; split <;> (try split) <;> omega
      have T1 := Lib.hid (show leB x (clamp (m : Int)) = (leB x j).take m by rw [hcm, leB_take x m j hm])
      have T2 := Lib.hid (show beB x (clamp (m : Int)) = (beB x j).drop q by rw [hcm, hq, beB_drop x m j hm])
      have rr1 := r1.below hB
      have rr2 := r2.below hB
      have hc1 := rr1.2.2.1
      have hc2 := rr2.2.2.1
      have m0 : (0 : Int) ≤ (m : Int) := by omega
      have m1 : (m : Int) ≤ (c1 : Int) := by omega
      have k2 : (j : Int) - (m : Int) = (q : Int) := by omega
      have k3 : (0 : Int) ≤ (q : Int) := by omega
      have k4 : (q : Int) ≤ (j : Int) := by omega
      have k5 : j - q = m := by omega
      have s2 : IntKind.i64.wrap (q : Int) = (q : Int) := IntWalk.i64_in _ (by omega)
      have hqj : j = q + m := by omega
      clear hq hcm
      by_cases hca : c2 = q
      · have r4 : ∀ (W : World) (a : Option Addr) (d : Nat), d ≤ maxLen → RdB W a 0 d [] := fun W a d hd => ⟨.inl rfl, rfl, Nat.zero_le _, hd⟩
        have hm0 : m = 0 := by omega
        subst hm0
        have T4 := Lib.hid (show beB x (clamp (0 : Int)) = [] by rfl)
        have T3 := Lib.hid (show leB x (clamp (0 : Int)) = (leB x j).take 0 by rfl)
        have hqj2 : q = j := by omega
        have hcj : c2 = j := by omega
        clear hqj hca
        subst hqj2
        subst hcj
        go_wp2_with fail
        refine wp_region_plan (S := fun w' => Below wr.heap.size wr w') [(0, true), (1, true), (3, true), (4, true), (5, true), (2, false), (6, false), (7, true), (8, true), (9, true), (11, true), (12, true), (13, true), (14, true), (15, true), (10, false), (16, false), (17, true), (18, true), (19, false), (20, true), (21, true)] (by kernel_rfl) (by kernel_rfl) (fun _ _ d _ _ h => by cases d <;> exact h) ((Below.refl _ wr).drew) ?_
        iterate 5 (refine plan_take (v := ?_) rfl (Or.inl ⟨by rfl, ?_⟩) ?_; rotate_left; (focus (intro w' hw'; go_simp <;> with_reducible rfl)); try simp only [Act.put, List.setIfInBounds_toArray, List.set_cons_zero, List.set_cons_succ])
        refine plan_run rfl (fun K hK => ?_)
        go_simp
        refine (le_any x 0 _ hx).mono ?_
        rintro e w3 ⟨A3, n3, c3, rfl, ho3, hb3⟩
        have B3 : Below wr.heap.size wr w3 := undrew hb3
        refine hK.out _ _ (B3) ?_
        clear hK
        try simp only [Act.put, List.setIfInBounds_toArray, List.set_cons_zero, List.set_cons_succ]
        refine plan_run rfl (fun K hK => ?_)
        go_simp
        refine (bytes_any A3 A1 n3 c3 0 c1 _ _ _ ho3.rd ((rr1.take 0 hm).below B3)).mono ?_
        rintro e w4 ⟨rfl, rfl⟩
        rw [T3.out, decide_eq_true rfl]
        refine hK.out _ _ (B3) ?_
        clear hK
        try simp only [Act.put, List.setIfInBounds_toArray, List.set_cons_zero, List.set_cons_succ]
        iterate 8 (refine plan_take (v := ?_) rfl (Or.inl ⟨by rfl, ?_⟩) ?_; rotate_left; (focus (intro w' hw'; go_simp <;> with_reducible rfl)); try simp only [Act.put, List.setIfInBounds_toArray, List.set_cons_zero, List.set_cons_succ])
        refine plan_run rfl (fun K hK => ?_)
        go_simp
        refine (be_any x 0 _ hx).mono ?_
        rintro e w4 ⟨A4, n4, c4, rfl, ho4, hb4⟩
        have B4 := below_then B3 hb4
        refine hK.out _ _ (B4) ?_
        clear hK
        try simp only [Act.put, List.setIfInBounds_toArray, List.set_cons_zero, List.set_cons_succ]
        refine plan_run rfl (fun K hK => ?_)
        go_simp
        refine (bytes_any A4 _ n4 c4 0 _ _ _ _ ho4.rd (r4 _ _ _ (by simp [maxLen]))).mono ?_
        rintro e w5 ⟨rfl, rfl⟩
        rw [T4.out, decide_eq_true rfl]
        refine hK.out _ _ (B4) ?_
        clear hK
        try simp only [Act.put, List.setIfInBounds_toArray, List.set_cons_zero, List.set_cons_succ]
        iterate 2 (refine plan_take (v := ?_) rfl (Or.inl ⟨by rfl, ?_⟩) ?_; rotate_left; (focus (intro w' hw'; go_simp <;> with_reducible rfl)); try simp only [Act.put, List.setIfInBounds_toArray, List.set_cons_zero, List.set_cons_succ])
        refine plan_run rfl (fun K hK => ?_)
        go_simp
        refine (heads01 _).mono ?_
        rintro e w6 ⟨rfl, hb6⟩
        have B6 := below_then B4 hb6
        refine hK.out _ _ (B6) ?_
        clear hK
        try simp only [Act.put, List.setIfInBounds_toArray, List.set_cons_zero, List.set_cons_succ]
        iterate 2 (refine plan_take (v := ?_) rfl (Or.inl ⟨by rfl, ?_⟩) ?_; rotate_left; (focus (intro w' hw'; go_simp <;> with_reducible rfl)); try simp only [Act.put, List.setIfInBounds_toArray, List.set_cons_zero, List.set_cons_succ])
        refine plan_done ?_
        go_wp2
        go_ret
        exact ⟨rfl, below_then (below_then (below_then hb1 hb2) hB) B6⟩
      · have hr4 := rr2.cut q m hqj (by omega)
        clear hqj
        go_wp2_with fail
        refine wp_region_plan (S := fun w' => Below wr.heap.size wr w') [(0, true), (1, true), (3, true), (4, true), (5, true), (2, false), (6, false), (7, true), (8, true), (9, true), (11, true), (12, true), (13, true), (14, true), (15, true), (10, false), (16, false), (17, true), (18, true), (19, false), (20, true), (21, true)] (by kernel_rfl) (by kernel_rfl) (fun _ _ d _ _ h => by cases d <;> exact h) ((Below.refl _ wr).drew) ?_
        iterate 5 (refine plan_take (v := ?_) rfl (Or.inl ⟨by rfl, ?_⟩) ?_; rotate_left; (focus (intro w' hw'; go_simp <;> with_reducible rfl)); try simp only [Act.put, List.setIfInBounds_toArray, List.set_cons_zero, List.set_cons_succ])
        refine plan_run rfl (fun K hK => ?_)
        go_simp
        refine (le_any x m _ hx).mono ?_
        rintro e w3 ⟨A3, n3, c3, rfl, ho3, hb3⟩
        have B3 : Below wr.heap.size wr w3 := undrew hb3
        refine hK.out _ _ (B3) ?_
        clear hK
        try simp only [Act.put, List.setIfInBounds_toArray, List.set_cons_zero, List.set_cons_succ]
        refine plan_run rfl (fun K hK => ?_)
        go_simp
        refine (bytes_any A3 A1 n3 c3 m c1 _ _ _ ho3.rd ((rr1.take m hm).below B3)).mono ?_
        rintro e w4 ⟨rfl, rfl⟩
        rw [T1.out, decide_eq_true rfl]
        refine hK.out _ _ (B3) ?_
        clear hK
        try simp only [Act.put, List.setIfInBounds_toArray, List.set_cons_zero, List.set_cons_succ]
        iterate 8 (refine plan_take (v := ?_) rfl (Or.inl ⟨by rfl, ?_⟩) ?_; rotate_left; (focus (intro w' hw'; go_simp <;> with_reducible rfl)); try simp only [Act.put, List.setIfInBounds_toArray, List.set_cons_zero, List.set_cons_succ])
        refine plan_run rfl (fun K hK => ?_)
        go_simp
        refine (be_any x m _ hx).mono ?_
        rintro e w4 ⟨A4, n4, c4, rfl, ho4, hb4⟩
        have B4 := below_then B3 hb4
        refine hK.out _ _ (B4) ?_
        clear hK
        try simp only [Act.put, List.setIfInBounds_toArray, List.set_cons_zero, List.set_cons_succ]
        refine plan_run rfl (fun K hK => ?_)
        go_simp
        refine (bytes_any A4 _ n4 c4 m _ _ _ _ ho4.rd (hr4.below B4)).mono ?_
        rintro e w5 ⟨rfl, rfl⟩
        rw [T2.out, decide_eq_true rfl]
        refine hK.out _ _ (B4) ?_
        clear hK
        try simp only [Act.put, List.setIfInBounds_toArray, List.set_cons_zero, List.set_cons_succ]
        iterate 2 (refine plan_take (v := ?_) rfl (Or.inl ⟨by rfl, ?_⟩) ?_; rotate_left; (focus (intro w' hw'; go_simp <;> with_reducible rfl)); try simp only [Act.put, List.setIfInBounds_toArray, List.set_cons_zero, List.set_cons_succ])
        refine plan_run rfl (fun K hK => ?_)
        go_simp
        refine (heads01 _).mono ?_
        rintro e w6 ⟨rfl, hb6⟩
        have B6 := below_then B4 hb6
        refine hK.out _ _ (B6) ?_
        clear hK
        try simp only [Act.put, List.setIfInBounds_toArray, List.set_cons_zero, List.set_cons_succ]
        iterate 2 (refine plan_take (v := ?_) rfl (Or.inl ⟨by rfl, ?_⟩) ?_; rotate_left; (focus (intro w' hw'; go_simp <;> with_reducible rfl)); try simp only [Act.put, List.setIfInBounds_toArray, List.set_cons_zero, List.set_cons_succ])
        refine plan_done ?_
        go_wp2
        go_ret
        exact ⟨rfl, below_then (below_then (below_then hb1 hb2) hB) B6⟩
theorem turns_low (x : Nat) (s f : Int) (w : World) (h1 : s < 0) : Calls Try.prog 10 #[.int .u64 x, .int .i64 s, .int .i64 f] w (RetV w (.bool true)) := by
  have d1 : decide (s < 0) = true := decide_eq_true h1
  go_enter Try.func10, Try.ntmps10
  go_wp2_with fail
  refine (heads01 _).mono ?_
  rintro e w9 ⟨rfl, hb9⟩
  go_wp2
  go_ret
  exact ⟨rfl, hb9⟩

theorem turns_high (x : Nat) (s f : Int) (w : World) (g1 : 0 ≤ s) (h2 : 8 < s) : Calls Try.prog 10 #[.int .u64 x, .int .i64 s, .int .i64 f] w (RetV w (.bool true)) := by
  have d1 : decide (s < 0) = false := decide_eq_false (by omega)
  have d2 : decide (8 < s) = true := decide_eq_true h2
  go_enter Try.func10, Try.ntmps10
  go_wp2_with fail
  refine (heads01 _).mono ?_
  rintro e w9 ⟨rfl, hb9⟩
  go_wp2
  go_ret
  exact ⟨rfl, hb9⟩

theorem turns_neg (x : Nat) (s f : Int) (w : World) (g1 : 0 ≤ s) (g2 : s ≤ 8) (h3 : f < 0) : Calls Try.prog 10 #[.int .u64 x, .int .i64 s, .int .i64 f] w (RetV w (.bool true)) := by
  have d1 : decide (s < 0) = false := decide_eq_false (by omega)
  have d2 : decide (8 < s) = false := decide_eq_false (by omega)
  have d3 : decide (f < 0) = true := decide_eq_true h3
  go_enter Try.func10, Try.ntmps10
  go_wp2_with fail
  refine (heads01 _).mono ?_
  rintro e w9 ⟨rfl, hb9⟩
  go_wp2
  go_ret
  exact ⟨rfl, hb9⟩

theorem turns_more (x : Nat) (s f : Int) (w : World) (g1 : 0 ≤ s) (g2 : s ≤ 8) (g3 : 0 ≤ f) (h4 : s < f) : Calls Try.prog 10 #[.int .u64 x, .int .i64 s, .int .i64 f] w (RetV w (.bool true)) := by
  have d1 : decide (s < 0) = false := decide_eq_false (by omega)
  have d2 : decide (8 < s) = false := decide_eq_false (by omega)
  have d3 : decide (f < 0) = false := decide_eq_false (by omega)
  have d4 : decide (s < f) = true := decide_eq_true h4
  go_enter Try.func10, Try.ntmps10
  go_wp2_with fail
  refine (heads01 _).mono ?_
  rintro e w9 ⟨rfl, hb9⟩
  go_wp2
  go_ret
  exact ⟨rfl, hb9⟩

theorem numTurns_law (x : Nat) (s f : Int) (w : World) (hx : x < 18446744073709551616) (hs : -9223372036854775808 ≤ s ∧ s ≤ 9223372036854775807) (hf : -9223372036854775808 ≤ f ∧ f ≤ 9223372036854775807) :
    Calls Try.prog 10 #[.int .u64 x, .int .i64 s, .int .i64 f] w (RetV w (.bool true)) := by
  rcases Int.lt_or_le s 0 with h1 | h1
  · exact turns_low x s f w h1
  · rcases Int.lt_or_le 8 s with h2 | h2
    · exact turns_high x s f w h1 h2
    · rcases Int.lt_or_le f 0 with h3 | h3
      · exact turns_neg x s f w h1 h2 h3
      · rcases Int.lt_or_le s f with h4 | h4
        · exact turns_more x s f w h1 h2 h3 h4
        · obtain ⟨k, rfl⟩ : ∃ k : Nat, s = k := ⟨s.toNat, by omega⟩
          obtain ⟨m, rfl⟩ : ∃ m : Nat, f = m := ⟨f.toNat, by omega⟩
          exact turns_main x k m w hx (by omega) (by omega)
end Go.Proofs.Ythaampcfkmfjcaa
