/-
  Layer 23: the document's Get; the law UdpTells.
-/
import Derived.Test.YtndabecdfccjlaaUdpF
namespace Go.Proofs.Ytndabecdfccjlaa
set_option maxRecDepth 20000
open Go.RowKit
set_option linter.unusedVariables false
set_option linter.unusedSimpArgs false
set_option maxHeartbeats 8000000

theorem refFld_any (p b o n c : Nat) (xs : List UInt8) (w : World) (hr : RdB w (some ⟨b, o, none⟩) n c xs) (hp : p + 2 ≤ n) :
    Calls Try.prog 26 #[.slice (some ⟨b, o + p, none⟩) 2 (c - p)] w fun e w' => e = .returned (.int .u64 (fld xs p 2 : Nat)) ∧ w = w' := by
  have hc := hr.2.2.1
  have hr2 := (hr.cutS p (n - p) (by omega) (by omega)).take 2 (by omega)
  have hF : fromBe ((xs.drop p).take 2) = fld xs p 2 := by unfold fromBe fld; rw [List.take_of_length_le (by rw [hr2.2.1]; omega)]
  have := refFromBe_any _ _ _ _ w hr2
  rw [hF] at this
  exact this

theorem refUdpGet_short (src dst : Nat) (A : Option Addr) (n c : Nat) (xs : List UInt8) (w : World) (hsrc : src < 4294967296) (hdst : dst < 4294967296) (hr : RdB w A n c xs) (hn : n ≤ 900000) (h : n < 8) : Calls Try.prog 25 #[.int .u32 src, .int .u32 dst, .slice A n c] w (RetUd w 0 0 [] 5) := by
  have d1 : decide ((n : Int) < 8) = true := decide_eq_true (by omega)
  go_enter Try.func25, Try.ntmps25
  go_wp2
  refine bodyPost_ret (v := .tuple #[.int .i64 0, .int .i64 0, .slice none 0 0, .int .i64 5]) (by simp [results, Try.results25, go_sem]) rfl ?_
  exact ⟨none, 0, 0, rfl, RdB.nilB _, below_self w⟩

theorem refUdpGet_ways (src dst : Nat) (A : Option Addr) (n c : Nat) (xs : List UInt8) (w : World) (hsrc : src < 4294967296) (hdst : dst < 4294967296) (hr : RdB w A n c xs) (hn : n ≤ 900000) (h8 : 8 ≤ n) (er : Int) (hw : UdWay n (fld xs 4 2) (fld xs 0 2) (fld xs 2 2) (fld xs 6 2) (ipSumN src dst 17 (xs.take (fld xs 4 2))) er) (f t : Nat) (ds : List UInt8) (hf : (er = 0 ∧ f = fld xs 0 2 ∧ t = fld xs 2 2 ∧ ds = (xs.take (fld xs 4 2)).drop 8) ∨ (er ≠ 0 ∧ f = 0 ∧ t = 0 ∧ ds = [])) : Calls Try.prog 25 #[.int .u32 src, .int .u32 dst, .slice A n c] w (RetUd w f t ds er) := by
  have hl := hr.2.1
  have hnc := hr.2.2.1
  have hc63 := hr.c63
  have d1 : decide ((n : Int) < 8) = false := decide_eq_false (by omega)
  obtain ⟨b, o, u, rfl, hbl, _⟩ := hr.at_ 0 (by omega)
  have G0 := fun W (hR : RdB W (some ⟨b, o, none⟩) n c xs) => refFld_any 0 b o n c xs W hR (by omega)
  have G2 := fun W (hR : RdB W (some ⟨b, o, none⟩) n c xs) => refFld_any 2 b o n c xs W hR (by omega)
  have G4 := fun W (hR : RdB W (some ⟨b, o, none⟩) n c xs) => refFld_any 4 b o n c xs W hR (by omega)
  have G6 := fun W (hR : RdB W (some ⟨b, o, none⟩) n c xs) => refFld_any 6 b o n c xs W hR (by omega)
  obtain ⟨L, eL⟩ : ∃ L, fld xs 4 2 = L := ⟨_, rfl⟩
  obtain ⟨F, eF⟩ : ∃ L, fld xs 0 2 = L := ⟨_, rfl⟩
  obtain ⟨T, eT⟩ : ∃ L, fld xs 2 2 = L := ⟨_, rfl⟩
  obtain ⟨Z, eZ⟩ : ∃ L, fld xs 6 2 = L := ⟨_, rfl⟩
  have bL : L < 65536 := by rw [← eL]; exact fld_lt xs 4 2
  have bF : F < 65536 := by rw [← eF]; exact fld_lt xs 0 2
  have bT : T < 65536 := by rw [← eT]; exact fld_lt xs 2 2
  have bZ : Z < 65536 := by rw [← eZ]; exact fld_lt xs 6 2
  have wL := wi64n (k := L) (by omega)
  have wF := wi64n (k := F) (by omega)
  have wT := wi64n (k := T) (by omega)
  rw [eL, eF, eT, eZ] at hw
  rw [eL, eF, eT] at hf
  rw [eF, Nat.add_zero, Nat.sub_zero] at G0
  rw [eT] at G2
  rw [eL] at G4
  rw [eZ] at G6
  obtain ⟨S, eS⟩ : ∃ S, ipSumN src dst 17 (xs.take L) = S := ⟨ipSumN src dst 17 (xs.take L), rfl⟩
  rw [eS] at hw
  have HW := Lib.hid hw
  have HFF := Lib.hid hf
  have ES := Lib.hid eS
  have H0 := Lib.hid G0
  have H2 := Lib.hid G2
  have H4 := Lib.hid G4
  have H6 := Lib.hid G6
  clear hw hf eL eF eT eZ eS G0 G2 G4 G6
  have c2 : (2 : Int) ≤ (c : Int) := by omega
  have c4 : (4 : Int) ≤ (c : Int) := by omega
  have c6 : (6 : Int) ≤ (c : Int) := by omega
  have c8 : (8 : Int) ≤ (c : Int) := by omega
  have m2 : ¬ (c = 2) := by omega
  have m4 : ¬ (c = 4) := by omega
  have m6 : ¬ (c = 6) := by omega
  have m0 : ¬ (c = 0) := by omega
  go_enter Try.func25, Try.ntmps25
  go_wp2_with fail
  refine (H4.out w hr).mono ?_
  rintro e w2 ⟨rfl, rfl⟩
  rcases HW.out with ⟨g1, rfl⟩ | ⟨g1, g2, rfl⟩ | ⟨g1, g2, g3, rfl⟩ | ⟨g1, g2, g3, g4, rfl⟩ | ⟨g1, g2, g3, g4, g5, g6, rfl⟩ | ⟨g1, g2, g3, g4, g5, rfl⟩ | ⟨g1, g2, g3, g4, g5, g6, rfl⟩
  · skip
    have k1 : decide ((n : Int) < (L : Int)) = true := decide_eq_true (by omega)
    have k1n : decide (n < L) = true := decide_eq_true (by omega)
    obtain ⟨f1, f2, f3⟩ := (HFF.out.resolve_left (fun h => absurd h.1 (by decide))).2
    go_wp2
    refine bodyPost_ret (v := .tuple #[.int .i64 0, .int .i64 0, .slice none 0 0, .int .i64 5]) (by simp [results, Try.results25, go_sem]) rfl ?_
    exact ⟨none, 0, 0, by rw [f1, f2]; rfl, by rw [f3]; exact RdB.nilB _, below_self w⟩
  · skip
    have k1 : decide ((n : Int) < (L : Int)) = false := decide_eq_false (by omega)
    have k1n : decide (n < L) = false := decide_eq_false (by omega)
    have k2 : decide ((L : Int) < 8) = true := decide_eq_true (by omega)
    have k2n : decide (L < 8) = true := decide_eq_true (by omega)
    go_wp2_with fail
    refine wp_region_plan (S := fun w' => Below w.heap.size w w') [(0, true), (1, true), (4, true), (5, true), (2, false), (3, true), (6, false), (7, true), (8, true), (9, true)] (by kernel_rfl) (by kernel_rfl) (fun _ _ d _ _ h => by cases d <;> exact h) ((Below.refl _ w).drew) ?_
    iterate 4 (refine plan_take (v := ?_) rfl (Or.inl ⟨by rfl, ?_⟩) ?_; rotate_left; (focus (intro w' hw'; go_simp <;> with_reducible rfl)); try simp only [Act.put, List.setIfInBounds_toArray, List.set_cons_zero, List.set_cons_succ])
    refine plan_run rfl (fun K hK => ?_)
    go_simp
    refine (H0.out w.drew hr.drew).mono ?_
    rintro e v1 ⟨rfl, rfl⟩
    refine hK.out _ _ ((Below.refl _ w).drew) ?_
    clear hK
    try simp only [Act.put, List.setIfInBounds_toArray, List.set_cons_zero, List.set_cons_succ]
    iterate 1 (refine plan_take (v := ?_) rfl (Or.inl ⟨by rfl, ?_⟩) ?_; rotate_left; (focus (intro w' hw'; go_simp <;> with_reducible rfl)); try simp only [Act.put, List.setIfInBounds_toArray, List.set_cons_zero, List.set_cons_succ])
    refine plan_run rfl (fun K hK => ?_)
    go_simp
    refine (H2.out w.drew hr.drew).mono ?_
    rintro e v1 ⟨rfl, rfl⟩
    refine hK.out _ _ ((Below.refl _ w).drew) ?_
    clear hK
    try simp only [Act.put, List.setIfInBounds_toArray, List.set_cons_zero, List.set_cons_succ]
    iterate 3 (refine plan_take (v := ?_) rfl (Or.inl ⟨by rfl, ?_⟩) ?_; rotate_left; (focus (intro w' hw'; go_simp <;> with_reducible rfl)); try simp only [Act.put, List.setIfInBounds_toArray, List.set_cons_zero, List.set_cons_succ])
    refine plan_done ?_
    obtain ⟨f1, f2, f3⟩ := (HFF.out.resolve_left (fun h => absurd h.1 (by decide))).2
    go_wp2
    refine bodyPost_ret (v := .tuple #[.int .i64 0, .int .i64 0, .slice none 0 0, .int .i64 3]) (by simp [results, Try.results25, go_sem]) rfl ?_
    exact ⟨none, 0, 0, by rw [f1, f2]; rfl, by rw [f3]; exact RdB.nilB _, (below_self w).drew⟩
  · skip
    have k1 : decide ((n : Int) < (L : Int)) = false := decide_eq_false (by omega)
    have k1n : decide (n < L) = false := decide_eq_false (by omega)
    have k2 : decide ((L : Int) < 8) = false := decide_eq_false (by omega)
    have k2n : decide (L < 8) = false := decide_eq_false (by omega)
    subst g3
    go_wp2_with fail
    refine wp_region_plan (S := fun w' => Below w.heap.size w w') [(0, true), (1, true), (4, true), (5, true), (2, false), (3, true), (6, false), (7, true), (8, true), (9, true)] (by kernel_rfl) (by kernel_rfl) (fun _ _ d _ _ h => by cases d <;> exact h) ((Below.refl _ w).drew) ?_
    iterate 4 (refine plan_take (v := ?_) rfl (Or.inl ⟨by rfl, ?_⟩) ?_; rotate_left; (focus (intro w' hw'; go_simp <;> with_reducible rfl)); try simp only [Act.put, List.setIfInBounds_toArray, List.set_cons_zero, List.set_cons_succ])
    refine plan_run rfl (fun K hK => ?_)
    go_simp
    refine (H0.out w.drew hr.drew).mono ?_
    rintro e v1 ⟨rfl, rfl⟩
    refine hK.out _ _ ((Below.refl _ w).drew) ?_
    clear hK
    try simp only [Act.put, List.setIfInBounds_toArray, List.set_cons_zero, List.set_cons_succ]
    iterate 1 (refine plan_take (v := ?_) rfl (Or.inl ⟨by rfl, ?_⟩) ?_; rotate_left; (focus (intro w' hw'; go_simp <;> with_reducible rfl)); try simp only [Act.put, List.setIfInBounds_toArray, List.set_cons_zero, List.set_cons_succ])
    refine plan_run rfl (fun K hK => ?_)
    go_simp
    refine (H2.out w.drew hr.drew).mono ?_
    rintro e v1 ⟨rfl, rfl⟩
    refine hK.out _ _ ((Below.refl _ w).drew) ?_
    clear hK
    try simp only [Act.put, List.setIfInBounds_toArray, List.set_cons_zero, List.set_cons_succ]
    iterate 3 (refine plan_take (v := ?_) rfl (Or.inl ⟨by rfl, ?_⟩) ?_; rotate_left; (focus (intro w' hw'; go_simp <;> with_reducible rfl)); try simp only [Act.put, List.setIfInBounds_toArray, List.set_cons_zero, List.set_cons_succ])
    refine plan_done ?_
    obtain ⟨f1, f2, f3⟩ := (HFF.out.resolve_left (fun h => absurd h.1 (by decide))).2
    go_wp2
    refine bodyPost_ret (v := .tuple #[.int .i64 0, .int .i64 0, .slice none 0 0, .int .i64 3]) (by simp [results, Try.results25, go_sem]) rfl ?_
    exact ⟨none, 0, 0, by rw [f1, f2]; rfl, by rw [f3]; exact RdB.nilB _, (below_self w).drew⟩
  · skip
    have k1 : decide ((n : Int) < (L : Int)) = false := decide_eq_false (by omega)
    have k1n : decide (n < L) = false := decide_eq_false (by omega)
    have k2 : decide ((L : Int) < 8) = false := decide_eq_false (by omega)
    have k2n : decide (L < 8) = false := decide_eq_false (by omega)
    have k3 : ((F : Int) == 0) = false := by rw [beq_eq_false_iff_ne]; omega
    subst g4
    go_wp2_with fail
    refine wp_region_plan (S := fun w' => Below w.heap.size w w') [(0, true), (1, true), (4, true), (5, true), (2, false), (3, true), (6, false), (7, true), (8, true), (9, true)] (by kernel_rfl) (by kernel_rfl) (fun _ _ d _ _ h => by cases d <;> exact h) ((Below.refl _ w).drew) ?_
    iterate 4 (refine plan_take (v := ?_) rfl (Or.inl ⟨by rfl, ?_⟩) ?_; rotate_left; (focus (intro w' hw'; go_simp <;> with_reducible rfl)); try simp only [Act.put, List.setIfInBounds_toArray, List.set_cons_zero, List.set_cons_succ])
    refine plan_run rfl (fun K hK => ?_)
    go_simp
    refine (H0.out w.drew hr.drew).mono ?_
    rintro e v1 ⟨rfl, rfl⟩
    refine hK.out _ _ ((Below.refl _ w).drew) ?_
    clear hK
    try simp only [Act.put, List.setIfInBounds_toArray, List.set_cons_zero, List.set_cons_succ]
    iterate 1 (refine plan_take (v := ?_) rfl (Or.inl ⟨by rfl, ?_⟩) ?_; rotate_left; (focus (intro w' hw'; go_simp <;> with_reducible rfl)); try simp only [Act.put, List.setIfInBounds_toArray, List.set_cons_zero, List.set_cons_succ])
    refine plan_run rfl (fun K hK => ?_)
    go_simp
    refine (H2.out w.drew hr.drew).mono ?_
    rintro e v1 ⟨rfl, rfl⟩
    refine hK.out _ _ ((Below.refl _ w).drew) ?_
    clear hK
    try simp only [Act.put, List.setIfInBounds_toArray, List.set_cons_zero, List.set_cons_succ]
    iterate 3 (refine plan_take (v := ?_) rfl (Or.inl ⟨by rfl, ?_⟩) ?_; rotate_left; (focus (intro w' hw'; go_simp <;> with_reducible rfl)); try simp only [Act.put, List.setIfInBounds_toArray, List.set_cons_zero, List.set_cons_succ])
    refine plan_done ?_
    obtain ⟨f1, f2, f3⟩ := (HFF.out.resolve_left (fun h => absurd h.1 (by decide))).2
    go_wp2
    refine bodyPost_ret (v := .tuple #[.int .i64 0, .int .i64 0, .slice none 0 0, .int .i64 3]) (by simp [results, Try.results25, go_sem]) rfl ?_
    exact ⟨none, 0, 0, by rw [f1, f2]; rfl, by rw [f3]; exact RdB.nilB _, (below_self w).drew⟩
  · skip
    have k1 : decide ((n : Int) < (L : Int)) = false := decide_eq_false (by omega)
    have k1n : decide (n < L) = false := decide_eq_false (by omega)
    have k2 : decide ((L : Int) < 8) = false := decide_eq_false (by omega)
    have k2n : decide (L < 8) = false := decide_eq_false (by omega)
    have k3 : ((F : Int) == 0) = false := by rw [beq_eq_false_iff_ne]; omega
    have k4 : ((T : Int) == 0) = false := by rw [beq_eq_false_iff_ne]; omega
    have k5 : ((Z : Int) != 0) = true := by rw [bne_iff_ne]; omega
    have kc1 : (0 : Int) ≤ (L : Int) := by omega
    have kc2 : (L : Int) ≤ (c : Int) := by omega
    have k6 : ((S : Int) != 0) = true := by rw [bne_iff_ne]; omega
    go_wp2_with fail
    refine wp_region_plan (S := fun w' => Below w.heap.size w w') [(0, true), (1, true), (4, true), (5, true), (2, false), (3, true), (6, false), (7, true), (8, true), (9, true)] (by kernel_rfl) (by kernel_rfl) (fun _ _ d _ _ h => by cases d <;> exact h) ((Below.refl _ w).drew) ?_
    iterate 4 (refine plan_take (v := ?_) rfl (Or.inl ⟨by rfl, ?_⟩) ?_; rotate_left; (focus (intro w' hw'; go_simp <;> with_reducible rfl)); try simp only [Act.put, List.setIfInBounds_toArray, List.set_cons_zero, List.set_cons_succ])
    refine plan_run rfl (fun K hK => ?_)
    go_simp
    refine (H0.out w.drew hr.drew).mono ?_
    rintro e v1 ⟨rfl, rfl⟩
    refine hK.out _ _ ((Below.refl _ w).drew) ?_
    clear hK
    try simp only [Act.put, List.setIfInBounds_toArray, List.set_cons_zero, List.set_cons_succ]
    iterate 1 (refine plan_take (v := ?_) rfl (Or.inl ⟨by rfl, ?_⟩) ?_; rotate_left; (focus (intro w' hw'; go_simp <;> with_reducible rfl)); try simp only [Act.put, List.setIfInBounds_toArray, List.set_cons_zero, List.set_cons_succ])
    refine plan_run rfl (fun K hK => ?_)
    go_simp
    refine (H2.out w.drew hr.drew).mono ?_
    rintro e v1 ⟨rfl, rfl⟩
    refine hK.out _ _ ((Below.refl _ w).drew) ?_
    clear hK
    try simp only [Act.put, List.setIfInBounds_toArray, List.set_cons_zero, List.set_cons_succ]
    iterate 3 (refine plan_take (v := ?_) rfl (Or.inl ⟨by rfl, ?_⟩) ?_; rotate_left; (focus (intro w' hw'; go_simp <;> with_reducible rfl)); try simp only [Act.put, List.setIfInBounds_toArray, List.set_cons_zero, List.set_cons_succ])
    refine plan_done ?_
    go_wp2_with fail
    refine (H6.out w.drew hr.drew).mono ?_
    rintro e v1 ⟨rfl, rfl⟩
    go_wp2_with fail
    have hq := refSum20_any src dst 17 (some ⟨b, o, none⟩) L c (xs.take L) w.drew hsrc hdst (hr.drew.take L g1) (by omega)
    rw [ES.out] at hq
    refine hq.mono ?_
    clear hq
    rintro e v3 ⟨rfl, hv3⟩
    obtain ⟨f1, f2, f3⟩ := (HFF.out.resolve_left (fun h => absurd h.1 (by decide))).2
    go_wp2
    refine bodyPost_ret (v := .tuple #[.int .i64 0, .int .i64 0, .slice none 0 0, .int .i64 6]) (by simp [results, Try.results25, go_sem]) rfl ?_
    exact ⟨none, 0, 0, by rw [f1, f2]; rfl, by rw [f3]; exact RdB.nilB _, undrew hv3⟩
  · skip
    have k1 : decide ((n : Int) < (L : Int)) = false := decide_eq_false (by omega)
    have k1n : decide (n < L) = false := decide_eq_false (by omega)
    have k2 : decide ((L : Int) < 8) = false := decide_eq_false (by omega)
    have k2n : decide (L < 8) = false := decide_eq_false (by omega)
    have k3 : ((F : Int) == 0) = false := by rw [beq_eq_false_iff_ne]; omega
    have k4 : ((T : Int) == 0) = false := by rw [beq_eq_false_iff_ne]; omega
    subst g5
    go_wp2_with fail
    refine wp_region_plan (S := fun w' => Below w.heap.size w w') [(0, true), (1, true), (4, true), (5, true), (2, false), (3, true), (6, false), (7, true), (8, true), (9, true)] (by kernel_rfl) (by kernel_rfl) (fun _ _ d _ _ h => by cases d <;> exact h) ((Below.refl _ w).drew) ?_
    iterate 4 (refine plan_take (v := ?_) rfl (Or.inl ⟨by rfl, ?_⟩) ?_; rotate_left; (focus (intro w' hw'; go_simp <;> with_reducible rfl)); try simp only [Act.put, List.setIfInBounds_toArray, List.set_cons_zero, List.set_cons_succ])
    refine plan_run rfl (fun K hK => ?_)
    go_simp
    refine (H0.out w.drew hr.drew).mono ?_
    rintro e v1 ⟨rfl, rfl⟩
    refine hK.out _ _ ((Below.refl _ w).drew) ?_
    clear hK
    try simp only [Act.put, List.setIfInBounds_toArray, List.set_cons_zero, List.set_cons_succ]
    iterate 1 (refine plan_take (v := ?_) rfl (Or.inl ⟨by rfl, ?_⟩) ?_; rotate_left; (focus (intro w' hw'; go_simp <;> with_reducible rfl)); try simp only [Act.put, List.setIfInBounds_toArray, List.set_cons_zero, List.set_cons_succ])
    refine plan_run rfl (fun K hK => ?_)
    go_simp
    refine (H2.out w.drew hr.drew).mono ?_
    rintro e v1 ⟨rfl, rfl⟩
    refine hK.out _ _ ((Below.refl _ w).drew) ?_
    clear hK
    try simp only [Act.put, List.setIfInBounds_toArray, List.set_cons_zero, List.set_cons_succ]
    iterate 3 (refine plan_take (v := ?_) rfl (Or.inl ⟨by rfl, ?_⟩) ?_; rotate_left; (focus (intro w' hw'; go_simp <;> with_reducible rfl)); try simp only [Act.put, List.setIfInBounds_toArray, List.set_cons_zero, List.set_cons_succ])
    refine plan_done ?_
    go_wp2_with fail
    refine (H6.out w.drew hr.drew).mono ?_
    rintro e v1 ⟨rfl, rfl⟩
    obtain ⟨_, f1, f2, f3⟩ := HFF.out.resolve_right (fun h => h.1 rfl)
    have kc3 : (8 : Int) ≤ (L : Int) := by omega
    have kc4 : (L : Int) ≤ (c : Int) := by omega
    have BX : Below w.heap.size w w.drew := (below_self w).drew
    have rt := ((hr.below BX).take L g1).drop 8 g2
    obtain ⟨D, hD⟩ : ∃ D, (if c = 8 then (some (⟨b, o, none⟩ : Addr)) else Option.map (fun x : Addr => x.add 8) (some (⟨b, o, none⟩ : Addr))) = D := ⟨_, rfl⟩
    rw [hD] at rt
    simp only [Option.map_some, Addr.add_lit] at hD
    have hlen : ((xs.take L).drop 8).length = L - 8 := by rw [List.length_drop, List.length_take]; omega
    obtain ⟨Y, hY⟩ : ∃ Y, (xs.take L).drop 8 = Y := ⟨_, rfl⟩
    rw [hY] at rt hlen f3
    go_wp2_with (at_builtin; refine wp_appB rfl _ _ rfl ((below_self w.drew).alloc (Nat.le_refl _) _) (Nat.le_refl _) (by simp) _ _ _ _ rfl (own0 w.drew) D (L - 8) (c - 8) Y (by first | rfl | (simp only [Act.eval, hD]; rfl)) (rt.alloc _) (by omega) (L - 8) Y (by omega) (by simp) ?_; intro A9 c9 w9 ho9 hb9 hg9)
    refine bodyPost_ret (v := .tuple #[.int .i64 (F : Int), .int .i64 (T : Int), .slice A9 (L - 8) c9, .int .i64 0]) (by simp [results, Try.results25, go_sem]) rfl ?_
    exact ⟨A9, L - 8, c9, by rw [f1, f2], by rw [f3]; exact ho9.rd, BX.trans (hb9.mono BX.size)⟩
  · skip
    have k1 : decide ((n : Int) < (L : Int)) = false := decide_eq_false (by omega)
    have k1n : decide (n < L) = false := decide_eq_false (by omega)
    have k2 : decide ((L : Int) < 8) = false := decide_eq_false (by omega)
    have k2n : decide (L < 8) = false := decide_eq_false (by omega)
    have k3 : ((F : Int) == 0) = false := by rw [beq_eq_false_iff_ne]; omega
    have k4 : ((T : Int) == 0) = false := by rw [beq_eq_false_iff_ne]; omega
    have k5 : ((Z : Int) != 0) = true := by rw [bne_iff_ne]; omega
    have kc1 : (0 : Int) ≤ (L : Int) := by omega
    have kc2 : (L : Int) ≤ (c : Int) := by omega
    subst g6
    go_wp2_with fail
    refine wp_region_plan (S := fun w' => Below w.heap.size w w') [(0, true), (1, true), (4, true), (5, true), (2, false), (3, true), (6, false), (7, true), (8, true), (9, true)] (by kernel_rfl) (by kernel_rfl) (fun _ _ d _ _ h => by cases d <;> exact h) ((Below.refl _ w).drew) ?_
    iterate 4 (refine plan_take (v := ?_) rfl (Or.inl ⟨by rfl, ?_⟩) ?_; rotate_left; (focus (intro w' hw'; go_simp <;> with_reducible rfl)); try simp only [Act.put, List.setIfInBounds_toArray, List.set_cons_zero, List.set_cons_succ])
    refine plan_run rfl (fun K hK => ?_)
    go_simp
    refine (H0.out w.drew hr.drew).mono ?_
    rintro e v1 ⟨rfl, rfl⟩
    refine hK.out _ _ ((Below.refl _ w).drew) ?_
    clear hK
    try simp only [Act.put, List.setIfInBounds_toArray, List.set_cons_zero, List.set_cons_succ]
    iterate 1 (refine plan_take (v := ?_) rfl (Or.inl ⟨by rfl, ?_⟩) ?_; rotate_left; (focus (intro w' hw'; go_simp <;> with_reducible rfl)); try simp only [Act.put, List.setIfInBounds_toArray, List.set_cons_zero, List.set_cons_succ])
    refine plan_run rfl (fun K hK => ?_)
    go_simp
    refine (H2.out w.drew hr.drew).mono ?_
    rintro e v1 ⟨rfl, rfl⟩
    refine hK.out _ _ ((Below.refl _ w).drew) ?_
    clear hK
    try simp only [Act.put, List.setIfInBounds_toArray, List.set_cons_zero, List.set_cons_succ]
    iterate 3 (refine plan_take (v := ?_) rfl (Or.inl ⟨by rfl, ?_⟩) ?_; rotate_left; (focus (intro w' hw'; go_simp <;> with_reducible rfl)); try simp only [Act.put, List.setIfInBounds_toArray, List.set_cons_zero, List.set_cons_succ])
    refine plan_done ?_
    go_wp2_with fail
    refine (H6.out w.drew hr.drew).mono ?_
    rintro e v1 ⟨rfl, rfl⟩
    go_wp2_with fail
    have hq := refSum20_any src dst 17 (some ⟨b, o, none⟩) L c (xs.take L) w.drew hsrc hdst (hr.drew.take L g1) (by omega)
    rw [ES.out] at hq
    refine hq.mono ?_
    clear hq
    rintro e v3 ⟨rfl, hv3⟩
    obtain ⟨_, f1, f2, f3⟩ := HFF.out.resolve_right (fun h => h.1 rfl)
    have kc3 : (8 : Int) ≤ (L : Int) := by omega
    have kc4 : (L : Int) ≤ (c : Int) := by omega
    have BX : Below w.heap.size w v3 := undrew hv3
    have rt := ((hr.below BX).take L g1).drop 8 g2
    obtain ⟨D, hD⟩ : ∃ D, (if c = 8 then (some (⟨b, o, none⟩ : Addr)) else Option.map (fun x : Addr => x.add 8) (some (⟨b, o, none⟩ : Addr))) = D := ⟨_, rfl⟩
    rw [hD] at rt
    simp only [Option.map_some, Addr.add_lit] at hD
    have hlen : ((xs.take L).drop 8).length = L - 8 := by rw [List.length_drop, List.length_take]; omega
    obtain ⟨Y, hY⟩ : ∃ Y, (xs.take L).drop 8 = Y := ⟨_, rfl⟩
    rw [hY] at rt hlen f3
    go_wp2_with (at_builtin; refine wp_appB rfl _ _ rfl ((below_self v3).alloc (Nat.le_refl _) _) (Nat.le_refl _) (by simp) _ _ _ _ rfl (own0 v3) D (L - 8) (c - 8) Y (by first | rfl | (simp only [Act.eval, hD]; rfl)) (rt.alloc _) (by omega) (L - 8) Y (by omega) (by simp) ?_; intro A9 c9 w9 ho9 hb9 hg9)
    refine bodyPost_ret (v := .tuple #[.int .i64 (F : Int), .int .i64 (T : Int), .slice A9 (L - 8) c9, .int .i64 0]) (by simp [results, Try.results25, go_sem]) rfl ?_
    exact ⟨A9, L - 8, c9, by rw [f1, f2], by rw [f3]; exact ho9.rd, BX.trans (hb9.mono BX.size)⟩

theorem refUdpGet_any (src dst : Nat) (A : Option Addr) (n c : Nat) (xs : List UInt8) (w : World) (hsrc : src < 4294967296) (hdst : dst < 4294967296) (hr : RdB w A n c xs) (hn : n ≤ 900000) : Calls Try.prog 25 #[.int .u32 src, .int .u32 dst, .slice A n c] w (RetUd w (udF src dst xs) (udT src dst xs) (udD src dst xs) (udGetE src dst xs)) := by
  unfold udF udT udD
  rcases ud_cases src dst xs n hr.2.1 with ⟨h1, h2⟩ | ⟨h1, h2⟩
  · rw [h2, if_neg (by decide), if_neg (by decide), if_neg (by decide)]
    exact refUdpGet_short src dst A n c xs w hsrc hdst hr hn h1
  · refine refUdpGet_ways src dst A n c xs w hsrc hdst hr hn h1 _ h2 _ _ _ ?_
    by_cases h : udGetE src dst xs = 0
    · left; rw [if_pos h, if_pos h, if_pos h]; exact ⟨h, rfl, rfl, rfl⟩
    · right; rw [if_neg h, if_neg h, if_neg h]; exact ⟨h, rfl, rfl, rfl⟩
end Go.Proofs.Ytndabecdfccjlaa
