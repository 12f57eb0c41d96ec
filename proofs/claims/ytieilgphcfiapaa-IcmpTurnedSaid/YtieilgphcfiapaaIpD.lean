/-
  Layer 20: Put of the document.
-/
import Derived.Test.YtieilgphcfiapaaIpC
-- facts: PkAt
namespace Go.Proofs.Ytieilgphcfiapaa
set_option maxRecDepth 20000
open Go.RowKit
set_option linter.unusedVariables false
set_option linter.unusedSimpArgs false

theorem refPut20_no (id : Nat) (more : Bool) (place proto : Int) (src dst : Nat) (A : Option Addr) (n c : Nat) (xs : List UInt8) (w : World) (hid : id < 65536) (hp : -9223372036854775808 ≤ place ∧ place ≤ 9223372036854775807) (ho : -9223372036854775808 ≤ proto ∧ proto ≤ 9223372036854775807) (hsrc : src < 4294967296) (hdst : dst < 4294967296) (hr : RdB w A n c xs) (hc : ipCheck place proto n = false) :
    Calls Try.prog 31 #[.agg #[.int .u16 id, .bool more, .int .i64 place, .int .i64 proto, .int .u32 src, .int .u32 dst, .slice A n c]] w (RetBE w [] 2) := by
  have hn63 := hr.n63
  have HC := Lib.hid hc
  clear hc
  go_enter Try.func31, Try.ntmps31
  go_wp2_with fail
  refine (refCheck20_any id more place proto src dst A n c _ hn63 hp ho).mono ?_
  rintro e w2 ⟨rfl, hb2⟩
  rw [HC.out]
  go_wp2
  go_ret2
  exact ⟨none, 0, 0, rfl, OwnB.nilB _ _, bstep (below_self w) hb2⟩

set_option maxHeartbeats 2000000 in
theorem refPut20_yes (id : Nat) (more : Bool) (q r : Nat) (src dst : Nat) (A : Option Addr) (n c : Nat) (xs : List UInt8) (w : World) (hid : id < 65536) (hq : q ≤ 8191) (hr8 : r ≤ 255) (hsrc : src < 4294967296) (hdst : dst < 4294967296) (hr : RdB w A n c xs) (hn : n ≤ 146) (mo : Nat) (hmo : (more = true ∧ mo = 8192) ∨ (more = false ∧ mo = 0)) :
    Calls Try.prog 31 #[.agg #[.int .u16 id, .bool more, .int .i64 ((8 * q : Nat) : Int), .int .i64 (r : Nat), .int .u32 src, .int .u32 dst, .slice A n c]] w (RetBE w (ipS (20 + n) id (q + mo) r src dst ++ xs) 0) := by
  have hn63 := hr.n63
  have hc : ipCheck (8 * q : Nat) (r : Nat) n = true := by rw [ipCheck_iff]; omega
  have HC := Lib.hid hc
  have HMO := Lib.hid hmo
  have hdiv : ((8 * q : Nat) : Int) / 8 = (q : Int) := by omega
  have hp0 : (0 : Int) ≤ ((8 * q : Nat) : Int) := by omega
  obtain ⟨P, hP⟩ : ∃ P : Nat, P = 8 * q := ⟨_, rfl⟩
  rw [← hP] at hdiv hp0 hc ⊢
  have HP := Lib.hid hP
  have hPb : P ≤ 65528 := by omega
  have cl4 : clamp 4 = 4 := rfl
  have HC4 := Lib.hid cl4
  have hr88 : (r : Int) % 256 = (r : Int) := by omega
  clear hc hP hmo cl4
  go_enter Try.func31, Try.ntmps31
  go_wp2_with fail
  refine named ?_
  intro W1 hW1
  have bW1 : Below w.heap.size w W1 := by rw [hW1]; repeat' (first | exact Below.refl _ _ | (refine Below.alloc ?_ ?_ _; rotate_left; (simp <;> omega)) | refine Below.drew ?_)
  have zW1 := bW1.size
  have p1 : PkAt W1 w.heap.size id more P r src dst A n c := by rw [hW1]; simp [PkAt, go_sem]
  have HW1 := Lib.hid hW1
  clear hW1
  have x1 : w.heap.size < W1.heap.size := by rw [HW1.out]; simp
  refine (refCheck20_any id more P r src dst A n c _ hn63 (by omega) (by omega)).mono ?_
  rintro e w2 ⟨rfl, hb2⟩
  have hck : ipCheck (P : Int) (r : Int) n = true := by rw [HP.out]; exact HC.out
  rw [hck]
  clear hck
  have p2 := p1.below hb2 x1
  have x2 : w.heap.size < w2.heap.size := Nat.lt_of_lt_of_le x1 hb2.size
  have rr2 := (hr.below bW1).below hb2
  have wsrc := w64n (k := src) (by omega)
  have wdst := w64n (k := dst) (by omega)
  have p2b := p2
  obtain ⟨q0, q1, q2, q3, q4, q5, q6⟩ := p2b
  rcases HMO.out with ⟨rfl, rfl⟩ | ⟨rfl, rfl⟩
  · skip
    go_wp2_with fail
    clear q0 q1 q2 q3 q4 q5 q6
    refine named ?_
    intro W3 hW3
    have bW3 : Below w2.heap.size w2 W3 := by rw [hW3]; repeat' (first | exact Below.refl _ _ | (refine Below.alloc ?_ ?_ _; rotate_left; (simp <;> omega)) | refine Below.drew ?_)
    have zW3 := bW3.size
    have r3 : RdB W3 (some ⟨w2.heap.size, 0, none⟩) 2 2 [69, 0] := by rw [hW3]; exact rdK rfl _ _ _ (by rfl) rfl (by simp [maxLen])
    have o3 : OwnB W3 w2.heap.size (some ⟨w2.heap.size, 0, none⟩) 2 2 [69, 0] := by rw [hW3]; exact OwnB.lit _ _ _ _ (by rfl) rfl (by simp [maxLen])
    have HW3 := Lib.hid hW3
    clear hW3
    refine (two_any (20 + n) _ (by omega)).mono ?_
    rintro e w4 ⟨A4, n4, c4, rfl, ho4, hb4⟩
    have hn4 : n4 = 2 := by rw [← ho4.len, beB_length]
    subst hn4
    have B4 := below_then bW3 hb4
    have o4 := o3.below hb4
    have z4 := hb4.size
    go_wp2_with (at_builtin; refine wp_appB rfl _ _ rfl B4 (Nat.le_refl _) (by omega) _ _ _ _ rfl o4 _ _ _ _ rfl ho4.rd (by omega) 4 ([69, 0] ++ beB (20 + n) 2) rfl rfl ?_; intro A5 c5 w5 ho5 hb5 hg5; obtain ⟨q0, q1, q2, q3, q4, q5, q6⟩ := p2.below hb5 x2)
    clear q0 q1 q2 q3 q4 q5 q6
    refine (two_any id _ (by omega)).mono ?_
    rintro e w6 ⟨A6, n6, c6, rfl, ho6, hb6⟩
    have hn6 : n6 = 2 := by rw [← ho6.len, beB_length]
    subst hn6
    have B6 := below_then hb5 hb6
    have o6 := ho5.below hb6
    have z5 := hb5.size
    have z6 := hb6.size
    go_wp2_with (at_builtin; refine wp_appB rfl _ _ rfl B6 (Nat.le_refl _) (by omega) _ _ _ _ rfl o6 _ _ _ _ rfl ho6.rd (by omega) 6 ([69, 0] ++ beB (20 + n) 2 ++ beB id 2) rfl rfl ?_; intro A7 c7 w7 ho7 hb7 hg7)
    refine (two_any (q + 8192) _ (by omega)).mono ?_
    rintro e w8 ⟨A8, n8, c8, rfl, ho8, hb8⟩
    have hn8 : n8 = 2 := by rw [← ho8.len, beB_length]
    subst hn8
    have B8 := below_then hb7 hb8
    have o8 := ho7.below hb8
    have z7 := hb7.size
    have z8 := hb8.size
    go_wp2_with (first
      | (at_builtin; refine wp_appB rfl _ _ rfl (hb9.alloc hb9.size _) (by omega) (by have := hb9.size; simp; omega) _ _ _ _ rfl (ho9.alloc _) _ 4 4 [64, UInt8.ofNat r, 0, 0] rfl (rdK rfl _ _ _ (by simp [vB]; omega) rfl (by simp [maxLen])) (by omega) 12 ([69, 0] ++ beB (20 + n) 2 ++ beB id 2 ++ beB (q + 8192) 2 ++ [64, UInt8.ofNat r, 0, 0]) rfl rfl ?_; intro A10 c10 w10 ho10 hb10 hg10)
      | (at_builtin; refine wp_appB rfl _ _ rfl B8 (Nat.le_refl _) (by omega) _ _ _ _ rfl o8 _ _ _ _ rfl ho8.rd (by omega) 8 ([69, 0] ++ beB (20 + n) 2 ++ beB id 2 ++ beB (q + 8192) 2) rfl rfl ?_; intro A9 c9 w9 ho9 hb9 hg9; obtain ⟨q0, q1, q2, q3, q4, q5, q6⟩ := p2.below hb9 x2))
    have p10 := p2.below hb10 x2
    clear q0 q1 q2 q3 q4 q5 q6
    refine wp_region_plan (S := fun w' => Below w2.heap.size w2 w') [(0, true), (1, true), (2, true), (3, true), (6, true), (7, true), (8, true), (4, false), (5, false), (9, false), (10, false), (11, true)] (by kernel_rfl) (by kernel_rfl) (fun _ _ d _ _ h => by cases d <;> exact h) (hb10.drew) ?_
    iterate 7 (refine plan_take (v := ?_) rfl (Or.inl ⟨by rfl, ?_⟩) ?_; rotate_left; (focus (intro w' hw'; obtain ⟨q0, q1, q2, q3, q4, q5, q6⟩ := p2.below hw' x2; go_simp <;> with_reducible rfl)); try simp only [Act.put, List.setIfInBounds_toArray, List.set_cons_zero, List.set_cons_succ])
    refine plan_run rfl (fun K hK => ?_)
    go_simp
    refine (refBe_any src 4 _ (by omega)).mono ?_
    rintro e w11 ⟨A11, n11, c11, rfl, ho11, hb11⟩
    rw [HC4.out] at ho11
    have hn11 : n11 = 4 := by rw [← ho11.len, beB_length]
    subst hn11
    refine hK.out _ _ (below_then hb10 (undrew hb11)) ?_
    clear hK
    try simp only [Act.put, List.setIfInBounds_toArray, List.set_cons_zero, List.set_cons_succ]
    refine plan_run rfl (fun K hK => ?_)
    rw [if_pos (by rfl)]
    have z10 := hb10.size
    have z11 := (undrew hb11).size
    refine op_appB _ _ rfl (below_then hb10 (undrew hb11)) (Nat.le_refl _) (by omega) _ _ _ _ rfl (ho10.below (undrew hb11)) _ _ _ _ rfl ho11.rd (by omega) 16 _ rfl rfl ?_
    intro A12 c12 w12 ho12 hb12 hg12
    refine hK.out _ _ (hb12) ?_
    clear hK
    try simp only [Act.put, List.setIfInBounds_toArray, List.set_cons_zero, List.set_cons_succ]
    refine plan_run rfl (fun K hK => ?_)
    go_simp
    refine (refBe_any dst 4 _ (by omega)).mono ?_
    rintro e w13 ⟨A13, n13, c13, rfl, ho13, hb13⟩
    rw [HC4.out] at ho13
    have hn13 : n13 = 4 := by rw [← ho13.len, beB_length]
    subst hn13
    refine hK.out _ _ (below_then hb12 hb13) ?_
    clear hK
    try simp only [Act.put, List.setIfInBounds_toArray, List.set_cons_zero, List.set_cons_succ]
    refine plan_run rfl (fun K hK => ?_)
    rw [if_pos (by rfl)]
    have z12 := hb12.size
    have z13 := hb13.size
    refine op_appB _ _ rfl (below_then hb12 hb13) (Nat.le_refl _) (by omega) _ _ _ _ rfl (ho12.below hb13) _ _ _ _ rfl ho13.rd (by omega) 20 _ rfl rfl ?_
    intro A14 c14 w14 ho14 hb14 hg14
    refine hK.out _ _ (hb14) ?_
    clear hK
    try simp only [Act.put, List.setIfInBounds_toArray, List.set_cons_zero, List.set_cons_succ]
    iterate 1 (refine plan_take (v := ?_) rfl (Or.inl ⟨by rfl, ?_⟩) ?_; rotate_left; (focus (intro w' hw'; obtain ⟨q0, q1, q2, q3, q4, q5, q6⟩ := p2.below hw' x2; go_simp <;> with_reducible rfl)); try simp only [Act.put, List.setIfInBounds_toArray, List.set_cons_zero, List.set_cons_succ])
    refine plan_done ?_
    rw [ipH_lit] at ho14
    have HS : Hid (numCheck (ipH (20 + n) id (q + 8192) r src dst) < 65536) := Lib.hid (by unfold numCheck; omega)
    have hck2 : numCheck (ipH (20 + n) id (q + 8192) r src dst) < 65536 := HS.out
    go_wp2_with fail
    refine (refNumCheck_any _ _ _ _ _ ho14.rd (by omega)).mono ?_
    rintro e v1 ⟨rfl, rfl⟩
    go_wp2_with fail
    refine (two_any _ _ (by omega)).mono ?_
    rintro e w15 ⟨A15, n15, c15, rfl, ho15, hb15⟩
    have hn15 : n15 = 2 := by rw [← ho15.len, beB_length]
    subst hn15
    obtain ⟨ga, rfl, hga, hgl⟩ := ho14.addr (by omega)
    obtain ⟨gs, rfl, hgs, hgt⟩ := ho15.addr (by omega)
    have o15 := ho14.below hb15
    obtain ⟨u10, e10, c10'⟩ := o15.cell_ 10 (by omega)
    obtain ⟨u11, e11, c11'⟩ := o15.cell_ 11 (by omega)
    obtain ⟨s0, f0, d0⟩ := ho15.cell_ 0 (by omega)
    obtain ⟨s1, f1, d1⟩ := ho15.cell_ 1 (by omega)
    have fr := o15.free
    have fr10 := fr 10
    have fr11 := fr 11
    have hgne : ¬ (ga = gs) := by omega
    have ho16 := (o15.set_ 10 s0).set_ 11 s1
    have hss : beB (numCheck (ipH (20 + n) id (q + 8192) r src dst)) 2 = [s0, s1] := by
      rw [beB_two] at f0 f1 ⊢
      simp only [List.getElem?_cons_zero, List.getElem?_cons_succ, Option.some.injEq] at f0 f1
      rw [f0, f1]
    rw [set2_field _ _ _ 10 (by rw [ipH_length]; omega), ← hss, ipH_take] at ho16
    have z14 := hb14.size
    have z15 := hb15.size
    have B16 := ((below_then hb14 hb15).setCell (p := ⟨ga, 10, none⟩) hga (.int .u8 (s0.toNat : Int))).setCell (p := ⟨ga, 11, none⟩) hga (.int .u8 (s1.toNat : Int))
    have HSS := Lib.hid hss
    have p16 := p2.below B16 x2
    have r16 := rr2.below B16
    clear e10 e11 f0 f1 fr hss hck2
    obtain ⟨q0, q1, q2, q3, q4, q5, q6⟩ := p16
    go_wp2_with (at_builtin; refine wp_appB rfl _ _ rfl B16 (Nat.le_refl _) (by simp; omega) _ _ _ _ rfl ho16 _ _ _ _ rfl r16 (by omega) (20 + n) (ipS (20 + n) id (q + 8192) r src dst ++ xs) rfl rfl ?_; intro A17 c17 w17 ho17 hb17 hg17)
    go_ret2
    exact ⟨_, _, _, rfl, ho17.mono (by have := bW1.size; have := hb2.size; omega), below_then (below_then bW1 hb2) hb17⟩
  · skip
    go_wp2_with fail
    clear q0 q1 q2 q3 q4 q5 q6
    refine named ?_
    intro W3 hW3
    have bW3 : Below w2.heap.size w2 W3 := by rw [hW3]; repeat' (first | exact Below.refl _ _ | (refine Below.alloc ?_ ?_ _; rotate_left; (simp <;> omega)) | refine Below.drew ?_)
    have zW3 := bW3.size
    have r3 : RdB W3 (some ⟨w2.heap.size, 0, none⟩) 2 2 [69, 0] := by rw [hW3]; exact rdK rfl _ _ _ (by rfl) rfl (by simp [maxLen])
    have o3 : OwnB W3 w2.heap.size (some ⟨w2.heap.size, 0, none⟩) 2 2 [69, 0] := by rw [hW3]; exact OwnB.lit _ _ _ _ (by rfl) rfl (by simp [maxLen])
    have HW3 := Lib.hid hW3
    clear hW3
    refine (two_any (20 + n) _ (by omega)).mono ?_
    rintro e w4 ⟨A4, n4, c4, rfl, ho4, hb4⟩
    have hn4 : n4 = 2 := by rw [← ho4.len, beB_length]
    subst hn4
    have B4 := below_then bW3 hb4
    have o4 := o3.below hb4
    have z4 := hb4.size
    go_wp2_with (at_builtin; refine wp_appB rfl _ _ rfl B4 (Nat.le_refl _) (by omega) _ _ _ _ rfl o4 _ _ _ _ rfl ho4.rd (by omega) 4 ([69, 0] ++ beB (20 + n) 2) rfl rfl ?_; intro A5 c5 w5 ho5 hb5 hg5; obtain ⟨q0, q1, q2, q3, q4, q5, q6⟩ := p2.below hb5 x2)
    clear q0 q1 q2 q3 q4 q5 q6
    refine (two_any id _ (by omega)).mono ?_
    rintro e w6 ⟨A6, n6, c6, rfl, ho6, hb6⟩
    have hn6 : n6 = 2 := by rw [← ho6.len, beB_length]
    subst hn6
    have B6 := below_then hb5 hb6
    have o6 := ho5.below hb6
    have z5 := hb5.size
    have z6 := hb6.size
    go_wp2_with (at_builtin; refine wp_appB rfl _ _ rfl B6 (Nat.le_refl _) (by omega) _ _ _ _ rfl o6 _ _ _ _ rfl ho6.rd (by omega) 6 ([69, 0] ++ beB (20 + n) 2 ++ beB id 2) rfl rfl ?_; intro A7 c7 w7 ho7 hb7 hg7)
    refine (two_any (q) _ (by omega)).mono ?_
    rintro e w8 ⟨A8, n8, c8, rfl, ho8, hb8⟩
    have hn8 : n8 = 2 := by rw [← ho8.len, beB_length]
    subst hn8
    have B8 := below_then hb7 hb8
    have o8 := ho7.below hb8
    have z7 := hb7.size
    have z8 := hb8.size
    go_wp2_with (first
      | (at_builtin; refine wp_appB rfl _ _ rfl (hb9.alloc hb9.size _) (by omega) (by have := hb9.size; simp; omega) _ _ _ _ rfl (ho9.alloc _) _ 4 4 [64, UInt8.ofNat r, 0, 0] rfl (rdK rfl _ _ _ (by simp [vB]; omega) rfl (by simp [maxLen])) (by omega) 12 ([69, 0] ++ beB (20 + n) 2 ++ beB id 2 ++ beB (q) 2 ++ [64, UInt8.ofNat r, 0, 0]) rfl rfl ?_; intro A10 c10 w10 ho10 hb10 hg10)
      | (at_builtin; refine wp_appB rfl _ _ rfl B8 (Nat.le_refl _) (by omega) _ _ _ _ rfl o8 _ _ _ _ rfl ho8.rd (by omega) 8 ([69, 0] ++ beB (20 + n) 2 ++ beB id 2 ++ beB (q) 2) rfl rfl ?_; intro A9 c9 w9 ho9 hb9 hg9; obtain ⟨q0, q1, q2, q3, q4, q5, q6⟩ := p2.below hb9 x2))
    have p10 := p2.below hb10 x2
    clear q0 q1 q2 q3 q4 q5 q6
    refine wp_region_plan (S := fun w' => Below w2.heap.size w2 w') [(0, true), (1, true), (2, true), (3, true), (6, true), (7, true), (8, true), (4, false), (5, false), (9, false), (10, false), (11, true)] (by kernel_rfl) (by kernel_rfl) (fun _ _ d _ _ h => by cases d <;> exact h) (hb10.drew) ?_
    iterate 7 (refine plan_take (v := ?_) rfl (Or.inl ⟨by rfl, ?_⟩) ?_; rotate_left; (focus (intro w' hw'; obtain ⟨q0, q1, q2, q3, q4, q5, q6⟩ := p2.below hw' x2; go_simp <;> with_reducible rfl)); try simp only [Act.put, List.setIfInBounds_toArray, List.set_cons_zero, List.set_cons_succ])
    refine plan_run rfl (fun K hK => ?_)
    go_simp
    refine (refBe_any src 4 _ (by omega)).mono ?_
    rintro e w11 ⟨A11, n11, c11, rfl, ho11, hb11⟩
    rw [HC4.out] at ho11
    have hn11 : n11 = 4 := by rw [← ho11.len, beB_length]
    subst hn11
    refine hK.out _ _ (below_then hb10 (undrew hb11)) ?_
    clear hK
    try simp only [Act.put, List.setIfInBounds_toArray, List.set_cons_zero, List.set_cons_succ]
    refine plan_run rfl (fun K hK => ?_)
    rw [if_pos (by rfl)]
    have z10 := hb10.size
    have z11 := (undrew hb11).size
    refine op_appB _ _ rfl (below_then hb10 (undrew hb11)) (Nat.le_refl _) (by omega) _ _ _ _ rfl (ho10.below (undrew hb11)) _ _ _ _ rfl ho11.rd (by omega) 16 _ rfl rfl ?_
    intro A12 c12 w12 ho12 hb12 hg12
    refine hK.out _ _ (hb12) ?_
    clear hK
    try simp only [Act.put, List.setIfInBounds_toArray, List.set_cons_zero, List.set_cons_succ]
    refine plan_run rfl (fun K hK => ?_)
    go_simp
    refine (refBe_any dst 4 _ (by omega)).mono ?_
    rintro e w13 ⟨A13, n13, c13, rfl, ho13, hb13⟩
    rw [HC4.out] at ho13
    have hn13 : n13 = 4 := by rw [← ho13.len, beB_length]
    subst hn13
    refine hK.out _ _ (below_then hb12 hb13) ?_
    clear hK
    try simp only [Act.put, List.setIfInBounds_toArray, List.set_cons_zero, List.set_cons_succ]
    refine plan_run rfl (fun K hK => ?_)
    rw [if_pos (by rfl)]
    have z12 := hb12.size
    have z13 := hb13.size
    refine op_appB _ _ rfl (below_then hb12 hb13) (Nat.le_refl _) (by omega) _ _ _ _ rfl (ho12.below hb13) _ _ _ _ rfl ho13.rd (by omega) 20 _ rfl rfl ?_
    intro A14 c14 w14 ho14 hb14 hg14
    refine hK.out _ _ (hb14) ?_
    clear hK
    try simp only [Act.put, List.setIfInBounds_toArray, List.set_cons_zero, List.set_cons_succ]
    iterate 1 (refine plan_take (v := ?_) rfl (Or.inl ⟨by rfl, ?_⟩) ?_; rotate_left; (focus (intro w' hw'; obtain ⟨q0, q1, q2, q3, q4, q5, q6⟩ := p2.below hw' x2; go_simp <;> with_reducible rfl)); try simp only [Act.put, List.setIfInBounds_toArray, List.set_cons_zero, List.set_cons_succ])
    refine plan_done ?_
    rw [ipH_lit] at ho14
    have HS : Hid (numCheck (ipH (20 + n) id (q) r src dst) < 65536) := Lib.hid (by unfold numCheck; omega)
    have hck2 : numCheck (ipH (20 + n) id (q) r src dst) < 65536 := HS.out
    go_wp2_with fail
    refine (refNumCheck_any _ _ _ _ _ ho14.rd (by omega)).mono ?_
    rintro e v1 ⟨rfl, rfl⟩
    go_wp2_with fail
    refine (two_any _ _ (by omega)).mono ?_
    rintro e w15 ⟨A15, n15, c15, rfl, ho15, hb15⟩
    have hn15 : n15 = 2 := by rw [← ho15.len, beB_length]
    subst hn15
    obtain ⟨ga, rfl, hga, hgl⟩ := ho14.addr (by omega)
    obtain ⟨gs, rfl, hgs, hgt⟩ := ho15.addr (by omega)
    have o15 := ho14.below hb15
    obtain ⟨u10, e10, c10'⟩ := o15.cell_ 10 (by omega)
    obtain ⟨u11, e11, c11'⟩ := o15.cell_ 11 (by omega)
    obtain ⟨s0, f0, d0⟩ := ho15.cell_ 0 (by omega)
    obtain ⟨s1, f1, d1⟩ := ho15.cell_ 1 (by omega)
    have fr := o15.free
    have fr10 := fr 10
    have fr11 := fr 11
    have hgne : ¬ (ga = gs) := by omega
    have ho16 := (o15.set_ 10 s0).set_ 11 s1
    have hss : beB (numCheck (ipH (20 + n) id (q) r src dst)) 2 = [s0, s1] := by
      rw [beB_two] at f0 f1 ⊢
      simp only [List.getElem?_cons_zero, List.getElem?_cons_succ, Option.some.injEq] at f0 f1
      rw [f0, f1]
    rw [set2_field _ _ _ 10 (by rw [ipH_length]; omega), ← hss, ipH_take] at ho16
    have z14 := hb14.size
    have z15 := hb15.size
    have B16 := ((below_then hb14 hb15).setCell (p := ⟨ga, 10, none⟩) hga (.int .u8 (s0.toNat : Int))).setCell (p := ⟨ga, 11, none⟩) hga (.int .u8 (s1.toNat : Int))
    have HSS := Lib.hid hss
    have p16 := p2.below B16 x2
    have r16 := rr2.below B16
    clear e10 e11 f0 f1 fr hss hck2
    obtain ⟨q0, q1, q2, q3, q4, q5, q6⟩ := p16
    go_wp2_with (at_builtin; refine wp_appB rfl _ _ rfl B16 (Nat.le_refl _) (by simp; omega) _ _ _ _ rfl ho16 _ _ _ _ rfl r16 (by omega) (20 + n) (ipS (20 + n) id (q) r src dst ++ xs) rfl rfl ?_; intro A17 c17 w17 ho17 hb17 hg17)
    go_ret2
    exact ⟨_, _, _, rfl, ho17.mono (by have := bW1.size; have := hb2.size; omega), below_then (below_then bW1 hb2) hb17⟩
end Go.Proofs.Ytieilgphcfiapaa
