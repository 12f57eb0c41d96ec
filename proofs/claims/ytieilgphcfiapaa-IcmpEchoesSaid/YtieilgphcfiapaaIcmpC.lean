/-
  The laws IcmpTurned, IcmpEchoes.
-/
import Derived.Test.YtieilgphcfiapaaIcmpP
-- facts: PkAt
namespace Go.Proofs.Ytieilgphcfiapaa
set_option maxRecDepth 20000
open Go.RowKit
set_option linter.unusedVariables false
set_option linter.unusedSimpArgs false
set_option maxHeartbeats 8000000

theorem icmpEchoes_early (A : Option Addr) (n c : Nat) (xs : List UInt8) (id : Nat) (more : Bool) (place proto : Int) (src dst : Nat) (B : Option Addr) (m d : Nat) (ys : List UInt8) (w : World) (hr : RdB w A n c xs) (hid : id < 65536) (hp : -9223372036854775808 ≤ place ∧ place ≤ 9223372036854775807) (ho : -9223372036854775808 ≤ proto ∧ proto ≤ 9223372036854775807) (hsrc : src < 4294967296) (hdst : dst < 4294967296) (hs : RdB w B m d ys) (h : 500 < n ∨ 400 < m) :
    Calls Try.prog 13 #[.slice A n c, (.agg #[.int .u16 id, .bool more, .int .i64 place, .int .i64 proto, .int .u32 src, .int .u32 dst, .slice B m d])] w (RetV w (.bool true)) := by
  have hn63 := hr.n63
  have hm63 := hs.n63
  by_cases h1 : 500 < n
  · have d1 : decide ((500 : Int) < (n : Int)) = true := decide_eq_true (by omega)
    clear h
    go_enter Try.func13, Try.ntmps13
    go_wp2_with fail
    refine (heads22 _).mono ?_
    rintro e w9 ⟨rfl, hb9⟩
    go_wp2
    go_ret
    exact ⟨rfl, bstep (below_self w) hb9⟩
  · have d1 : decide ((500 : Int) < (n : Int)) = false := decide_eq_false (by omega)
    have d2 : decide ((400 : Int) < (m : Int)) = true := decide_eq_true (by omega)
    clear h
    go_enter Try.func13, Try.ntmps13
    go_wp2_with fail
    refine (heads22 _).mono ?_
    rintro e w9 ⟨rfl, hb9⟩
    go_wp2
    go_ret
    exact ⟨rfl, bstep (below_self w) hb9⟩

theorem icmpEchoes_main (A : Option Addr) (n c : Nat) (xs : List UInt8) (id : Nat) (more : Bool) (place proto : Int) (src dst : Nat) (B : Option Addr) (m d : Nat) (ys : List UInt8) (w : World) (hr : RdB w A n c xs) (hid : id < 65536) (hp : -9223372036854775808 ≤ place ∧ place ≤ 9223372036854775807) (ho : -9223372036854775808 ≤ proto ∧ proto ≤ 9223372036854775807) (hsrc : src < 4294967296) (hdst : dst < 4294967296) (hs : RdB w B m d ys) (h1 : n ≤ 500) (h2 : m ≤ 400) :
    Calls Try.prog 13 #[.slice A n c, (.agg #[.int .u16 id, .bool more, .int .i64 place, .int .i64 proto, .int .u32 src, .int .u32 dst, .slice B m d])] w (RetV w (.bool true)) := by
  have hn63 := hr.n63
  have hm63 := hs.n63
  have hl := hr.2.1
  have d1 : decide ((500 : Int) < (n : Int)) = false := decide_eq_false (by omega)
  have d2 : decide ((400 : Int) < (m : Int)) = false := decide_eq_false (by omega)
  obtain ⟨S, hS⟩ : ∃ S, numCheck (qz xs) = S := ⟨numCheck (qz xs), rfl⟩
  have hS2 : S < 65536 := by rw [← hS]; unfold numCheck; omega
  have HS := Lib.hid hS
  have HQ := Lib.hid (qry_set xs (UInt8.ofNat (S / 256)) (UInt8.ofNat S) (by rw [hS, beB_two]))
  obtain ⟨Q, hQ⟩ : ∃ Q, qry xs = Q := ⟨qry xs, rfl⟩
  have hQl : Q.length = 8 + n := by rw [← hQ, qry_len, hl]
  have HQ1 := Lib.hid hQ
  have wS := w64n (k := S) (by omega)
  clear hS hQ
  go_enter Try.func13, Try.ntmps13
  obtain ⟨W1, hW1⟩ : ∃ W1, W1 = w.alloc (.cells #[.int .u16 id, .bool more, .int .i64 place, .int .i64 proto, .int .u32 src, .int .u32 dst, .slice B m d] 51) := ⟨_, rfl⟩
  have bW1 : Below w.heap.size w W1 := by rw [hW1]; exact (below_self w).alloc (Nat.le_refl _) _
  have p1 : PkAt W1 w.heap.size id more place proto src dst B m d := by rw [hW1]; simp [PkAt, go_sem]
  have x1 : w.heap.size < W1.heap.size := by rw [hW1]; simp
  have HW1 := Lib.hid hW1
  obtain ⟨_, _, _, _, _, _, a6⟩ := (show PkAt W1 w.heap.size id more place proto src dst B m d from p1)
  have a6W := a6
  rw [hW1] at a6
  clear hW1
  have rl := OwnB.lit W1 #[.int .u8 8, .int .u8 0, .int .u8 0, .int .u8 0, .int .u8 0, .int .u8 1, .int .u8 0, .int .u8 2] [8, 0, 0, 0, 0, 1, 0, 2] 8 (by rfl) rfl (by simp [maxLen])
  go_wp2_with (first | (rw [← HW1.out]) | (at_builtin; refine wp_appB rfl _ _ rfl ((below_self W1).alloc (Nat.le_refl _) _) (Nat.le_refl _) (by simp) (some ⟨W1.heap.size, 0, none⟩) 8 8 [8, 0, 0, 0, 0, 1, 0, 2] rfl rl A n c xs rfl ((hr.below bW1).alloc _) (by omega) (8 + n) (qz xs) rfl rfl ?_; intro A2 c2 w2 ho2 hb2 hg2))
  have hh := refNumCheck_any A2 (8 + n) c2 (qz xs) w2 ho2.rd (by omega)
  rw [HS.out] at hh
  refine hh.mono ?_
  clear hh
  rintro e w3 ⟨rfl, rfl⟩
  go_wp2_with fail
  refine (refBe_any S 2 w2 (by omega)).mono ?_
  rintro e w6 ⟨A6, n6, c6, rfl, ho6, hb6⟩
  rw [show clamp 2 = 2 from rfl] at ho6
  have hn6 : n6 = 2 := by rw [← ho6.len, beB_length]
  subst hn6
  obtain ⟨g6, rfl, hg61, hg62⟩ := ho6.addr (by omega)
  have o46 := ho2.below hb6
  obtain ⟨g4, rfl, hg41, hg42⟩ := ho2.addr (by omega)
  have s0 := ho6.rd.cellS 0 (by omega)
  have s1 := ho6.rd.cellS 1 (by omega)
  rw [beB_two] at s0 s1
  go_wp2_with fail
  have hne : g6 ≠ g4 := by omega
  have F4 := o46.free 2
  have F4b := o46.free 3
  have c40 := (o46.rd.cellS 2 (by omega))
  have c41 := (o46.rd.cellS 3 (by omega))
  rw [Nat.zero_add] at s0 s1 c40 c41
  have kn0 : (2 : Int) < 8 + (n : Int) := by omega
  have kn1 : (3 : Int) < 8 + (n : Int) := by omega
  refine wp_region_plan (S := fun w' => w'.cell? ⟨g6, 0, none⟩ = some (.int .u8 ((UInt8.ofNat (S / 256)).toNat : Int)) ∧ w'.cell? ⟨g6, 1, none⟩ = some (.int .u8 ((UInt8.ofNat S).toNat : Int))) [(0, true), (1, true), (2, true), (3, true), (4, true), (5, true), (6, true), (7, true), (8, true), (9, false), (10, true), (11, false)] (by kernel_rfl) (by kernel_rfl) (fun _ _ d _ _ h => by cases d <;> exact h) (⟨s0, s1⟩) ?_
  iterate 9 (refine plan_take (v := ?_) rfl (Or.inl ⟨by rfl, ?_⟩) ?_; rotate_left; (focus (intro w' hw'; obtain ⟨j0, j1⟩ := hw'; go_simp <;> with_reducible rfl)); try simp only [Act.put, List.setIfInBounds_toArray, List.set_cons_zero, List.set_cons_succ])
  refine plan_run rfl (fun K hK => ?_)
  go_simp
  skip
  refine hK.out _ _ (⟨scell hne s0, scell hne s1⟩) ?_
  clear hK
  try simp only [Act.put, List.setIfInBounds_toArray, List.set_cons_zero, List.set_cons_succ]
  iterate 1 (refine plan_take (v := ?_) rfl (Or.inl ⟨by rfl, ?_⟩) ?_; rotate_left; (focus (intro w' hw'; obtain ⟨j0, j1⟩ := hw'; go_simp <;> with_reducible rfl)); try simp only [Act.put, List.setIfInBounds_toArray, List.set_cons_zero, List.set_cons_succ])
  refine plan_run rfl (fun K hK => ?_)
  go_simp
  skip
  refine hK.out _ _ (⟨scell hne (scell hne s0), scell hne (scell hne s1)⟩) ?_
  clear hK
  try simp only [Act.put, List.setIfInBounds_toArray, List.set_cons_zero, List.set_cons_succ]
  refine plan_done ?_
  have hset := (o46.set_ 2 (UInt8.ofNat (S / 256))).set_ 3 (UInt8.ofNat S)
  rw [HQ.out, HQ1.out, show ((UInt8.ofNat (S / 256)).toNat : Int) = (S : Int) / 256 % 256 by simp, show ((UInt8.ofNat S).toNat : Int) = (S : Int) % 256 by simp] at hset
  have B06 := below_then hb2 hb6
  have bV := (B06.setCell (p := ⟨g4, 2, none⟩) hg41 (.int .u8 ((S : Int) / 256 % 256))).setCell (p := ⟨g4, 3, none⟩) hg41 (.int .u8 ((S : Int) % 256))
  clear s0 s1 c40 c41 F4 F4b o46
  obtain ⟨W7, hW7⟩ : ∃ W7, W7 = ((w6.setCell ⟨g4, 2, none⟩ (.int .u8 ((S : Int) / 256 % 256))).setCell ⟨g4, 3, none⟩ (.int .u8 ((S : Int) % 256))).drew := ⟨_, rfl⟩
  have hset7 : OwnB W7 W1.heap.size (some ⟨g4, 0, none⟩) (8 + n) c2 Q := by rw [hW7]; exact hset
  have bW7 : Below W1.heap.size W1 W7 := by rw [hW7]; exact bV.drew
  rw [← hW7]
  have HW7 := Lib.hid hW7
  clear hset bV hW7
  have hpe0 : ipPutE place proto ys = 0 ∨ ipPutE place proto ys = 2 := by unfold ipPutE; split <;> simp
  obtain ⟨pe, hpe⟩ : ∃ pe, ipPutE place proto ys = pe := ⟨ipPutE place proto ys, rfl⟩
  obtain ⟨P, hP⟩ : ∃ P, ipPutL id more place proto src dst ys = P := ⟨ipPutL id more place proto src dst ys, rfl⟩
  rw [hpe] at hpe0
  have HPE := Lib.hid hpe
  have HP := Lib.hid hP
  clear hpe hP
  go_wp2_with fail
  have hh := echo_any (some ⟨g4, 0, none⟩) (8 + n) c2 Q W7 hset7.rd (by omega)
  rw [show echoE (8 + n) Q = 0 by rw [← HQ1.out]; exact echo_qry xs _ (by omega), show echoL Q 0 = ans xs by rw [← HQ1.out]; rfl] at hh
  refine hh.mono ?_
  clear hh
  rintro e w8 ⟨A8, n8, c8, rfl, ho8, hb8⟩
  have hn8 : n8 = 8 + n := by rw [← ho8.len, ans_len, hl]
  subst hn8
  obtain ⟨g8, rfl, hg81, hg82⟩ := ho8.addr (by omega)
  have hc8 := ho8.rd.2.2.1
  have hc2 := hset7.rd.2.2.1
  have c80 := ho8.rd.cellS 0 (by omega)
  rw [Nat.zero_add, ans_0] at c80
  have c80 : w8.cell? ⟨g8, 0, none⟩ = some (.int .u8 0) := c80
  have k8a : (0 : Int) < 8 + (n : Int) := by omega
  have k8b : (4 : Int) ≤ 8 + (n : Int) := by omega
  have k8c : (8 : Int) + (n : Int) ≤ (c8 : Int) := by omega
  have k8d : (8 : Int) + (n : Int) ≤ (c2 : Int) := by omega
  have kc8 : ¬ (c8 = 4) := by omega
  have kc2 : ¬ (c2 = 4) := by omega
  have o7 := hset7.below hb8
  have rd8 := ho8.rd.drew.cutS 4 (8 + n - 4) (by omega) (by omega)
  have rd7 := o7.rd.drew.cutS 4 (8 + n - 4) (by omega) (by omega)
  rw [ans_drop, HQ1.out, Nat.zero_add] at rd8
  rw [Nat.zero_add] at rd7
  have kk : ((8 + (n : Int)) != (8 + (n : Int))) = false := by simp
  go_wp2_with fail
  refine wp_region_plan (S := fun w' => Below w8.heap.size w8 w') [(0, true), (1, true), (2, true), (3, true), (4, false), (5, true), (6, true), (7, true), (8, true), (9, true), (10, true), (11, true), (12, true), (13, true), (14, true), (15, true), (16, true), (17, true), (18, true), (19, true), (20, true), (21, true), (22, true), (23, true), (24, true), (25, false), (26, true), (27, true)] (by kernel_rfl) (by kernel_rfl) (fun _ _ d _ _ h => by cases d <;> exact h) ((Below.refl _ w8).drew) ?_
  iterate 3 (refine plan_take (v := ?_) rfl (Or.inl ⟨by rfl, ?_⟩) ?_; rotate_left; (focus (intro w' hw'; have j0 := (hw'.cell (p := ⟨g8, 0, none⟩) hg82).trans c80; go_simp <;> with_reducible rfl)); try simp only [Act.put, List.setIfInBounds_toArray, List.set_cons_zero, List.set_cons_succ])
  iterate 1 ((first | refine plan_take (v := undef) rfl (Or.inr ⟨by rfl, rfl⟩) ?_ | (refine plan_take (v := ?_) rfl (Or.inl ⟨by rfl, ?_⟩) ?_; rotate_left; (focus (intro w' hw'; have j0 := (hw'.cell (p := ⟨g8, 0, none⟩) hg82).trans c80; go_simp <;> with_reducible rfl)))); try simp only [Act.put, List.setIfInBounds_toArray, List.set_cons_zero, List.set_cons_succ])
  refine plan_run rfl (fun K hK => ?_)
  go_simp
  have hh := icmpHolds_any (some ⟨g8, 0, none⟩) (8 + n) c8 (ans xs) w8.drew ho8.rd.drew
  rw [ans_ck, show (decide (8 ≤ 8 + n) && decide ((0 : Nat) = 0)) = true by simp] at hh
  refine hh.mono ?_
  clear hh
  rintro e v1 ⟨rfl, rfl⟩
  refine hK.out _ _ ((Below.refl _ w8).drew) ?_
  clear hK
  try simp only [Act.put, List.setIfInBounds_toArray, List.set_cons_zero, List.set_cons_succ]
  iterate 1 ((first | refine plan_take (v := undef) rfl (Or.inr ⟨by rfl, rfl⟩) ?_ | (refine plan_take (v := ?_) rfl (Or.inl ⟨by rfl, ?_⟩) ?_; rotate_left; (focus (intro w' hw'; have j0 := (hw'.cell (p := ⟨g8, 0, none⟩) hg82).trans c80; go_simp <;> with_reducible rfl)))); try simp only [Act.put, List.setIfInBounds_toArray, List.set_cons_zero, List.set_cons_succ])
  iterate 2 (refine plan_take (v := ?_) rfl (Or.inl ⟨by rfl, ?_⟩) ?_; rotate_left; (focus (intro w' hw'; have j0 := (hw'.cell (p := ⟨g8, 0, none⟩) hg82).trans c80; go_simp <;> with_reducible rfl)); try simp only [Act.put, List.setIfInBounds_toArray, List.set_cons_zero, List.set_cons_succ])
  iterate 5 ((first | refine plan_take (v := undef) rfl (Or.inr ⟨by rfl, rfl⟩) ?_ | (refine plan_take (v := ?_) rfl (Or.inl ⟨by rfl, ?_⟩) ?_; rotate_left; (focus (intro w' hw'; have j0 := (hw'.cell (p := ⟨g8, 0, none⟩) hg82).trans c80; go_simp <;> with_reducible rfl)))); try simp only [Act.put, List.setIfInBounds_toArray, List.set_cons_zero, List.set_cons_succ])
  iterate 2 (refine plan_take (v := ?_) rfl (Or.inl ⟨by rfl, ?_⟩) ?_; rotate_left; (focus (intro w' hw'; have j0 := (hw'.cell (p := ⟨g8, 0, none⟩) hg82).trans c80; go_simp <;> with_reducible rfl)); try simp only [Act.put, List.setIfInBounds_toArray, List.set_cons_zero, List.set_cons_succ])
  iterate 4 ((first | refine plan_take (v := undef) rfl (Or.inr ⟨by rfl, rfl⟩) ?_ | (refine plan_take (v := ?_) rfl (Or.inl ⟨by rfl, ?_⟩) ?_; rotate_left; (focus (intro w' hw'; have j0 := (hw'.cell (p := ⟨g8, 0, none⟩) hg82).trans c80; go_simp <;> with_reducible rfl)))); try simp only [Act.put, List.setIfInBounds_toArray, List.set_cons_zero, List.set_cons_succ])
  iterate 2 (refine plan_take (v := ?_) rfl (Or.inl ⟨by rfl, ?_⟩) ?_; rotate_left; (focus (intro w' hw'; have j0 := (hw'.cell (p := ⟨g8, 0, none⟩) hg82).trans c80; go_simp <;> with_reducible rfl)); try simp only [Act.put, List.setIfInBounds_toArray, List.set_cons_zero, List.set_cons_succ])
  iterate 4 ((first | refine plan_take (v := undef) rfl (Or.inr ⟨by rfl, rfl⟩) ?_ | (refine plan_take (v := ?_) rfl (Or.inl ⟨by rfl, ?_⟩) ?_; rotate_left; (focus (intro w' hw'; have j0 := (hw'.cell (p := ⟨g8, 0, none⟩) hg82).trans c80; go_simp <;> with_reducible rfl)))); try simp only [Act.put, List.setIfInBounds_toArray, List.set_cons_zero, List.set_cons_succ])
  refine plan_run rfl (fun K hK => ?_)
  go_simp
  refine (bytes_any (some ⟨g8, 4, none⟩) (some ⟨g4, 4, none⟩) (8 + n - 4) (c8 - 4) (8 + n - 4) (c2 - 4) (Q.drop 4) (Q.drop 4) w8.drew rd8 rd7).mono ?_
  rintro e v1 ⟨rfl, rfl⟩
  rw [decide_eq_true rfl]
  refine hK.out _ _ ((Below.refl _ w8).drew) ?_
  clear hK
  try simp only [Act.put, List.setIfInBounds_toArray, List.set_cons_zero, List.set_cons_succ]
  iterate 1 ((first | refine plan_take (v := undef) rfl (Or.inr ⟨by rfl, rfl⟩) ?_ | (refine plan_take (v := ?_) rfl (Or.inl ⟨by rfl, ?_⟩) ?_; rotate_left; (focus (intro w' hw'; have j0 := (hw'.cell (p := ⟨g8, 0, none⟩) hg82).trans c80; go_simp <;> with_reducible rfl)))); try simp only [Act.put, List.setIfInBounds_toArray, List.set_cons_zero, List.set_cons_succ])
  iterate 1 (refine plan_take (v := ?_) rfl (Or.inl ⟨by rfl, ?_⟩) ?_; rotate_left; (focus (intro w' hw'; have j0 := (hw'.cell (p := ⟨g8, 0, none⟩) hg82).trans c80; go_simp <;> with_reducible rfl)); try simp only [Act.put, List.setIfInBounds_toArray, List.set_cons_zero, List.set_cons_succ])
  refine plan_done ?_
  obtain ⟨W9, hW9⟩ : ∃ W9, W9 = w8.drew := ⟨_, rfl⟩
  rw [← hW9]
  have bW9 : Below w8.heap.size w8 W9 := by rw [hW9]; exact (Below.refl _ w8).drew
  have HW9 := Lib.hid hW9
  clear hW9 rd8 rd7 o7
  have B19 := below_then bW7 (below_then hb8 bW9)
  have B09 := below_then bW1 B19
  obtain ⟨a0, a1, a2, a3, a4, a5, a6'⟩ := p1.below B19 x1
  clear a6 a6W
  go_wp2_with fail
  have hh := refuse_any id more place proto src dst B m d ys W9 hid hp ho hsrc hdst (hs.below B09)
  rw [HPE.out, HP.out] at hh
  refine hh.mono ?_
  clear hh a0 a1 a2 a3 a4 a5 a6'
  rintro e w10 ⟨A10, n10, c10, rfl, ho10, hb10⟩
  obtain ⟨a0, a1, a2, a3, a4, a5, a6'⟩ := p1.below (below_then B19 hb10) x1
  go_wp2_with fail
  have hh := refPut20_any id more place proto src dst B m d ys w10 hid hp ho hsrc hdst (hs.below (below_then B09 hb10))
  rw [HPE.out, HP.out] at hh
  refine hh.mono ?_
  clear hh a0 a1 a2 a3 a4 a5 a6'
  rintro e w11 ⟨A11, n11, c11, rfl, ho11, hb11⟩
  have B011 := below_then B09 (below_then hb10 hb11)
  rcases hpe0 with rfl | rfl
  · have hn10 : n10 = 8 + min 28 n11 := by rw [← ho10.len, refuse_len, List.length_take, ho11.len]
    have hc10 := ho10.rd.2.2.1
    have hc11 := ho11.rd.2.2.1
    obtain ⟨q, hq⟩ : ∃ q, min 28 n11 = q := ⟨_, rfl⟩
    have hm : min (28 : Int) (n11 : Int) = (q : Int) := by omega
    have hqn : q ≤ n11 := by omega
    rw [hq] at hn10
    subst hn10
    obtain ⟨g10, rfl, hg101, hg102⟩ := ho10.addr (by omega)
    have rr := ho10.rd.below hb11
    have kr1 : (8 : Int) ≤ 8 + (q : Int) := by omega
    have kr2 : (0 : Int) ≤ (q : Int) := by omega
    have kr3 : (q : Int) ≤ (c11 : Int) := by omega
    have kr4 : (8 : Int) + (q : Int) ≤ (c10 : Int) := by omega
    have rd10 := (rr.drew.drop 8 (by omega))
    have e8 : 8 + q - 8 = q := by omega
    rw [refuse_drop, e8] at rd10
    obtain ⟨D, hD⟩ : ∃ D, (if c10 = 8 then (some (⟨g10, 0, none⟩ : Addr)) else Option.map (fun x : Addr => x.add 8) (some (⟨g10, 0, none⟩ : Addr))) = D := ⟨_, rfl⟩
    rw [hD] at rd10
    simp only [Option.map_some, Addr.add_lit, Nat.zero_add] at hD
    have rd11 := ho11.rd.drew.take q hqn
    have eP : P.take q = P.take 28 := by
      have hPl := ho11.len
      rcases Nat.lt_or_ge n11 28 with h | h
      · rw [List.take_of_length_le (by omega), List.take_of_length_le (by omega)]
      · rw [show q = 28 by omega]
    rw [eP] at rd11
    clear hq eP
    go_wp2_with fail
    refine wp_region_plan (S := fun w' => Below w11.heap.size w11 w') [(0, true), (1, false), (2, true), (3, true), (4, true), (5, true), (6, true), (7, true), (8, true), (9, true), (10, true), (11, true), (12, true), (13, false), (14, true), (15, false), (16, true), (17, true), (18, false), (19, true), (20, true)] (by kernel_rfl) (by kernel_rfl) (fun _ _ d _ _ h => by cases d <;> exact h) ((Below.refl _ w11).drew) ?_
    iterate 1 (refine plan_take (v := ?_) rfl (Or.inl ⟨by rfl, ?_⟩) ?_; rotate_left; (focus (intro w' hw'; go_simp <;> with_reducible rfl)); try simp only [Act.put, List.setIfInBounds_toArray, List.set_cons_zero, List.set_cons_succ])
    refine plan_run rfl (fun K hK => ?_)
    go_simp
    have hh := icmpHolds_any (some ⟨g10, 0, none⟩) (8 + q) c10 (refuseL P 0) w11.drew rr.drew
    rw [refuse_ck, show (decide (8 ≤ 8 + q) && decide ((0 : Nat) = 0)) = true by simp] at hh
    refine hh.mono ?_
    clear hh
    rintro e v1 ⟨rfl, rfl⟩
    refine hK.out _ _ ((Below.refl _ w11).drew) ?_
    clear hK
    try simp only [Act.put, List.setIfInBounds_toArray, List.set_cons_zero, List.set_cons_succ]
    iterate 1 (refine plan_take (v := ?_) rfl (Or.inl ⟨by rfl, ?_⟩) ?_; rotate_left; (focus (intro w' hw'; go_simp <;> with_reducible rfl)); try simp only [Act.put, List.setIfInBounds_toArray, List.set_cons_zero, List.set_cons_succ])
    iterate 3 ((first | refine plan_take (v := undef) rfl (Or.inr ⟨by rfl, rfl⟩) ?_ | (refine plan_take (v := ?_) rfl (Or.inl ⟨by rfl, ?_⟩) ?_; rotate_left; (focus (intro w' hw'; go_simp <;> with_reducible rfl)))); try simp only [Act.put, List.setIfInBounds_toArray, List.set_cons_zero, List.set_cons_succ])
    iterate 2 (refine plan_take (v := ?_) rfl (Or.inl ⟨by rfl, ?_⟩) ?_; rotate_left; (focus (intro w' hw'; go_simp <;> with_reducible rfl)); try simp only [Act.put, List.setIfInBounds_toArray, List.set_cons_zero, List.set_cons_succ])
    iterate 5 ((first | refine plan_take (v := undef) rfl (Or.inr ⟨by rfl, rfl⟩) ?_ | (refine plan_take (v := ?_) rfl (Or.inl ⟨by rfl, ?_⟩) ?_; rotate_left; (focus (intro w' hw'; go_simp <;> with_reducible rfl)))); try simp only [Act.put, List.setIfInBounds_toArray, List.set_cons_zero, List.set_cons_succ])
    refine plan_run rfl (fun K hK => ?_)
    go_simp
    skip
    refine hK.out _ _ ((Below.refl _ w11).drew) ?_
    clear hK
    try simp only [Act.put, List.setIfInBounds_toArray, List.set_cons_zero, List.set_cons_succ]
    iterate 1 ((first | refine plan_take (v := undef) rfl (Or.inr ⟨by rfl, rfl⟩) ?_ | (refine plan_take (v := ?_) rfl (Or.inl ⟨by rfl, ?_⟩) ?_; rotate_left; (focus (intro w' hw'; go_simp <;> with_reducible rfl)))); try simp only [Act.put, List.setIfInBounds_toArray, List.set_cons_zero, List.set_cons_succ])
    refine plan_run rfl (fun K hK => ?_)
    go_simp
    refine (bytes_any D A11 q (c10 - 8) q c11 (P.take 28) (P.take 28) w11.drew rd10 rd11).mono ?_
    rintro e v1 ⟨rfl, rfl⟩
    rw [decide_eq_true rfl]
    refine hK.out _ _ ((Below.refl _ w11).drew) ?_
    clear hK
    try simp only [Act.put, List.setIfInBounds_toArray, List.set_cons_zero, List.set_cons_succ]
    iterate 2 (refine plan_take (v := ?_) rfl (Or.inl ⟨by rfl, ?_⟩) ?_; rotate_left; (focus (intro w' hw'; go_simp <;> with_reducible rfl)); try simp only [Act.put, List.setIfInBounds_toArray, List.set_cons_zero, List.set_cons_succ])
    refine plan_run rfl (fun K hK => ?_)
    go_simp
    refine (heads22 _).mono ?_
    rintro e v2 ⟨rfl, hv2⟩
    refine hK.out _ _ (undrew hv2) ?_
    clear hK
    try simp only [Act.put, List.setIfInBounds_toArray, List.set_cons_zero, List.set_cons_succ]
    iterate 2 (refine plan_take (v := ?_) rfl (Or.inl ⟨by rfl, ?_⟩) ?_; rotate_left; (focus (intro w' hw'; go_simp <;> with_reducible rfl)); try simp only [Act.put, List.setIfInBounds_toArray, List.set_cons_zero, List.set_cons_succ])
    refine plan_done ?_
    go_wp2
    go_ret
    exact ⟨rfl, below_then B011 (undrew hv2)⟩
  · have hn10 : n10 = 0 := by rw [← ho10.len]; rfl
    subst hn10
    go_wp2_with fail
    refine (heads22 _).mono ?_
    rintro e w12 ⟨rfl, hb12⟩
    go_wp2
    go_ret
    exact ⟨rfl, below_then B011 hb12⟩

theorem icmpEchoes_law (A : Option Addr) (n c : Nat) (xs : List UInt8) (id : Nat) (more : Bool) (place proto : Int) (src dst : Nat) (B : Option Addr) (m d : Nat) (ys : List UInt8) (w : World) (hr : RdB w A n c xs) (hid : id < 65536) (hp : -9223372036854775808 ≤ place ∧ place ≤ 9223372036854775807) (ho : -9223372036854775808 ≤ proto ∧ proto ≤ 9223372036854775807) (hsrc : src < 4294967296) (hdst : dst < 4294967296) (hs : RdB w B m d ys) :
    Calls Try.prog 13 #[.slice A n c, (.agg #[.int .u16 id, .bool more, .int .i64 place, .int .i64 proto, .int .u32 src, .int .u32 dst, .slice B m d])] w (RetV w (.bool true)) := by
  by_cases h : 500 < n ∨ 400 < m
  · exact icmpEchoes_early A n c xs id more place proto src dst B m d ys w hr hid hp ho hsrc hdst hs h
  · exact icmpEchoes_main A n c xs id more place proto src dst B m d ys w hr hid hp ho hsrc hdst hs (by omega) (by omega)
end Go.Proofs.Ytieilgphcfiapaa
