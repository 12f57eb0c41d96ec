/-
  The laws EthMine and EthTells.
-/
import Derived.Test.YtieilgphcfiapaaEthF
-- facts: FrAt, MacAt
namespace Go.Proofs.Ytieilgphcfiapaa
set_option maxRecDepth 20000
open Go.RowKit
set_option linter.unusedVariables false
set_option linter.unusedSimpArgs false

theorem ethTells_early (d s : Mc) (k : Nat) (A : Option Addr) (n c : Nat) (xs : List UInt8) (B : Option Addr) (m e' : Nat) (ys : List UInt8) (w : World) (hr : RdB w A n c xs) (hs : RdB w B m e' ys) (h : 400 < n ∨ 400 < m) :
    Calls Try.prog 4 #[.agg #[.int .u8 (d.a0.toNat : Int), .int .u8 (d.a1.toNat : Int), .int .u8 (d.a2.toNat : Int), .int .u8 (d.a3.toNat : Int), .int .u8 (d.a4.toNat : Int), .int .u8 (d.a5.toNat : Int), .int .u8 (s.a0.toNat : Int), .int .u8 (s.a1.toNat : Int), .int .u8 (s.a2.toNat : Int), .int .u8 (s.a3.toNat : Int), .int .u8 (s.a4.toNat : Int), .int .u8 (s.a5.toNat : Int), .int .u16 k, .slice A n c], .slice B m e'] w (RetV w (.bool true)) := by
  have hn63 := hr.n63
  have hm63 := hs.n63
  by_cases h1 : 400 < n
  · have d1 : decide ((400 : Int) < (n : Int)) = true := decide_eq_true (by omega)
    clear h
    go_enter Try.func4, Try.ntmps4
    go_wp2_with fail
    refine (heads18 _).mono ?_
    rintro e w9 ⟨rfl, hb9⟩
    go_wp2
    go_ret
    exact ⟨rfl, bstep (below_self w) hb9⟩
  · have d1 : decide ((400 : Int) < (n : Int)) = false := decide_eq_false (by omega)
    have d2 : decide ((400 : Int) < (m : Int)) = true := decide_eq_true (by omega)
    clear h
    go_enter Try.func4, Try.ntmps4
    go_wp2_with fail
    refine (heads18 _).mono ?_
    rintro e w9 ⟨rfl, hb9⟩
    go_wp2
    go_ret
    exact ⟨rfl, bstep (below_self w) hb9⟩

set_option maxHeartbeats 1600000 in
theorem ethTells_main (d s : Mc) (k : Nat) (A : Option Addr) (n c : Nat) (xs : List UInt8) (B : Option Addr) (m e' : Nat) (ys : List UInt8) (w : World) (hr : RdB w A n c xs) (hs : RdB w B m e' ys) (hk : k < 65536) (h1 : n ≤ 400) (h2 : m ≤ 400) :
    Calls Try.prog 4 #[.agg #[.int .u8 (d.a0.toNat : Int), .int .u8 (d.a1.toNat : Int), .int .u8 (d.a2.toNat : Int), .int .u8 (d.a3.toNat : Int), .int .u8 (d.a4.toNat : Int), .int .u8 (d.a5.toNat : Int), .int .u8 (s.a0.toNat : Int), .int .u8 (s.a1.toNat : Int), .int .u8 (s.a2.toNat : Int), .int .u8 (s.a3.toNat : Int), .int .u8 (s.a4.toNat : Int), .int .u8 (s.a5.toNat : Int), .int .u16 k, .slice A n c], .slice B m e'] w (RetV w (.bool true)) := by
  have hn63 := hr.n63
  have hm63 := hs.n63
  have d1 : decide ((400 : Int) < (n : Int)) = false := decide_eq_false (by omega)
  have d2 : decide ((400 : Int) < (m : Int)) = false := decide_eq_false (by omega)
  obtain ⟨y, hy⟩ : ∃ y, ethGet ys = y := ⟨_, rfl⟩
  obtain ⟨ge, hge⟩ : ∃ ge, ethGetE ys = ge := ⟨_, rfl⟩
  obtain ⟨pe, hpe⟩ : ∃ pe, ethPutE xs = pe := ⟨_, rfl⟩
  have hge3 : 0 ≤ ge ∧ ge ≤ 5 := by rw [← hge]; unfold ethGetE; split <;> (try split) <;> omega
  have hpe3 : 0 ≤ pe ∧ pe ≤ 5 := by rw [← hpe]; unfold ethPutE; split <;> omega
  have HY := Lib.hid hy
  have HGE := Lib.hid hge
  have HPE := Lib.hid hpe
  clear hy hge hpe
  go_enter Try.func4, Try.ntmps4
  go_wp2_with fail
  refine named ?_
  intro W1 hW1
  have bW1 : Below w.heap.size w W1 := by rw [hW1]; repeat' (first | exact Below.refl _ _ | (refine Below.alloc ?_ ?_ _; rotate_left; (simp <;> omega)) | refine Below.drew ?_)
  have zW1 := bW1.size
  have f1 : FrAt W1 w.heap.size d s k A n c := by rw [hW1]; simp [FrAt, MacAt, go_sem]
  have HW1 := Lib.hid hW1
  clear hW1
  have x1 : w.heap.size < W1.heap.size := by rw [HW1.out]; simp
  have r1 := hr.below bW1
  have s1 := hs.below bW1
  refine (ethPut_any d s k _ _ _ xs W1 hk r1).mono ?_
  rintro e w2 ⟨A2, n2, c2, rfl, ho2, hb2⟩
  rw [HPE.out]
  obtain ⟨⟨d80, d81, d82, d83, d84, d85⟩, ⟨s80, s81, s82, s83, s84, s85⟩, k8, v8⟩ := f1.below hb2 x1
  go_wp2_with fail
  refine (refPut18_any d s k _ _ _ xs w2 hk (r1.below hb2)).mono ?_
  rintro e w3 ⟨A3, n3, c3, rfl, ho3, hb3⟩
  rw [HPE.out]
  clear d80 d81 d82 d83 d84 d85 s80 s81 s82 s83 s84 s85 k8 v8
  have B13 := below_then hb2 hb3
  go_wp2_with fail
  have hg3 := ethGet_any B m e' ys w3 (s1.below B13)
  rw [HY.out, HGE.out] at hg3
  refine hg3.mono ?_
  rintro e w4 ⟨A4, n4, c4, rfl, hr4, hb4⟩
  clear hg3
  go_wp2_with fail
  refine named ?_
  intro W5 hW5
  have bW5 : Below w4.heap.size w4 W5 := by rw [hW5]; repeat' (first | exact Below.refl _ _ | (refine Below.alloc ?_ ?_ _; rotate_left; (simp <;> omega)) | refine Below.drew ?_)
  have zW5 := bW5.size
  have g5 : FrAt W5 w4.heap.size y.d y.s y.k A4 n4 c4 := by rw [hW5]; simp [FrAt, MacAt, go_sem]
  have HW5 := Lib.hid hW5
  clear hW5
  have x5 : w4.heap.size < W5.heap.size := by rw [HW5.out]; simp
  have B15 := below_then B13 (below_then hb4 bW5)
  have hg5 := refGet18_any B m e' ys W5 (s1.below B15)
  rw [HY.out, HGE.out] at hg5
  refine hg5.mono ?_
  rintro e w6 ⟨A6, n6, c6, rfl, hr6, hb6⟩
  clear hg5
  go_wp2_with fail
  refine named ?_
  intro W7 hW7
  have bW7 : Below w6.heap.size w6 W7 := by rw [hW7]; repeat' (first | exact Below.refl _ _ | (refine Below.alloc ?_ ?_ _; rotate_left; (simp <;> omega)) | refine Below.drew ?_)
  have zW7 := bW7.size
  have g7 : FrAt W7 w6.heap.size y.d y.s y.k A6 n6 c6 := by rw [hW7]; simp [FrAt, MacAt, go_sem]
  have HW7 := Lib.hid hW7
  clear hW7
  have x7 : w6.heap.size < W7.heap.size := by rw [HW7.out]; simp
  refine (ethOwn_any W7).mono ?_
  rintro e w8 ⟨rfl, hb8⟩
  go_wp2_with fail
  refine named ?_
  intro W9 hW9
  have bW9 : Below w8.heap.size w8 W9 := by rw [hW9]; repeat' (first | exact Below.refl _ _ | (refine Below.alloc ?_ ?_ _; rotate_left; (simp <;> omega)) | refine Below.drew ?_)
  have zW9 := bW9.size
  have m9 : MacAt W9 w8.heap.size 0 mcOwn := by rw [hW9]; simp [FrAt, MacAt, go_sem]
  have HW9 := Lib.hid hW9
  clear hW9
  have x9 : w8.heap.size < W9.heap.size := by rw [HW9.out]; simp
  refine (refOwn18_any W9).mono ?_
  rintro e w10 ⟨rfl, hb10⟩
  go_wp2_with fail
  obtain ⟨W, hW⟩ : ∃ W, W = w10.alloc (.cells #[.int .u8 (mcOwn.a0.toNat : Int), .int .u8 (mcOwn.a1.toNat : Int), .int .u8 (mcOwn.a2.toNat : Int), .int .u8 (mcOwn.a3.toNat : Int), .int .u8 (mcOwn.a4.toNat : Int), .int .u8 (mcOwn.a5.toNat : Int)] 23) := ⟨_, rfl⟩
  rw [← hW]
  have bW : Below w10.heap.size w10 W := by rw [hW]; exact (below_self w10).alloc (Nat.le_refl _) _
  have m11 : MacAt W w10.heap.size 0 mcOwn := by rw [hW]; simp [MacAt, go_sem]
  have x11 : w10.heap.size < W.heap.size := by rw [hW]; simp
  have HW := Lib.hid hW
  clear hW
  have B57 := below_then hb6 bW7
  have B79 := below_then hb8 bW9
  have B9W := below_then hb10 bW
  have B7W := below_then B79 B9W
  have B5W := below_then B57 B7W
  have B1W := below_then B15 B5W
  have z1 := B13.size
  have z2 := B15.size
  have z3 := hb6.size
  have z4 := hb8.size
  have z5 := hb10.size
  have fW := f1.below B1W x1
  have gW := g5.below B5W x5
  have hW7 := g7.below B7W x7
  have mW := m9.below B9W x9
  have rp := ho2.rd.below (below_then hb3 (below_then (below_then hb4 bW5) B5W))
  have rq := ho3.rd.below (below_then (below_then hb4 bW5) B5W)
  have rx := hr4.below (below_then bW5 B5W)
  have ry := hr6.below (below_then bW7 B7W)
  have xf : w.heap.size < W.heap.size := Nat.lt_of_lt_of_le x1 B1W.size
  have xg : w4.heap.size < W.heap.size := Nat.lt_of_lt_of_le x5 B5W.size
  have xh : w6.heap.size < W.heap.size := Nat.lt_of_lt_of_le x7 B7W.size
  have xm : w8.heap.size < W.heap.size := Nat.lt_of_lt_of_le x9 B9W.size
  have q1 := fun (V : World) => by have := run_eql_mac V mcOwn mcOwn; rw [mcEq_self] at this; exact this
  have q2 := fun (V : World) => by have := run_eql_mac V mcAll mcAll; rw [mcEq_self] at this; exact this
  have k1 : IntKind.i64.wrap pe = pe := IntWalk.i64_in _ (by omega)
  have k2 : IntKind.i64.wrap ge = ge := IntWalk.i64_in _ (by omega)
  have k3 : (pe == pe) = true := by simp
  have k4 : (ge == ge) = true := by simp
  have k5 : (ethMine d == ethMine d) = true := by simp
  clear f1 g5 g7 m9 hge3 hpe3
  refine wp_region_plan (S := fun w' => Below W.heap.size W w') [(0, true), (1, true), (2, false), (3, true), (4, true), (5, true), (6, true), (7, true), (8, true), (9, true), (10, true), (11, false), (12, true), (13, true), (14, true), (15, true), (16, true), (17, true), (18, true), (19, true), (21, true), (20, false), (22, false), (23, true), (24, true), (25, true), (26, true), (27, true), (28, true), (29, true), (30, true), (31, true), (32, true), (33, true), (34, true), (35, true), (36, false), (37, false), (38, true), (39, true), (40, true), (41, false), (42, true), (43, true)] (by kernel_rfl) (by kernel_rfl) (fun _ _ d _ _ h => by cases d <;> exact h) ((Below.refl _ W).drew) ?_
  iterate 2 (refine plan_take (v := ?_) rfl (Or.inl ⟨by rfl, ?_⟩) ?_; rotate_left; (focus (intro w' hw'; obtain ⟨⟨d80, d81, d82, d83, d84, d85⟩, ⟨s80, s81, s82, s83, s84, s85⟩, k8, v8⟩ := fW.below hw' xf; obtain ⟨⟨gd0, gd1, gd2, gd3, gd4, gd5⟩, ⟨gs0, gs1, gs2, gs3, gs4, gs5⟩, gk, gv⟩ := gW.below hw' xg; obtain ⟨⟨hd0, hd1, hd2, hd3, hd4, hd5⟩, ⟨hs0, hs1, hs2, hs3, hs4, hs5⟩, hk, hv⟩ := hW7.below hw' xh; obtain ⟨ma0, ma1, ma2, ma3, ma4, ma5⟩ := mW.below hw' xm; obtain ⟨mb0, mb1, mb2, mb3, mb4, mb5⟩ := m11.below hw' x11; go_simp <;> with_reducible rfl)); try simp only [Act.put, List.setIfInBounds_toArray, List.set_cons_zero, List.set_cons_succ])
  refine plan_run rfl (fun K hK => ?_)
  go_simp
  refine (bytes_any _ _ _ _ _ _ _ _ _ rp.drew rq.drew).mono ?_
  rintro e v1 ⟨rfl, rfl⟩
  rw [decide_eq_true rfl]
  refine hK.out _ _ ((Below.refl _ W).drew) ?_
  clear hK
  try simp only [Act.put, List.setIfInBounds_toArray, List.set_cons_zero, List.set_cons_succ]
  iterate 1 (refine plan_take (v := ?_) rfl (Or.inl ⟨by rfl, ?_⟩) ?_; rotate_left; (focus (intro w' hw'; obtain ⟨⟨d80, d81, d82, d83, d84, d85⟩, ⟨s80, s81, s82, s83, s84, s85⟩, k8, v8⟩ := fW.below hw' xf; obtain ⟨⟨gd0, gd1, gd2, gd3, gd4, gd5⟩, ⟨gs0, gs1, gs2, gs3, gs4, gs5⟩, gk, gv⟩ := gW.below hw' xg; obtain ⟨⟨hd0, hd1, hd2, hd3, hd4, hd5⟩, ⟨hs0, hs1, hs2, hs3, hs4, hs5⟩, hk, hv⟩ := hW7.below hw' xh; obtain ⟨ma0, ma1, ma2, ma3, ma4, ma5⟩ := mW.below hw' xm; obtain ⟨mb0, mb1, mb2, mb3, mb4, mb5⟩ := m11.below hw' x11; go_simp <;> with_reducible rfl)); try simp only [Act.put, List.setIfInBounds_toArray, List.set_cons_zero, List.set_cons_succ])
  iterate 3 ((first | refine plan_take (v := undef) rfl (Or.inr ⟨by rfl, rfl⟩) ?_ | (refine plan_take (v := ?_) rfl (Or.inl ⟨by rfl, ?_⟩) ?_; rotate_left; (focus (intro w' hw'; obtain ⟨⟨d80, d81, d82, d83, d84, d85⟩, ⟨s80, s81, s82, s83, s84, s85⟩, k8, v8⟩ := fW.below hw' xf; obtain ⟨⟨gd0, gd1, gd2, gd3, gd4, gd5⟩, ⟨gs0, gs1, gs2, gs3, gs4, gs5⟩, gk, gv⟩ := gW.below hw' xg; obtain ⟨⟨hd0, hd1, hd2, hd3, hd4, hd5⟩, ⟨hs0, hs1, hs2, hs3, hs4, hs5⟩, hk, hv⟩ := hW7.below hw' xh; obtain ⟨ma0, ma1, ma2, ma3, ma4, ma5⟩ := mW.below hw' xm; obtain ⟨mb0, mb1, mb2, mb3, mb4, mb5⟩ := m11.below hw' x11; go_simp <;> with_reducible rfl)))); try simp only [Act.put, List.setIfInBounds_toArray, List.set_cons_zero, List.set_cons_succ])
  iterate 2 (refine plan_take (v := ?_) rfl (Or.inl ⟨by rfl, ?_⟩) ?_; rotate_left; (focus (intro w' hw'; obtain ⟨⟨d80, d81, d82, d83, d84, d85⟩, ⟨s80, s81, s82, s83, s84, s85⟩, k8, v8⟩ := fW.below hw' xf; obtain ⟨⟨gd0, gd1, gd2, gd3, gd4, gd5⟩, ⟨gs0, gs1, gs2, gs3, gs4, gs5⟩, gk, gv⟩ := gW.below hw' xg; obtain ⟨⟨hd0, hd1, hd2, hd3, hd4, hd5⟩, ⟨hs0, hs1, hs2, hs3, hs4, hs5⟩, hk, hv⟩ := hW7.below hw' xh; obtain ⟨ma0, ma1, ma2, ma3, ma4, ma5⟩ := mW.below hw' xm; obtain ⟨mb0, mb1, mb2, mb3, mb4, mb5⟩ := m11.below hw' x11; go_simp <;> with_reducible rfl)); try simp only [Act.put, List.setIfInBounds_toArray, List.set_cons_zero, List.set_cons_succ])
  iterate 2 ((first | refine plan_take (v := undef) rfl (Or.inr ⟨by rfl, rfl⟩) ?_ | (refine plan_take (v := ?_) rfl (Or.inl ⟨by rfl, ?_⟩) ?_; rotate_left; (focus (intro w' hw'; obtain ⟨⟨d80, d81, d82, d83, d84, d85⟩, ⟨s80, s81, s82, s83, s84, s85⟩, k8, v8⟩ := fW.below hw' xf; obtain ⟨⟨gd0, gd1, gd2, gd3, gd4, gd5⟩, ⟨gs0, gs1, gs2, gs3, gs4, gs5⟩, gk, gv⟩ := gW.below hw' xg; obtain ⟨⟨hd0, hd1, hd2, hd3, hd4, hd5⟩, ⟨hs0, hs1, hs2, hs3, hs4, hs5⟩, hk, hv⟩ := hW7.below hw' xh; obtain ⟨ma0, ma1, ma2, ma3, ma4, ma5⟩ := mW.below hw' xm; obtain ⟨mb0, mb1, mb2, mb3, mb4, mb5⟩ := m11.below hw' x11; go_simp <;> with_reducible rfl)))); try simp only [Act.put, List.setIfInBounds_toArray, List.set_cons_zero, List.set_cons_succ])
  refine plan_run rfl (fun K hK => ?_)
  go_simp
  refine (same18_any y.d y.s y.k _ _ _ y.b y.d y.s y.k _ _ _ y.b _ rx.drew ry.drew).mono ?_
  rintro e v2 ⟨rfl, hv2⟩
  rw [show frSame y.d y.s y.k y.b y.d y.s y.k y.b = true from by simp [frSame, mcEq_self]]
  refine hK.out _ _ (undrew hv2) ?_
  clear hK
  try simp only [Act.put, List.setIfInBounds_toArray, List.set_cons_zero, List.set_cons_succ]
  iterate 2 (refine plan_take (v := ?_) rfl (Or.inl ⟨by rfl, ?_⟩) ?_; rotate_left; (focus (intro w' hw'; obtain ⟨⟨d80, d81, d82, d83, d84, d85⟩, ⟨s80, s81, s82, s83, s84, s85⟩, k8, v8⟩ := fW.below hw' xf; obtain ⟨⟨gd0, gd1, gd2, gd3, gd4, gd5⟩, ⟨gs0, gs1, gs2, gs3, gs4, gs5⟩, gk, gv⟩ := gW.below hw' xg; obtain ⟨⟨hd0, hd1, hd2, hd3, hd4, hd5⟩, ⟨hs0, hs1, hs2, hs3, hs4, hs5⟩, hk, hv⟩ := hW7.below hw' xh; obtain ⟨ma0, ma1, ma2, ma3, ma4, ma5⟩ := mW.below hw' xm; obtain ⟨mb0, mb1, mb2, mb3, mb4, mb5⟩ := m11.below hw' x11; go_simp <;> with_reducible rfl)); try simp only [Act.put, List.setIfInBounds_toArray, List.set_cons_zero, List.set_cons_succ])
  iterate 3 ((first | refine plan_take (v := undef) rfl (Or.inr ⟨by rfl, rfl⟩) ?_ | (refine plan_take (v := ?_) rfl (Or.inl ⟨by rfl, ?_⟩) ?_; rotate_left; (focus (intro w' hw'; obtain ⟨⟨d80, d81, d82, d83, d84, d85⟩, ⟨s80, s81, s82, s83, s84, s85⟩, k8, v8⟩ := fW.below hw' xf; obtain ⟨⟨gd0, gd1, gd2, gd3, gd4, gd5⟩, ⟨gs0, gs1, gs2, gs3, gs4, gs5⟩, gk, gv⟩ := gW.below hw' xg; obtain ⟨⟨hd0, hd1, hd2, hd3, hd4, hd5⟩, ⟨hs0, hs1, hs2, hs3, hs4, hs5⟩, hk, hv⟩ := hW7.below hw' xh; obtain ⟨ma0, ma1, ma2, ma3, ma4, ma5⟩ := mW.below hw' xm; obtain ⟨mb0, mb1, mb2, mb3, mb4, mb5⟩ := m11.below hw' x11; go_simp <;> with_reducible rfl)))); try simp only [Act.put, List.setIfInBounds_toArray, List.set_cons_zero, List.set_cons_succ])
  iterate 2 (refine plan_take (v := ?_) rfl (Or.inl ⟨by rfl, ?_⟩) ?_; rotate_left; (focus (intro w' hw'; obtain ⟨⟨d80, d81, d82, d83, d84, d85⟩, ⟨s80, s81, s82, s83, s84, s85⟩, k8, v8⟩ := fW.below hw' xf; obtain ⟨⟨gd0, gd1, gd2, gd3, gd4, gd5⟩, ⟨gs0, gs1, gs2, gs3, gs4, gs5⟩, gk, gv⟩ := gW.below hw' xg; obtain ⟨⟨hd0, hd1, hd2, hd3, hd4, hd5⟩, ⟨hs0, hs1, hs2, hs3, hs4, hs5⟩, hk, hv⟩ := hW7.below hw' xh; obtain ⟨ma0, ma1, ma2, ma3, ma4, ma5⟩ := mW.below hw' xm; obtain ⟨mb0, mb1, mb2, mb3, mb4, mb5⟩ := m11.below hw' x11; go_simp <;> with_reducible rfl)); try simp only [Act.put, List.setIfInBounds_toArray, List.set_cons_zero, List.set_cons_succ])
  iterate 2 ((first | refine plan_take (v := undef) rfl (Or.inr ⟨by rfl, rfl⟩) ?_ | (refine plan_take (v := ?_) rfl (Or.inl ⟨by rfl, ?_⟩) ?_; rotate_left; (focus (intro w' hw'; obtain ⟨⟨d80, d81, d82, d83, d84, d85⟩, ⟨s80, s81, s82, s83, s84, s85⟩, k8, v8⟩ := fW.below hw' xf; obtain ⟨⟨gd0, gd1, gd2, gd3, gd4, gd5⟩, ⟨gs0, gs1, gs2, gs3, gs4, gs5⟩, gk, gv⟩ := gW.below hw' xg; obtain ⟨⟨hd0, hd1, hd2, hd3, hd4, hd5⟩, ⟨hs0, hs1, hs2, hs3, hs4, hs5⟩, hk, hv⟩ := hW7.below hw' xh; obtain ⟨ma0, ma1, ma2, ma3, ma4, ma5⟩ := mW.below hw' xm; obtain ⟨mb0, mb1, mb2, mb3, mb4, mb5⟩ := m11.below hw' x11; go_simp <;> with_reducible rfl)))); try simp only [Act.put, List.setIfInBounds_toArray, List.set_cons_zero, List.set_cons_succ])
  refine plan_run rfl (fun K hK => ?_)
  go_simp
  refine (ethMine_any d s k A n c v2).mono ?_
  rintro e v3 ⟨rfl, hv3⟩
  refine hK.out _ _ (below_then (undrew hv2) hv3) ?_
  clear hK
  try simp only [Act.put, List.setIfInBounds_toArray, List.set_cons_zero, List.set_cons_succ]
  refine plan_run rfl (fun K hK => ?_)
  go_simp
  refine (refMine18_any d s k A n c v3).mono ?_
  rintro e v4 ⟨rfl, hv4⟩
  refine hK.out _ _ (below_then (below_then (undrew hv2) hv3) hv4) ?_
  clear hK
  try simp only [Act.put, List.setIfInBounds_toArray, List.set_cons_zero, List.set_cons_succ]
  iterate 1 ((first | refine plan_take (v := undef) rfl (Or.inr ⟨by rfl, rfl⟩) ?_ | (refine plan_take (v := ?_) rfl (Or.inl ⟨by rfl, ?_⟩) ?_; rotate_left; (focus (intro w' hw'; obtain ⟨⟨d80, d81, d82, d83, d84, d85⟩, ⟨s80, s81, s82, s83, s84, s85⟩, k8, v8⟩ := fW.below hw' xf; obtain ⟨⟨gd0, gd1, gd2, gd3, gd4, gd5⟩, ⟨gs0, gs1, gs2, gs3, gs4, gs5⟩, gk, gv⟩ := gW.below hw' xg; obtain ⟨⟨hd0, hd1, hd2, hd3, hd4, hd5⟩, ⟨hs0, hs1, hs2, hs3, hs4, hs5⟩, hk, hv⟩ := hW7.below hw' xh; obtain ⟨ma0, ma1, ma2, ma3, ma4, ma5⟩ := mW.below hw' xm; obtain ⟨mb0, mb1, mb2, mb3, mb4, mb5⟩ := m11.below hw' x11; go_simp <;> with_reducible rfl)))); try simp only [Act.put, List.setIfInBounds_toArray, List.set_cons_zero, List.set_cons_succ])
  iterate 2 (refine plan_take (v := ?_) rfl (Or.inl ⟨by rfl, ?_⟩) ?_; rotate_left; (focus (intro w' hw'; obtain ⟨⟨d80, d81, d82, d83, d84, d85⟩, ⟨s80, s81, s82, s83, s84, s85⟩, k8, v8⟩ := fW.below hw' xf; obtain ⟨⟨gd0, gd1, gd2, gd3, gd4, gd5⟩, ⟨gs0, gs1, gs2, gs3, gs4, gs5⟩, gk, gv⟩ := gW.below hw' xg; obtain ⟨⟨hd0, hd1, hd2, hd3, hd4, hd5⟩, ⟨hs0, hs1, hs2, hs3, hs4, hs5⟩, hk, hv⟩ := hW7.below hw' xh; obtain ⟨ma0, ma1, ma2, ma3, ma4, ma5⟩ := mW.below hw' xm; obtain ⟨mb0, mb1, mb2, mb3, mb4, mb5⟩ := m11.below hw' x11; go_simp <;> with_reducible rfl)); try simp only [Act.put, List.setIfInBounds_toArray, List.set_cons_zero, List.set_cons_succ])
  iterate 3 ((first | refine plan_take (v := undef) rfl (Or.inr ⟨by rfl, rfl⟩) ?_ | (refine plan_take (v := ?_) rfl (Or.inl ⟨by rfl, ?_⟩) ?_; rotate_left; (focus (intro w' hw'; obtain ⟨⟨d80, d81, d82, d83, d84, d85⟩, ⟨s80, s81, s82, s83, s84, s85⟩, k8, v8⟩ := fW.below hw' xf; obtain ⟨⟨gd0, gd1, gd2, gd3, gd4, gd5⟩, ⟨gs0, gs1, gs2, gs3, gs4, gs5⟩, gk, gv⟩ := gW.below hw' xg; obtain ⟨⟨hd0, hd1, hd2, hd3, hd4, hd5⟩, ⟨hs0, hs1, hs2, hs3, hs4, hs5⟩, hk, hv⟩ := hW7.below hw' xh; obtain ⟨ma0, ma1, ma2, ma3, ma4, ma5⟩ := mW.below hw' xm; obtain ⟨mb0, mb1, mb2, mb3, mb4, mb5⟩ := m11.below hw' x11; go_simp <;> with_reducible rfl)))); try simp only [Act.put, List.setIfInBounds_toArray, List.set_cons_zero, List.set_cons_succ])
  iterate 2 (refine plan_take (v := ?_) rfl (Or.inl ⟨by rfl, ?_⟩) ?_; rotate_left; (focus (intro w' hw'; obtain ⟨⟨d80, d81, d82, d83, d84, d85⟩, ⟨s80, s81, s82, s83, s84, s85⟩, k8, v8⟩ := fW.below hw' xf; obtain ⟨⟨gd0, gd1, gd2, gd3, gd4, gd5⟩, ⟨gs0, gs1, gs2, gs3, gs4, gs5⟩, gk, gv⟩ := gW.below hw' xg; obtain ⟨⟨hd0, hd1, hd2, hd3, hd4, hd5⟩, ⟨hs0, hs1, hs2, hs3, hs4, hs5⟩, hk, hv⟩ := hW7.below hw' xh; obtain ⟨ma0, ma1, ma2, ma3, ma4, ma5⟩ := mW.below hw' xm; obtain ⟨mb0, mb1, mb2, mb3, mb4, mb5⟩ := m11.below hw' x11; go_simp <;> with_reducible rfl)); try simp only [Act.put, List.setIfInBounds_toArray, List.set_cons_zero, List.set_cons_succ])
  iterate 3 ((first | refine plan_take (v := undef) rfl (Or.inr ⟨by rfl, rfl⟩) ?_ | (refine plan_take (v := ?_) rfl (Or.inl ⟨by rfl, ?_⟩) ?_; rotate_left; (focus (intro w' hw'; obtain ⟨⟨d80, d81, d82, d83, d84, d85⟩, ⟨s80, s81, s82, s83, s84, s85⟩, k8, v8⟩ := fW.below hw' xf; obtain ⟨⟨gd0, gd1, gd2, gd3, gd4, gd5⟩, ⟨gs0, gs1, gs2, gs3, gs4, gs5⟩, gk, gv⟩ := gW.below hw' xg; obtain ⟨⟨hd0, hd1, hd2, hd3, hd4, hd5⟩, ⟨hs0, hs1, hs2, hs3, hs4, hs5⟩, hk, hv⟩ := hW7.below hw' xh; obtain ⟨ma0, ma1, ma2, ma3, ma4, ma5⟩ := mW.below hw' xm; obtain ⟨mb0, mb1, mb2, mb3, mb4, mb5⟩ := m11.below hw' x11; go_simp <;> with_reducible rfl)))); try simp only [Act.put, List.setIfInBounds_toArray, List.set_cons_zero, List.set_cons_succ])
  iterate 2 (refine plan_take (v := ?_) rfl (Or.inl ⟨by rfl, ?_⟩) ?_; rotate_left; (focus (intro w' hw'; obtain ⟨⟨d80, d81, d82, d83, d84, d85⟩, ⟨s80, s81, s82, s83, s84, s85⟩, k8, v8⟩ := fW.below hw' xf; obtain ⟨⟨gd0, gd1, gd2, gd3, gd4, gd5⟩, ⟨gs0, gs1, gs2, gs3, gs4, gs5⟩, gk, gv⟩ := gW.below hw' xg; obtain ⟨⟨hd0, hd1, hd2, hd3, hd4, hd5⟩, ⟨hs0, hs1, hs2, hs3, hs4, hs5⟩, hk, hv⟩ := hW7.below hw' xh; obtain ⟨ma0, ma1, ma2, ma3, ma4, ma5⟩ := mW.below hw' xm; obtain ⟨mb0, mb1, mb2, mb3, mb4, mb5⟩ := m11.below hw' x11; go_simp <;> with_reducible rfl)); try simp only [Act.put, List.setIfInBounds_toArray, List.set_cons_zero, List.set_cons_succ])
  refine plan_run rfl (fun K hK => ?_)
  go_simp
  refine (ethAll_any v4).mono ?_
  rintro e v5 ⟨rfl, hv5⟩
  refine hK.out _ _ (below_then (below_then (below_then (undrew hv2) hv3) hv4) hv5) ?_
  clear hK
  try simp only [Act.put, List.setIfInBounds_toArray, List.set_cons_zero, List.set_cons_succ]
  refine plan_run rfl (fun K hK => ?_)
  go_simp
  refine (refAll18_any v5).mono ?_
  rintro e v6 ⟨rfl, hv6⟩
  refine hK.out _ _ (below_then (below_then (below_then (below_then (undrew hv2) hv3) hv4) hv5) hv6) ?_
  clear hK
  try simp only [Act.put, List.setIfInBounds_toArray, List.set_cons_zero, List.set_cons_succ]
  iterate 1 ((first | refine plan_take (v := undef) rfl (Or.inr ⟨by rfl, rfl⟩) ?_ | (refine plan_take (v := ?_) rfl (Or.inl ⟨by rfl, ?_⟩) ?_; rotate_left; (focus (intro w' hw'; obtain ⟨⟨d80, d81, d82, d83, d84, d85⟩, ⟨s80, s81, s82, s83, s84, s85⟩, k8, v8⟩ := fW.below hw' xf; obtain ⟨⟨gd0, gd1, gd2, gd3, gd4, gd5⟩, ⟨gs0, gs1, gs2, gs3, gs4, gs5⟩, gk, gv⟩ := gW.below hw' xg; obtain ⟨⟨hd0, hd1, hd2, hd3, hd4, hd5⟩, ⟨hs0, hs1, hs2, hs3, hs4, hs5⟩, hk, hv⟩ := hW7.below hw' xh; obtain ⟨ma0, ma1, ma2, ma3, ma4, ma5⟩ := mW.below hw' xm; obtain ⟨mb0, mb1, mb2, mb3, mb4, mb5⟩ := m11.below hw' x11; go_simp <;> with_reducible rfl)))); try simp only [Act.put, List.setIfInBounds_toArray, List.set_cons_zero, List.set_cons_succ])
  iterate 2 (refine plan_take (v := ?_) rfl (Or.inl ⟨by rfl, ?_⟩) ?_; rotate_left; (focus (intro w' hw'; obtain ⟨⟨d80, d81, d82, d83, d84, d85⟩, ⟨s80, s81, s82, s83, s84, s85⟩, k8, v8⟩ := fW.below hw' xf; obtain ⟨⟨gd0, gd1, gd2, gd3, gd4, gd5⟩, ⟨gs0, gs1, gs2, gs3, gs4, gs5⟩, gk, gv⟩ := gW.below hw' xg; obtain ⟨⟨hd0, hd1, hd2, hd3, hd4, hd5⟩, ⟨hs0, hs1, hs2, hs3, hs4, hs5⟩, hk, hv⟩ := hW7.below hw' xh; obtain ⟨ma0, ma1, ma2, ma3, ma4, ma5⟩ := mW.below hw' xm; obtain ⟨mb0, mb1, mb2, mb3, mb4, mb5⟩ := m11.below hw' x11; go_simp <;> with_reducible rfl)); try simp only [Act.put, List.setIfInBounds_toArray, List.set_cons_zero, List.set_cons_succ])
  refine plan_run rfl (fun K hK => ?_)
  go_simp
  refine (heads18 v6).mono ?_
  rintro e v7 ⟨rfl, hv7⟩
  refine hK.out _ _ (below_then (below_then (below_then (below_then (below_then (undrew hv2) hv3) hv4) hv5) hv6) hv7) ?_
  clear hK
  try simp only [Act.put, List.setIfInBounds_toArray, List.set_cons_zero, List.set_cons_succ]
  iterate 2 (refine plan_take (v := ?_) rfl (Or.inl ⟨by rfl, ?_⟩) ?_; rotate_left; (focus (intro w' hw'; obtain ⟨⟨d80, d81, d82, d83, d84, d85⟩, ⟨s80, s81, s82, s83, s84, s85⟩, k8, v8⟩ := fW.below hw' xf; obtain ⟨⟨gd0, gd1, gd2, gd3, gd4, gd5⟩, ⟨gs0, gs1, gs2, gs3, gs4, gs5⟩, gk, gv⟩ := gW.below hw' xg; obtain ⟨⟨hd0, hd1, hd2, hd3, hd4, hd5⟩, ⟨hs0, hs1, hs2, hs3, hs4, hs5⟩, hk, hv⟩ := hW7.below hw' xh; obtain ⟨ma0, ma1, ma2, ma3, ma4, ma5⟩ := mW.below hw' xm; obtain ⟨mb0, mb1, mb2, mb3, mb4, mb5⟩ := m11.below hw' x11; go_simp <;> with_reducible rfl)); try simp only [Act.put, List.setIfInBounds_toArray, List.set_cons_zero, List.set_cons_succ])
  refine plan_done ?_
  go_wp2
  go_ret
  exact ⟨rfl, below_then (below_then bW1 B1W) (below_then (below_then (below_then (below_then (below_then (undrew hv2) hv3) hv4) hv5) hv6) hv7)⟩

theorem ethTells_law (d s : Mc) (k : Nat) (A : Option Addr) (n c : Nat) (xs : List UInt8) (B : Option Addr) (m e' : Nat) (ys : List UInt8) (w : World) (hk : k < 65536) (hr : RdB w A n c xs) (hs : RdB w B m e' ys) :
    Calls Try.prog 4 #[.agg #[.int .u8 (d.a0.toNat : Int), .int .u8 (d.a1.toNat : Int), .int .u8 (d.a2.toNat : Int), .int .u8 (d.a3.toNat : Int), .int .u8 (d.a4.toNat : Int), .int .u8 (d.a5.toNat : Int), .int .u8 (s.a0.toNat : Int), .int .u8 (s.a1.toNat : Int), .int .u8 (s.a2.toNat : Int), .int .u8 (s.a3.toNat : Int), .int .u8 (s.a4.toNat : Int), .int .u8 (s.a5.toNat : Int), .int .u16 k, .slice A n c], .slice B m e'] w (RetV w (.bool true)) := by
  by_cases h : 400 < n ∨ 400 < m
  · exact ethTells_early d s k A n c xs B m e' ys w hr hs h
  · exact ethTells_main d s k A n c xs B m e' ys w hr hs hk (by omega) (by omega)
end Go.Proofs.Ytieilgphcfiapaa
