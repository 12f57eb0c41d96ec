/-
  The law IpTells.
-/
import Derived.Test.YtieilgphcfiapaaIpM
import Derived.Test.YtieilgphcfiapaaAid
-- facts: PkAt
namespace Go.Proofs.Ytieilgphcfiapaa
set_option maxRecDepth 20000
open Go.RowKit
set_option linter.unusedVariables false
set_option linter.unusedSimpArgs false
set_option maxHeartbeats 4000000

theorem ipTells_early (id : Nat) (more : Bool) (place proto : Int) (src dst : Nat) (A : Option Addr) (n c : Nat) (xs : List UInt8) (B : Option Addr) (m e' : Nat) (ys : List UInt8) (w : World) (hr : RdB w A n c xs) (hs : RdB w B m e' ys) (h : 400 < n ∨ 400 < m) :
    Calls Try.prog 7 #[.agg #[.int .u16 id, .bool more, .int .i64 place, .int .i64 proto, .int .u32 src, .int .u32 dst, .slice A n c], .slice B m e'] w (RetV w (.bool true)) := by
  have hn63 := hr.n63
  have hm63 := hs.n63
  by_cases h1 : 400 < n
  · have d1 : decide ((400 : Int) < (n : Int)) = true := decide_eq_true (by omega)
    clear h
    go_enter Try.func7, Try.ntmps7
    go_wp2_with fail
    refine (heads20 _).mono ?_
    rintro e w9 ⟨rfl, hb9⟩
    go_wp2
    go_ret
    exact ⟨rfl, bstep (below_self w) hb9⟩
  · have d1 : decide ((400 : Int) < (n : Int)) = false := decide_eq_false (by omega)
    have d2 : decide ((400 : Int) < (m : Int)) = true := decide_eq_true (by omega)
    clear h
    go_enter Try.func7, Try.ntmps7
    go_wp2_with fail
    refine (heads20 _).mono ?_
    rintro e w9 ⟨rfl, hb9⟩
    go_wp2
    go_ret
    exact ⟨rfl, bstep (below_self w) hb9⟩

theorem ipTells_main (id : Nat) (more : Bool) (place proto : Int) (src dst : Nat) (A : Option Addr) (n c : Nat) (xs : List UInt8) (B : Option Addr) (m e' : Nat) (ys : List UInt8) (w : World) (hid : id < 65536) (hp : -9223372036854775808 ≤ place ∧ place ≤ 9223372036854775807) (ho : -9223372036854775808 ≤ proto ∧ proto ≤ 9223372036854775807) (hsrc : src < 4294967296) (hdst : dst < 4294967296) (hr : RdB w A n c xs) (hs : RdB w B m e' ys) (h1 : n ≤ 400) (h2 : m ≤ 400) :
    Calls Try.prog 7 #[.agg #[.int .u16 id, .bool more, .int .i64 place, .int .i64 proto, .int .u32 src, .int .u32 dst, .slice A n c], .slice B m e'] w (RetV w (.bool true)) := by
  have hn63 := hr.n63
  have hm63 := hs.n63
  have d1 : decide ((400 : Int) < (n : Int)) = false := decide_eq_false (by omega)
  have d2 : decide ((400 : Int) < (m : Int)) = false := decide_eq_false (by omega)
  have hpe0 : ipPutE place proto xs = 0 ∨ ipPutE place proto xs = 2 := by unfold ipPutE; split <;> simp
  obtain ⟨pe, hpe⟩ : ∃ pe, ipPutE place proto xs = pe := ⟨ipPutE place proto xs, rfl⟩
  rw [hpe] at hpe0
  have HPE := Lib.hid hpe
  obtain ⟨ge, hge⟩ : ∃ ge, ipGetE ys = ge := ⟨ipGetE ys, rfl⟩
  have hge0 : 0 ≤ ge ∧ ge ≤ 1000 := by
    rw [← hge]; unfold ipGetE
    split; · decide
    split; · decide
    split; · decide
    split; · decide
    split; · decide
    split <;> decide
  have HGE := Lib.hid hge
  obtain ⟨y, hy⟩ : ∃ y, ipGet ys = y := ⟨ipGet ys, rfl⟩
  have HY := Lib.hid hy
  obtain ⟨P, hP⟩ : ∃ P, ipPutL id more place proto src dst xs = P := ⟨ipPutL id more place proto src dst xs, rfl⟩
  have HP := Lib.hid hP
  clear hpe hge hy hP
  go_enter Try.func7, Try.ntmps7
  go_wp2_with fail
  refine named ?_
  intro W1 hW1
  have bW1 : Below w.heap.size w W1 := by rw [hW1]; repeat' (first | exact Below.refl _ _ | (refine Below.alloc ?_ ?_ _; rotate_left; (simp <;> omega)) | refine Below.drew ?_)
  have zW1 := bW1.size
  have f1 : PkAt W1 w.heap.size id more place proto src dst A n c := by rw [hW1]; simp [PkAt, go_sem]
  have HW1 := Lib.hid hW1
  clear hW1
  have x1 : w.heap.size < W1.heap.size := by rw [HW1.out]; simp
  have r1 := hr.below bW1
  have s1 := hs.below bW1
  refine (ipPut_any id more place proto src dst A n c xs W1 hid hp ho hsrc hdst r1).mono ?_
  rintro e w2 ⟨A2, n2, c2, rfl, ho2, hb2⟩
  rw [HPE.out]
  rw [HP.out] at ho2
  obtain ⟨a0, a1, a2, a3, a4, a5, a6⟩ := f1.below hb2 x1
  go_wp2_with fail
  refine (refPut20_any id more place proto src dst A n c xs w2 hid hp ho hsrc hdst (r1.below hb2)).mono ?_
  rintro e w3 ⟨A3, n3, c3, rfl, ho3, hb3⟩
  rw [HPE.out]
  rw [HP.out] at ho3
  clear a0 a1 a2 a3 a4 a5 a6
  have B13 := below_then hb2 hb3
  go_wp2_with fail
  have hg3 := ipGet_any B m e' ys w3 (s1.below B13)
  rw [HY.out, HGE.out] at hg3
  refine hg3.mono ?_
  rintro e w4 ⟨A4, n4, c4, rfl, hr4, hb4⟩
  clear hg3
  go_wp2_with fail
  refine named ?_
  intro W5 hW5
  have bW5 : Below w4.heap.size w4 W5 := by rw [hW5]; repeat' (first | exact Below.refl _ _ | (refine Below.alloc ?_ ?_ _; rotate_left; (simp <;> omega)) | refine Below.drew ?_)
  have zW5 := bW5.size
  have g5 : PkAt W5 w4.heap.size y.id y.more y.place y.proto y.src y.dst A4 n4 c4 := by rw [hW5]; simp [PkAt, go_sem]
  have HW5 := Lib.hid hW5
  clear hW5
  have x5 : w4.heap.size < W5.heap.size := by rw [HW5.out]; simp
  have B15 := below_then B13 (below_then hb4 bW5)
  have hg5 := refGet20_any B m e' ys W5 (s1.below B15)
  rw [HY.out, HGE.out] at hg5
  refine hg5.mono ?_
  rintro e w6 ⟨A6, n6, c6, rfl, hr6, hb6⟩
  clear hg5
  go_wp2_with fail
  obtain ⟨W, hW⟩ : ∃ W, W = w6.alloc (.cells #[.int .u16 (y.id : Int), .bool y.more, .int .i64 y.place, .int .i64 y.proto, .int .u32 (y.src : Int), .int .u32 (y.dst : Int), .slice A6 n6 c6] 51) := ⟨_, rfl⟩
  rw [← hW]
  have bW : Below w6.heap.size w6 W := by rw [hW]; exact (below_self w6).alloc (Nat.le_refl _) _
  have m7 : PkAt W w6.heap.size y.id y.more y.place y.proto y.src y.dst A6 n6 c6 := by rw [hW]; simp [PkAt, go_sem]
  have x7 : w6.heap.size < W.heap.size := by rw [hW]; simp
  have HW := Lib.hid hW
  clear hW
  have B57 := below_then hb6 bW
  have B1W := below_then B15 B57
  have z6 := hb6.size
  have fW := f1.below B1W x1
  have gW := g5.below B57 x5
  have rp := ho2.rd.below (below_then hb3 (below_then (below_then hb4 bW5) B57))
  have rq := ho3.rd.below (below_then (below_then hb4 bW5) B57)
  have rx := hr4.below (below_then bW5 B57)
  have ry := hr6.below bW
  have sW := s1.below B1W
  have xf : w.heap.size < W.heap.size := Nat.lt_of_lt_of_le x1 B1W.size
  have xg : w4.heap.size < W.heap.size := Nat.lt_of_lt_of_le x5 B57.size
  have k1 : IntKind.i64.wrap pe = pe := IntWalk.i64_in _ (by omega)
  have k2 : IntKind.i64.wrap ge = ge := IntWalk.i64_in _ (by omega)
  have k3 : (pe == pe) = true := by simp
  have k4 : (ge == ge) = true := by simp
  have k5 : (ipCheck place proto n == ipCheck place proto n) = true := by simp
  have k6 : (ipWhole more place == ipWhole more place) = true := by simp
  have k7 : (((ipSumN src dst proto ys : Nat) : Int) == ((ipSumN src dst proto ys : Nat) : Int)) = true := by simp
  clear f1 g5 hge0 hpe0
  refine wp_region_plan (S := fun w' => Below W.heap.size W w') [(0, true), (1, true), (2, false), (3, true), (4, true), (5, true), (6, true), (7, true), (8, true), (9, true), (10, true), (11, false), (12, true), (13, true), (14, true), (15, true), (16, true), (17, true), (18, true), (19, true), (21, true), (20, false), (22, false), (23, true), (24, true), (25, true), (26, true), (28, true), (27, false), (29, false), (30, true), (31, true), (32, true), (33, true), (34, true), (35, true), (36, true), (37, true), (38, true), (39, true), (41, true), (42, true), (43, true), (44, true), (45, true), (46, true), (47, true), (40, false), (48, false), (49, true), (50, true), (51, true), (52, false), (53, true), (54, true)] (by kernel_rfl) (by kernel_rfl) (fun _ _ d _ _ h => by cases d <;> exact h) ((Below.refl _ W).drew) ?_
  iterate 2 (refine plan_take (v := ?_) rfl (Or.inl ⟨by rfl, ?_⟩) ?_; rotate_left; (focus (intro w' hw'; obtain ⟨a0, a1, a2, a3, a4, a5, a6⟩ := fW.below hw' xf; obtain ⟨b0, b1, b2, b3, b4, b5, b6⟩ := gW.below hw' xg; obtain ⟨e0, e1, e2, e3, e4, e5, e6⟩ := m7.below hw' x7; go_simp <;> with_reducible rfl)); try simp only [Act.put, List.setIfInBounds_toArray, List.set_cons_zero, List.set_cons_succ])
  refine plan_run rfl (fun K hK => ?_)
  go_simp
  refine (bytes_any _ _ _ _ _ _ _ _ _ rp.drew rq.drew).mono ?_
  rintro e v1 ⟨rfl, rfl⟩
  rw [decide_eq_true rfl]
  refine hK.out _ _ ((Below.refl _ W).drew) ?_
  clear hK
  try simp only [Act.put, List.setIfInBounds_toArray, List.set_cons_zero, List.set_cons_succ]
  iterate 1 (refine plan_take (v := ?_) rfl (Or.inl ⟨by rfl, ?_⟩) ?_; rotate_left; (focus (intro w' hw'; obtain ⟨a0, a1, a2, a3, a4, a5, a6⟩ := fW.below hw' xf; obtain ⟨b0, b1, b2, b3, b4, b5, b6⟩ := gW.below hw' xg; obtain ⟨e0, e1, e2, e3, e4, e5, e6⟩ := m7.below hw' x7; go_simp <;> with_reducible rfl)); try simp only [Act.put, List.setIfInBounds_toArray, List.set_cons_zero, List.set_cons_succ])
  iterate 3 ((first | refine plan_take (v := undef) rfl (Or.inr ⟨by rfl, rfl⟩) ?_ | (refine plan_take (v := ?_) rfl (Or.inl ⟨by rfl, ?_⟩) ?_; rotate_left; (focus (intro w' hw'; obtain ⟨a0, a1, a2, a3, a4, a5, a6⟩ := fW.below hw' xf; obtain ⟨b0, b1, b2, b3, b4, b5, b6⟩ := gW.below hw' xg; obtain ⟨e0, e1, e2, e3, e4, e5, e6⟩ := m7.below hw' x7; go_simp <;> with_reducible rfl)))); try simp only [Act.put, List.setIfInBounds_toArray, List.set_cons_zero, List.set_cons_succ])
  iterate 2 (refine plan_take (v := ?_) rfl (Or.inl ⟨by rfl, ?_⟩) ?_; rotate_left; (focus (intro w' hw'; obtain ⟨a0, a1, a2, a3, a4, a5, a6⟩ := fW.below hw' xf; obtain ⟨b0, b1, b2, b3, b4, b5, b6⟩ := gW.below hw' xg; obtain ⟨e0, e1, e2, e3, e4, e5, e6⟩ := m7.below hw' x7; go_simp <;> with_reducible rfl)); try simp only [Act.put, List.setIfInBounds_toArray, List.set_cons_zero, List.set_cons_succ])
  iterate 2 ((first | refine plan_take (v := undef) rfl (Or.inr ⟨by rfl, rfl⟩) ?_ | (refine plan_take (v := ?_) rfl (Or.inl ⟨by rfl, ?_⟩) ?_; rotate_left; (focus (intro w' hw'; obtain ⟨a0, a1, a2, a3, a4, a5, a6⟩ := fW.below hw' xf; obtain ⟨b0, b1, b2, b3, b4, b5, b6⟩ := gW.below hw' xg; obtain ⟨e0, e1, e2, e3, e4, e5, e6⟩ := m7.below hw' x7; go_simp <;> with_reducible rfl)))); try simp only [Act.put, List.setIfInBounds_toArray, List.set_cons_zero, List.set_cons_succ])
  refine plan_run rfl (fun K hK => ?_)
  go_simp
  refine (same20_any y.id y.more y.place y.proto y.src y.dst _ _ _ _ _ _ y.b _ rx.drew ry.drew).mono ?_
  rintro e v2 ⟨rfl, hv2⟩
  refine hK.out _ _ (undrew hv2) ?_
  clear hK
  try simp only [Act.put, List.setIfInBounds_toArray, List.set_cons_zero, List.set_cons_succ]
  iterate 2 (refine plan_take (v := ?_) rfl (Or.inl ⟨by rfl, ?_⟩) ?_; rotate_left; (focus (intro w' hw'; obtain ⟨a0, a1, a2, a3, a4, a5, a6⟩ := fW.below hw' xf; obtain ⟨b0, b1, b2, b3, b4, b5, b6⟩ := gW.below hw' xg; obtain ⟨e0, e1, e2, e3, e4, e5, e6⟩ := m7.below hw' x7; go_simp <;> with_reducible rfl)); try simp only [Act.put, List.setIfInBounds_toArray, List.set_cons_zero, List.set_cons_succ])
  iterate 3 ((first | refine plan_take (v := undef) rfl (Or.inr ⟨by rfl, rfl⟩) ?_ | (refine plan_take (v := ?_) rfl (Or.inl ⟨by rfl, ?_⟩) ?_; rotate_left; (focus (intro w' hw'; obtain ⟨a0, a1, a2, a3, a4, a5, a6⟩ := fW.below hw' xf; obtain ⟨b0, b1, b2, b3, b4, b5, b6⟩ := gW.below hw' xg; obtain ⟨e0, e1, e2, e3, e4, e5, e6⟩ := m7.below hw' x7; go_simp <;> with_reducible rfl)))); try simp only [Act.put, List.setIfInBounds_toArray, List.set_cons_zero, List.set_cons_succ])
  iterate 2 (refine plan_take (v := ?_) rfl (Or.inl ⟨by rfl, ?_⟩) ?_; rotate_left; (focus (intro w' hw'; obtain ⟨a0, a1, a2, a3, a4, a5, a6⟩ := fW.below hw' xf; obtain ⟨b0, b1, b2, b3, b4, b5, b6⟩ := gW.below hw' xg; obtain ⟨e0, e1, e2, e3, e4, e5, e6⟩ := m7.below hw' x7; go_simp <;> with_reducible rfl)); try simp only [Act.put, List.setIfInBounds_toArray, List.set_cons_zero, List.set_cons_succ])
  iterate 2 ((first | refine plan_take (v := undef) rfl (Or.inr ⟨by rfl, rfl⟩) ?_ | (refine plan_take (v := ?_) rfl (Or.inl ⟨by rfl, ?_⟩) ?_; rotate_left; (focus (intro w' hw'; obtain ⟨a0, a1, a2, a3, a4, a5, a6⟩ := fW.below hw' xf; obtain ⟨b0, b1, b2, b3, b4, b5, b6⟩ := gW.below hw' xg; obtain ⟨e0, e1, e2, e3, e4, e5, e6⟩ := m7.below hw' x7; go_simp <;> with_reducible rfl)))); try simp only [Act.put, List.setIfInBounds_toArray, List.set_cons_zero, List.set_cons_succ])
  refine plan_run rfl (fun K hK => ?_)
  go_simp
  refine (ipCheck_any id more place proto src dst A n c v2 hn63 hp ho).mono ?_
  rintro e v3 ⟨rfl, hv3⟩
  refine hK.out _ _ ((below_then (undrew hv2) hv3)) ?_
  clear hK
  try simp only [Act.put, List.setIfInBounds_toArray, List.set_cons_zero, List.set_cons_succ]
  refine plan_run rfl (fun K hK => ?_)
  go_simp
  refine (refCheck20_any id more place proto src dst A n c v3 hn63 hp ho).mono ?_
  rintro e v4 ⟨rfl, hv4⟩
  refine hK.out _ _ ((below_then (below_then (undrew hv2) hv3) hv4)) ?_
  clear hK
  try simp only [Act.put, List.setIfInBounds_toArray, List.set_cons_zero, List.set_cons_succ]
  iterate 1 ((first | refine plan_take (v := undef) rfl (Or.inr ⟨by rfl, rfl⟩) ?_ | (refine plan_take (v := ?_) rfl (Or.inl ⟨by rfl, ?_⟩) ?_; rotate_left; (focus (intro w' hw'; obtain ⟨a0, a1, a2, a3, a4, a5, a6⟩ := fW.below hw' xf; obtain ⟨b0, b1, b2, b3, b4, b5, b6⟩ := gW.below hw' xg; obtain ⟨e0, e1, e2, e3, e4, e5, e6⟩ := m7.below hw' x7; go_simp <;> with_reducible rfl)))); try simp only [Act.put, List.setIfInBounds_toArray, List.set_cons_zero, List.set_cons_succ])
  iterate 2 (refine plan_take (v := ?_) rfl (Or.inl ⟨by rfl, ?_⟩) ?_; rotate_left; (focus (intro w' hw'; obtain ⟨a0, a1, a2, a3, a4, a5, a6⟩ := fW.below hw' xf; obtain ⟨b0, b1, b2, b3, b4, b5, b6⟩ := gW.below hw' xg; obtain ⟨e0, e1, e2, e3, e4, e5, e6⟩ := m7.below hw' x7; go_simp <;> with_reducible rfl)); try simp only [Act.put, List.setIfInBounds_toArray, List.set_cons_zero, List.set_cons_succ])
  iterate 2 ((first | refine plan_take (v := undef) rfl (Or.inr ⟨by rfl, rfl⟩) ?_ | (refine plan_take (v := ?_) rfl (Or.inl ⟨by rfl, ?_⟩) ?_; rotate_left; (focus (intro w' hw'; obtain ⟨a0, a1, a2, a3, a4, a5, a6⟩ := fW.below hw' xf; obtain ⟨b0, b1, b2, b3, b4, b5, b6⟩ := gW.below hw' xg; obtain ⟨e0, e1, e2, e3, e4, e5, e6⟩ := m7.below hw' x7; go_simp <;> with_reducible rfl)))); try simp only [Act.put, List.setIfInBounds_toArray, List.set_cons_zero, List.set_cons_succ])
  refine plan_run rfl (fun K hK => ?_)
  go_simp
  refine (ipWhole_any id more place proto src dst A n c v4).mono ?_
  rintro e v5 ⟨rfl, hv5⟩
  refine hK.out _ _ ((below_then (below_then (below_then (undrew hv2) hv3) hv4) hv5)) ?_
  clear hK
  try simp only [Act.put, List.setIfInBounds_toArray, List.set_cons_zero, List.set_cons_succ]
  refine plan_run rfl (fun K hK => ?_)
  go_simp
  refine (refWhole20_any id more place proto src dst A n c v5).mono ?_
  rintro e v6 ⟨rfl, hv6⟩
  refine hK.out _ _ ((below_then (below_then (below_then (below_then (undrew hv2) hv3) hv4) hv5) hv6)) ?_
  clear hK
  try simp only [Act.put, List.setIfInBounds_toArray, List.set_cons_zero, List.set_cons_succ]
  iterate 1 ((first | refine plan_take (v := undef) rfl (Or.inr ⟨by rfl, rfl⟩) ?_ | (refine plan_take (v := ?_) rfl (Or.inl ⟨by rfl, ?_⟩) ?_; rotate_left; (focus (intro w' hw'; obtain ⟨a0, a1, a2, a3, a4, a5, a6⟩ := fW.below hw' xf; obtain ⟨b0, b1, b2, b3, b4, b5, b6⟩ := gW.below hw' xg; obtain ⟨e0, e1, e2, e3, e4, e5, e6⟩ := m7.below hw' x7; go_simp <;> with_reducible rfl)))); try simp only [Act.put, List.setIfInBounds_toArray, List.set_cons_zero, List.set_cons_succ])
  iterate 2 (refine plan_take (v := ?_) rfl (Or.inl ⟨by rfl, ?_⟩) ?_; rotate_left; (focus (intro w' hw'; obtain ⟨a0, a1, a2, a3, a4, a5, a6⟩ := fW.below hw' xf; obtain ⟨b0, b1, b2, b3, b4, b5, b6⟩ := gW.below hw' xg; obtain ⟨e0, e1, e2, e3, e4, e5, e6⟩ := m7.below hw' x7; go_simp <;> with_reducible rfl)); try simp only [Act.put, List.setIfInBounds_toArray, List.set_cons_zero, List.set_cons_succ])
  iterate 14 ((first | refine plan_take (v := undef) rfl (Or.inr ⟨by rfl, rfl⟩) ?_ | (refine plan_take (v := ?_) rfl (Or.inl ⟨by rfl, ?_⟩) ?_; rotate_left; (focus (intro w' hw'; obtain ⟨a0, a1, a2, a3, a4, a5, a6⟩ := fW.below hw' xf; obtain ⟨b0, b1, b2, b3, b4, b5, b6⟩ := gW.below hw' xg; obtain ⟨e0, e1, e2, e3, e4, e5, e6⟩ := m7.below hw' x7; go_simp <;> with_reducible rfl)))); try simp only [Act.put, List.setIfInBounds_toArray, List.set_cons_zero, List.set_cons_succ])
  refine plan_run rfl (fun K hK => ?_)
  go_simp
  refine (ipSum_any src dst proto B m e' ys v6 hsrc hdst (sW.below (below_then (below_then (below_then (below_then (undrew hv2) hv3) hv4) hv5) hv6)) (by omega)).mono ?_
  rintro e v7 ⟨rfl, hv7⟩
  refine hK.out _ _ ((below_then (below_then (below_then (below_then (below_then (undrew hv2) hv3) hv4) hv5) hv6) hv7)) ?_
  clear hK
  try simp only [Act.put, List.setIfInBounds_toArray, List.set_cons_zero, List.set_cons_succ]
  refine plan_run rfl (fun K hK => ?_)
  go_simp
  refine (refSum20_any src dst proto B m e' ys v7 hsrc hdst (sW.below (below_then (below_then (below_then (below_then (below_then (undrew hv2) hv3) hv4) hv5) hv6) hv7)) (by omega)).mono ?_
  rintro e v8 ⟨rfl, hv8⟩
  refine hK.out _ _ ((below_then (below_then (below_then (below_then (below_then (below_then (undrew hv2) hv3) hv4) hv5) hv6) hv7) hv8)) ?_
  clear hK
  try simp only [Act.put, List.setIfInBounds_toArray, List.set_cons_zero, List.set_cons_succ]
  iterate 1 ((first | refine plan_take (v := undef) rfl (Or.inr ⟨by rfl, rfl⟩) ?_ | (refine plan_take (v := ?_) rfl (Or.inl ⟨by rfl, ?_⟩) ?_; rotate_left; (focus (intro w' hw'; obtain ⟨a0, a1, a2, a3, a4, a5, a6⟩ := fW.below hw' xf; obtain ⟨b0, b1, b2, b3, b4, b5, b6⟩ := gW.below hw' xg; obtain ⟨e0, e1, e2, e3, e4, e5, e6⟩ := m7.below hw' x7; go_simp <;> with_reducible rfl)))); try simp only [Act.put, List.setIfInBounds_toArray, List.set_cons_zero, List.set_cons_succ])
  iterate 2 (refine plan_take (v := ?_) rfl (Or.inl ⟨by rfl, ?_⟩) ?_; rotate_left; (focus (intro w' hw'; obtain ⟨a0, a1, a2, a3, a4, a5, a6⟩ := fW.below hw' xf; obtain ⟨b0, b1, b2, b3, b4, b5, b6⟩ := gW.below hw' xg; obtain ⟨e0, e1, e2, e3, e4, e5, e6⟩ := m7.below hw' x7; go_simp <;> with_reducible rfl)); try simp only [Act.put, List.setIfInBounds_toArray, List.set_cons_zero, List.set_cons_succ])
  refine plan_run rfl (fun K hK => ?_)
  go_simp
  refine (heads20 v8).mono ?_
  rintro e v9 ⟨rfl, hv9⟩
  refine hK.out _ _ ((below_then (below_then (below_then (below_then (below_then (below_then (below_then (undrew hv2) hv3) hv4) hv5) hv6) hv7) hv8) hv9)) ?_
  clear hK
  try simp only [Act.put, List.setIfInBounds_toArray, List.set_cons_zero, List.set_cons_succ]
  iterate 2 (refine plan_take (v := ?_) rfl (Or.inl ⟨by rfl, ?_⟩) ?_; rotate_left; (focus (intro w' hw'; obtain ⟨a0, a1, a2, a3, a4, a5, a6⟩ := fW.below hw' xf; obtain ⟨b0, b1, b2, b3, b4, b5, b6⟩ := gW.below hw' xg; obtain ⟨e0, e1, e2, e3, e4, e5, e6⟩ := m7.below hw' x7; go_simp <;> with_reducible rfl)); try simp only [Act.put, List.setIfInBounds_toArray, List.set_cons_zero, List.set_cons_succ])
  refine plan_done ?_
  go_wp2
  go_ret
  exact ⟨rfl, below_then (below_then bW1 B1W) (below_then (below_then (below_then (below_then (below_then (below_then (below_then (undrew hv2) hv3) hv4) hv5) hv6) hv7) hv8) hv9)⟩

theorem ipTells_law (id : Nat) (more : Bool) (place proto : Int) (src dst : Nat) (A : Option Addr) (n c : Nat) (xs : List UInt8) (B : Option Addr) (m e' : Nat) (ys : List UInt8) (w : World) (hid : id < 65536) (hp : -9223372036854775808 ≤ place ∧ place ≤ 9223372036854775807) (ho : -9223372036854775808 ≤ proto ∧ proto ≤ 9223372036854775807) (hsrc : src < 4294967296) (hdst : dst < 4294967296) (hr : RdB w A n c xs) (hs : RdB w B m e' ys) :
    Calls Try.prog 7 #[.agg #[.int .u16 id, .bool more, .int .i64 place, .int .i64 proto, .int .u32 src, .int .u32 dst, .slice A n c], .slice B m e'] w (RetV w (.bool true)) := by
  by_cases h : 400 < n ∨ 400 < m
  · exact ipTells_early id more place proto src dst A n c xs B m e' ys w hr hs h
  · exact ipTells_main id more place proto src dst A n c xs B m e' ys w hid hp ho hsrc hdst hr hs (by omega) (by omega)
end Go.Proofs.Ytieilgphcfiapaa
