/-
 Proved here, for the statement JournalTells:
 Layer 14 (the document): Came (printed by genjrt.py out of XJrnF).
 Layer 14 (the document): Begin (printed by genjrd.py out of XJrnD).
-/
import Derived.Test.YtpahicfnhhhifaaGreatGt16
set_option linter.unusedVariables false
set_option linter.unusedSimpArgs false
namespace Go.Proofs.YtpahicfnhhhifaaGreat
set_option maxRecDepth 20000
open Go.RowKit
set_option maxHeartbeats 8000000
theorem refCame14_bad (P : Nat → Prop) (m : Jm) (wl jl : List Jb) (well : Bool) (w : World) (hv : JIn P w m (m.of wl jl)) (hP : ∀ j, P j → j < w.heap.size) (hc : jnChk (m.of wl jl) = false) :
  Calls Tryz.prog 21 #[.agg (jmV m).toArray, .bool well] w (RetJ P w (m.of wl jl) (3)) := by
 obtain ⟨V, hV⟩ : ∃ V, V = (w.alloc (.cells (jmV m).toArray 36)).alloc (.cells Tryz.zeroCells36 36) := ⟨_, rfl⟩
 have S := Lib.hid (js_new hv hV)
 have HV := Lib.hid hV
 have zV : V.heap.size = w.heap.size + 2 := by rw [hV]; simp
 have ZV := Lib.hid zV
 have C := Lib.hid (refCheck14_any P m (m.of wl jl) V (hv.below S.out.b))
 rw [hc] at C
 have HI := Lib.hid hv
 have HP := Lib.hid hP
 clear hV zV hv hP hc
 go_enter Tryz.func21, Tryz.ntmps21
 go_wp2_with (first | (rw [← HV.out]) | (refine jm_load S.out.z rfl _ rfl rfl S.out.j ?_))
 refine C.out.mono ?_
 rintro e w1 ⟨rfl, hb1⟩
 have S1 := Lib.hid (S.out.up hb1)
 obtain ⟨⟨c0, c1, c2, c3, c4⟩, ⟨c37, c38, c39, c40, c41, c76, c77⟩, fz⟩ := S1.out.j.cells S1.out.z
 go_wp2_with (first | (refine jm_load S1.out.z rfl _ rfl rfl S1.out.j ?_) | (refine jm_store S1.out.z jmZ_z rfl _ _ rfl rfl rfl S1.out.o ?_; intro X zX qX bX nX))
 refine bodyPost_ret (dresults_cell_tmp Tryz.results21 _ _ (w.heap.size + 1) 36 _ (0, 0) _ rfl qX Tryz.underlying36 rfl (jm_info S1.out.z)) rfl ?_
 have bF := S1.out.b.trans (bX w.heap.size (by omega))
 exact ⟨m, rfl, HI.out.below bF, bF⟩
theorem refCame14_stop (P : Nat → Prop) (m : Jm) (wl jl : List Jb) (well : Bool) (w : World) (hv : JIn P w m (m.of wl jl)) (hP : ∀ j, P j → j < w.heap.size) (hc : jnChk (m.of wl jl) = true) (hp : m.ph = 7) :
  Calls Tryz.prog 21 #[.agg (jmV m).toArray, .bool well] w (RetJ P w (m.of wl jl) (8)) := by
 obtain ⟨V, hV⟩ : ∃ V, V = (w.alloc (.cells (jmV m).toArray 36)).alloc (.cells Tryz.zeroCells36 36) := ⟨_, rfl⟩
 have S := Lib.hid (js_new hv hV)
 have HV := Lib.hid hV
 have zV : V.heap.size = w.heap.size + 2 := by rw [hV]; simp
 have ZV := Lib.hid zV
 have C := Lib.hid (refCheck14_any P m (m.of wl jl) V (hv.below S.out.b))
 rw [hc] at C
 have Hp := Lib.hid hp
 clear hp
 have HI := Lib.hid hv
 have HP := Lib.hid hP
 clear hV zV hv hP hc
 go_enter Tryz.func21, Tryz.ntmps21
 go_wp2_with (first | (rw [← HV.out]) | (refine jm_load S.out.z rfl _ rfl rfl S.out.j ?_))
 refine C.out.mono ?_
 rintro e w1 ⟨rfl, hb1⟩
 have S1 := Lib.hid (S.out.up hb1)
 obtain ⟨⟨c0, c1, c2, c3, c4⟩, ⟨c37, c38, c39, c40, c41, c76, c77⟩, fz⟩ := S1.out.j.cells S1.out.z
 rw [show m.ph = 7 from Hp.out] at c38
 go_wp2_with (first | (refine jm_load S1.out.z rfl _ rfl rfl S1.out.j ?_) | (refine jm_store S1.out.z jmZ_z rfl _ _ rfl rfl rfl S1.out.o ?_; intro X zX qX bX nX))
 refine bodyPost_ret (dresults_cell_tmp Tryz.results21 _ _ (w.heap.size + 1) 36 _ (0, 0) _ rfl qX Tryz.underlying36 rfl (jm_info S1.out.z)) rfl ?_
 have bF := S1.out.b.trans (bX w.heap.size (by omega))
 exact ⟨m, rfl, HI.out.below bF, bF⟩
theorem refCame14_none (P : Nat → Prop) (m : Jm) (wl jl : List Jb) (well : Bool) (w : World) (hv : JIn P w m (m.of wl jl)) (hP : ∀ j, P j → j < w.heap.size) (hc : jnChk (m.of wl jl) = true) (hp : ¬ m.ph = 7) (ho : m.out = 0) :
  Calls Tryz.prog 21 #[.agg (jmV m).toArray, .bool well] w (RetJ P w (m.of wl jl) (8)) := by
 obtain ⟨V, hV⟩ : ∃ V, V = (w.alloc (.cells (jmV m).toArray 36)).alloc (.cells Tryz.zeroCells36 36) := ⟨_, rfl⟩
 have S := Lib.hid (js_new hv hV)
 have HV := Lib.hid hV
 have zV : V.heap.size = w.heap.size + 2 := by rw [hV]; simp
 have ZV := Lib.hid zV
 have C := Lib.hid (refCheck14_any P m (m.of wl jl) V (hv.below S.out.b))
 rw [hc] at C
 have Ho := Lib.hid ho
 have p7 : (m.ph == 7) = false := beq_eq_false_iff_ne.2 hp
 clear ho hp
 have HI := Lib.hid hv
 have HP := Lib.hid hP
 clear hV zV hv hP hc
 go_enter Tryz.func21, Tryz.ntmps21
 go_wp2_with (first | (rw [← HV.out]) | (refine jm_load S.out.z rfl _ rfl rfl S.out.j ?_))
 refine C.out.mono ?_
 rintro e w1 ⟨rfl, hb1⟩
 have S1 := Lib.hid (S.out.up hb1)
 obtain ⟨⟨c0, c1, c2, c3, c4⟩, ⟨c37, c38, c39, c40, c41, c76, c77⟩, fz⟩ := S1.out.j.cells S1.out.z
 rw [show m.out = 0 from Ho.out] at c40
 go_wp2_with (first | (refine jm_load S1.out.z rfl _ rfl rfl S1.out.j ?_) | (refine jm_store S1.out.z jmZ_z rfl _ _ rfl rfl rfl S1.out.o ?_; intro X zX qX bX nX))
 refine bodyPost_ret (dresults_cell_tmp Tryz.results21 _ _ (w.heap.size + 1) 36 _ (0, 0) _ rfl qX Tryz.underlying36 rfl (jm_info S1.out.z)) rfl ?_
 have bF := S1.out.b.trans (bX w.heap.size (by omega))
 exact ⟨m, rfl, HI.out.below bF, bF⟩
theorem refCame14_ill (P : Nat → Prop) (m : Jm) (wl jl : List Jb) (w : World) (hv : JIn P w m (m.of wl jl)) (hP : ∀ j, P j → j < w.heap.size) (hc : jnChk (m.of wl jl) = true) (hp : ¬ m.ph = 7) (ho : 1 ≤ m.out ∧ m.out ≤ 200) :
  Calls Tryz.prog 21 #[.agg (jmV m).toArray, .bool false] w (RetJ P w (({ m with out := m.out - 1, ph := 7, err := 90, ja := none, jn := 0, jc := 0 } : Jm).of wl []) (0)) := by
 obtain ⟨V, hV⟩ : ∃ V, V = (w.alloc (.cells (jmV m).toArray 36)).alloc (.cells Tryz.zeroCells36 36) := ⟨_, rfl⟩
 have S := Lib.hid (js_new hv hV)
 have HV := Lib.hid hV
 have zV : V.heap.size = w.heap.size + 2 := by rw [hV]; simp
 have ZV := Lib.hid zV
 have C := Lib.hid (refCheck14_any P m (m.of wl jl) V (hv.below S.out.b))
 rw [hc] at C
 have o0 : (m.out == 0) = false := beq_eq_false_iff_ne.2 (by omega)
 have p7 : (m.ph == 7) = false := beq_eq_false_iff_ne.2 hp
 have e1 : IntKind.i64.wrap (m.out - 1) = m.out - 1 := IntWalk.i64_in _ (by omega)
 have Ho := Lib.hid ho
 have Hok := Lib.hid hv.1
 clear ho
 have HI := Lib.hid hv
 have HP := Lib.hid hP
 clear hV zV hv hP hc
 go_enter Tryz.func21, Tryz.ntmps21
 go_wp2_with (first | (rw [← HV.out]) | (refine jm_load S.out.z rfl _ rfl rfl S.out.j ?_))
 refine C.out.mono ?_
 rintro e w1 ⟨rfl, hb1⟩
 have S1 := Lib.hid (S.out.up hb1)
 obtain ⟨⟨c0, c1, c2, c3, c4⟩, ⟨c37, c38, c39, c40, c41, c76, c77⟩, fz⟩ := S1.out.j.cells S1.out.z
 obtain ⟨m2, Y2, HM2, HY2, S2⟩ := ((((S1.out.s40 (m.out - 1)).s38 7).s77 90).s39 none 0 0).named
 go_wp2_with (first | (rw [← HY2.out]; refine jm_load S2.out.z rfl _ rfl rfl S2.out.j ?_) | (refine jm_store S2.out.z jmZ_z rfl _ _ rfl rfl rfl S2.out.o ?_; intro X zX qX bX nX))
 refine bodyPost_ret (dresults_cell_tmp Tryz.results21 _ _ (w.heap.size + 1) 36 _ (0, 0) _ rfl qX Tryz.underlying36 rfl (jm_info S2.out.z)) rfl ?_
 have bF := S2.out.b.trans (bX w.heap.size (by omega))
 exact ⟨m2, rfl, (by rw [← HM2.out]; exact JIn.jb (HI.out.below bF) ⟨Hok.out.g, Hok.out.slot, Hok.out.next, Hok.out.done, Hok.out.will, Hok.out.ch, (show -9223372036854775808 ≤ (7:Int) ∧ (7:Int) ≤ 9223372036854775807 by omega), (show -9223372036854775808 ≤ m.out - 1 ∧ m.out - 1 ≤ 9223372036854775807 by have := Ho.out; omega), Hok.out.sg, Hok.out.ss, Hok.out.sl, Hok.out.sD, Hok.out.room, (show -9223372036854775808 ≤ (90:Int) ∧ (90:Int) ≤ 9223372036854775807 by omega)⟩ ⟨rfl, rfl, rfl⟩ (ws_nil _ _)), bF⟩
theorem refCame14_else (P : Nat → Prop) (m : Jm) (wl jl : List Jb) (w : World) (hv : JIn P w m (m.of wl jl)) (hP : ∀ j, P j → j < w.heap.size) (hc : jnChk (m.of wl jl) = true) (hp : ¬ m.ph = 7) (ho : 1 ≤ m.out ∧ m.out ≤ 200) (h4 : ¬ m.ph = 4) (h2 : ¬ m.ph = 2) (h6 : ¬ m.ph = 6) :
  Calls Tryz.prog 21 #[.agg (jmV m).toArray, .bool true] w (RetJ P w (({ m with out := m.out - 1 } : Jm).of wl jl) (0)) := by
 obtain ⟨V, hV⟩ : ∃ V, V = (w.alloc (.cells (jmV m).toArray 36)).alloc (.cells Tryz.zeroCells36 36) := ⟨_, rfl⟩
 have S := Lib.hid (js_new hv hV)
 have HV := Lib.hid hV
 have zV : V.heap.size = w.heap.size + 2 := by rw [hV]; simp
 have ZV := Lib.hid zV
 have C := Lib.hid (refCheck14_any P m (m.of wl jl) V (hv.below S.out.b))
 rw [hc] at C
 have o0 : (m.out == 0) = false := beq_eq_false_iff_ne.2 (by omega)
 have p7 : (m.ph == 7) = false := beq_eq_false_iff_ne.2 hp
 have e1 : IntKind.i64.wrap (m.out - 1) = m.out - 1 := IntWalk.i64_in _ (by omega)
 have Ho := Lib.hid ho
 have Hok := Lib.hid hv.1
 clear ho
 have p4 : (m.ph == 4) = false := beq_eq_false_iff_ne.2 h4
 have p2 : (m.ph == 2) = false := beq_eq_false_iff_ne.2 h2
 have p6 : (m.ph == 6) = false := beq_eq_false_iff_ne.2 h6
 clear h4 h2 h6 hp
 have HI := Lib.hid hv
 have HP := Lib.hid hP
 clear hV zV hv hP hc
 go_enter Tryz.func21, Tryz.ntmps21
 go_wp2_with (first | (rw [← HV.out]) | (refine jm_load S.out.z rfl _ rfl rfl S.out.j ?_))
 refine C.out.mono ?_
 rintro e w1 ⟨rfl, hb1⟩
 have S1 := Lib.hid (S.out.up hb1)
 obtain ⟨⟨c0, c1, c2, c3, c4⟩, ⟨c37, c38, c39, c40, c41, c76, c77⟩, fz⟩ := S1.out.j.cells S1.out.z
 obtain ⟨m2, Y2, HM2, HY2, S2⟩ := (S1.out.s40 (m.out - 1)).named
 go_wp2_with (first | (rw [← HY2.out]; refine jm_load S2.out.z rfl _ rfl rfl S2.out.j ?_) | (refine jm_store S2.out.z jmZ_z rfl _ _ rfl rfl rfl S2.out.o ?_; intro X zX qX bX nX))
 refine bodyPost_ret (dresults_cell_tmp Tryz.results21 _ _ (w.heap.size + 1) 36 _ (0, 0) _ rfl qX Tryz.underlying36 rfl (jm_info S2.out.z)) rfl ?_
 have bF := S2.out.b.trans (bX w.heap.size (by omega))
 exact ⟨m2, rfl, (by rw [← HM2.out]; exact JIn.num (HI.out.below bF) ⟨Hok.out.g, Hok.out.slot, Hok.out.next, Hok.out.done, Hok.out.will, Hok.out.ch, Hok.out.ph, (show -9223372036854775808 ≤ m.out - 1 ∧ m.out - 1 ≤ 9223372036854775807 by have := Ho.out; omega), Hok.out.sg, Hok.out.ss, Hok.out.sl, Hok.out.sD, Hok.out.room, Hok.out.err⟩ ⟨rfl, rfl, rfl, rfl, rfl, rfl⟩), bF⟩
theorem refCame14_six (P : Nat → Prop) (m : Jm) (wl jl : List Jb) (w : World) (hv : JIn P w m (m.of wl jl)) (hP : ∀ j, P j → j < w.heap.size) (hc : jnChk (m.of wl jl) = true) (hp : ¬ m.ph = 7) (ho : 1 ≤ m.out ∧ m.out ≤ 200) (h6 : m.ph = 6) :
  Calls Tryz.prog 21 #[.agg (jmV m).toArray, .bool true] w (RetJ P w (({ m with out := m.out - 1, ph := 0 } : Jm).of wl jl) (0)) := by
 obtain ⟨V, hV⟩ : ∃ V, V = (w.alloc (.cells (jmV m).toArray 36)).alloc (.cells Tryz.zeroCells36 36) := ⟨_, rfl⟩
 have S := Lib.hid (js_new hv hV)
 have HV := Lib.hid hV
 have zV : V.heap.size = w.heap.size + 2 := by rw [hV]; simp
 have ZV := Lib.hid zV
 have C := Lib.hid (refCheck14_any P m (m.of wl jl) V (hv.below S.out.b))
 rw [hc] at C
 have o0 : (m.out == 0) = false := beq_eq_false_iff_ne.2 (by omega)
 have p7 : (m.ph == 7) = false := beq_eq_false_iff_ne.2 hp
 have e1 : IntKind.i64.wrap (m.out - 1) = m.out - 1 := IntWalk.i64_in _ (by omega)
 have Ho := Lib.hid ho
 have Hok := Lib.hid hv.1
 clear ho
 have H6 := Lib.hid h6
 rw [h6] at p7
 clear h6 hp p7
 have HI := Lib.hid hv
 have HP := Lib.hid hP
 clear hV zV hv hP hc
 go_enter Tryz.func21, Tryz.ntmps21
 go_wp2_with (first | (rw [← HV.out]) | (refine jm_load S.out.z rfl _ rfl rfl S.out.j ?_))
 refine C.out.mono ?_
 rintro e w1 ⟨rfl, hb1⟩
 have S1 := Lib.hid (S.out.up hb1)
 obtain ⟨⟨c0, c1, c2, c3, c4⟩, ⟨c37, c38, c39, c40, c41, c76, c77⟩, fz⟩ := S1.out.j.cells S1.out.z
 rw [show m.ph = 6 from H6.out] at c38
 obtain ⟨m2, Y2, HM2, HY2, S2⟩ := ((S1.out.s40 (m.out - 1)).s38 0).named
 go_wp2_with (first | (rw [← HY2.out]; refine jm_load S2.out.z rfl _ rfl rfl S2.out.j ?_) | (refine jm_store S2.out.z jmZ_z rfl _ _ rfl rfl rfl S2.out.o ?_; intro X zX qX bX nX))
 refine bodyPost_ret (dresults_cell_tmp Tryz.results21 _ _ (w.heap.size + 1) 36 _ (0, 0) _ rfl qX Tryz.underlying36 rfl (jm_info S2.out.z)) rfl ?_
 have bF := S2.out.b.trans (bX w.heap.size (by omega))
 exact ⟨m2, rfl, (by rw [← HM2.out]; exact JIn.num (HI.out.below bF) ⟨Hok.out.g, Hok.out.slot, Hok.out.next, Hok.out.done, Hok.out.will, Hok.out.ch, (show -9223372036854775808 ≤ (0:Int) ∧ (0:Int) ≤ 9223372036854775807 by omega), (show -9223372036854775808 ≤ m.out - 1 ∧ m.out - 1 ≤ 9223372036854775807 by have := Ho.out; omega), Hok.out.sg, Hok.out.ss, Hok.out.sl, Hok.out.sD, Hok.out.room, Hok.out.err⟩ ⟨rfl, rfl, rfl, rfl, rfl, rfl⟩), bF⟩
theorem refCame14_two (P : Nat → Prop) (m : Jm) (wl jl : List Jb) (w : World) (hv : JIn P w m (m.of wl jl)) (hP : ∀ j, P j → j < w.heap.size) (hc : jnChk (m.of wl jl) = true) (hp : ¬ m.ph = 7) (ho : 1 ≤ m.out ∧ m.out ≤ 200) (h6 : m.ph = 2) :
  Calls Tryz.prog 21 #[.agg (jmV m).toArray, .bool true] w (RetJ P w (({ m with out := m.out - 1, done := m.will, ph := 0 } : Jm).of wl jl) (0)) := by
 obtain ⟨V, hV⟩ : ∃ V, V = (w.alloc (.cells (jmV m).toArray 36)).alloc (.cells Tryz.zeroCells36 36) := ⟨_, rfl⟩
 have S := Lib.hid (js_new hv hV)
 have HV := Lib.hid hV
 have zV : V.heap.size = w.heap.size + 2 := by rw [hV]; simp
 have ZV := Lib.hid zV
 have C := Lib.hid (refCheck14_any P m (m.of wl jl) V (hv.below S.out.b))
 rw [hc] at C
 have o0 : (m.out == 0) = false := beq_eq_false_iff_ne.2 (by omega)
 have p7 : (m.ph == 7) = false := beq_eq_false_iff_ne.2 hp
 have e1 : IntKind.i64.wrap (m.out - 1) = m.out - 1 := IntWalk.i64_in _ (by omega)
 have Ho := Lib.hid ho
 have Hok := Lib.hid hv.1
 clear ho
 have H6 := Lib.hid h6
 rw [h6] at p7
 clear h6 hp p7
 have HI := Lib.hid hv
 have HP := Lib.hid hP
 clear hV zV hv hP hc
 go_enter Tryz.func21, Tryz.ntmps21
 go_wp2_with (first | (rw [← HV.out]) | (refine jm_load S.out.z rfl _ rfl rfl S.out.j ?_))
 refine C.out.mono ?_
 rintro e w1 ⟨rfl, hb1⟩
 have S1 := Lib.hid (S.out.up hb1)
 obtain ⟨⟨c0, c1, c2, c3, c4⟩, ⟨c37, c38, c39, c40, c41, c76, c77⟩, fz⟩ := S1.out.j.cells S1.out.z
 rw [show m.ph = 2 from H6.out] at c38
 obtain ⟨m2, Y2, HM2, HY2, S2⟩ := (((S1.out.s40 (m.out - 1)).s3 m.will).s38 0).named
 go_wp2_with (first | (rw [← HY2.out]; refine jm_load S2.out.z rfl _ rfl rfl S2.out.j ?_) | (refine jm_store S2.out.z jmZ_z rfl _ _ rfl rfl rfl S2.out.o ?_; intro X zX qX bX nX))
 refine bodyPost_ret (dresults_cell_tmp Tryz.results21 _ _ (w.heap.size + 1) 36 _ (0, 0) _ rfl qX Tryz.underlying36 rfl (jm_info S2.out.z)) rfl ?_
 have bF := S2.out.b.trans (bX w.heap.size (by omega))
 exact ⟨m2, rfl, (by rw [← HM2.out]; exact JIn.num (HI.out.below bF) ⟨Hok.out.g, Hok.out.slot, Hok.out.next, Hok.out.will, Hok.out.will, Hok.out.ch, (show -9223372036854775808 ≤ (0:Int) ∧ (0:Int) ≤ 9223372036854775807 by omega), (show -9223372036854775808 ≤ m.out - 1 ∧ m.out - 1 ≤ 9223372036854775807 by have := Ho.out; omega), Hok.out.sg, Hok.out.ss, Hok.out.sl, Hok.out.sD, Hok.out.room, Hok.out.err⟩ ⟨rfl, rfl, rfl, rfl, rfl, rfl⟩), bF⟩
theorem refCame14_four (P : Nat → Prop) (m : Jm) (wl jl : List Jb) (w : World) (hv : JIn P w m (m.of wl jl)) (hP : ∀ j, P j → j < w.heap.size) (hc : jnChk (m.of wl jl) = true) (hp : ¬ m.ph = 7) (ho : 1 ≤ m.out ∧ m.out ≤ 200) (h4 : m.ph = 4) (hsg : m.su.g < 4294967296) (hss : -9223372036854775808 ≤ m.su.s ∧ m.su.s ≤ 9223372036854775807) (hsD : m.su.D.length = 32) :
  Calls Tryz.prog 21 #[.agg (jmV m).toArray, .bool true] w (RetJ P w (({ m with out := m.out - 1, ph := 5 } : Jm).of wl [(((m.su.g % 2 : Nat) : Int), suPutL m.su.g m.su.s m.su.l m.su.D)]) (0)) := by
 obtain ⟨V, hV⟩ : ∃ V, V = (w.alloc (.cells (jmV m).toArray 36)).alloc (.cells Tryz.zeroCells36 36) := ⟨_, rfl⟩
 have S := Lib.hid (js_new hv hV)
 have HV := Lib.hid hV
 have zV : V.heap.size = w.heap.size + 2 := by rw [hV]; simp
 have ZV := Lib.hid zV
 have C := Lib.hid (refCheck14_any P m (m.of wl jl) V (hv.below S.out.b))
 rw [hc] at C
 have o0 : (m.out == 0) = false := beq_eq_false_iff_ne.2 (by omega)
 have p7 : (m.ph == 7) = false := beq_eq_false_iff_ne.2 hp
 have e1 : IntKind.i64.wrap (m.out - 1) = m.out - 1 := IntWalk.i64_in _ (by omega)
 have Ho := Lib.hid ho
 have Hok := Lib.hid hv.1
 clear ho
 have H4 := Lib.hid h4
 have C2 := Lib.hid (fun W => refsuPut_any m.su.g m.su.s m.su.l m.su.D W hsg hss hsD)
 have C3 := Lib.hid (fun W => refsuHome_any m.su.g W hsg)
 rw [h4] at p7
 clear h4 hp p7 hsg hss hsD
 have HI := Lib.hid hv
 have HP := Lib.hid hP
 clear hV zV hv hP hc
 go_enter Tryz.func21, Tryz.ntmps21
 go_wp2_with (first | (rw [← HV.out]) | (refine jm_load S.out.z rfl _ rfl rfl S.out.j ?_))
 refine C.out.mono ?_
 rintro e w1 ⟨rfl, hb1⟩
 have S1 := Lib.hid (S.out.up hb1)
 obtain ⟨⟨c0, c1, c2, c3, c4⟩, ⟨c37, c38, c39, c40, c41, c76, c77⟩, fz⟩ := S1.out.j.cells S1.out.z
 rw [show m.ph = 4 from H4.out] at c38
 obtain ⟨m1, Y1, HM1, HY1, S2⟩ := (S1.out.s40 (m.out - 1)).named
 have ES : Hid (m1.su = m.su) := Lib.hid (congrArg Jm.su HM1.out).symm
 go_wp2_with (rw [← HY1.out]; refine jm_sup S2.out.z rfl _ rfl rfl S2.out.j ?_)
 rw [ES.out]
 refine (C2.out Y1).mono ?_
 rintro e w3 ⟨A3, n3, d3, rfl, o3, hb3⟩
 have S3 := Lib.hid (S2.out.up hb3)
 have O3 := Lib.hid o3
 clear o3 c0 c1 c2 c3 c4 c37 c38 c39 c40 c41 c76 c77 fz
 obtain ⟨⟨c0, c1, c2, c3, c4⟩, ⟨c37, c38, c39, c40, c41, c76, c77⟩, fz⟩ := S3.out.j.cells S3.out.z
 rw [ES.out] at c41
 go_wp2_with fail
 refine (C3.out w3).mono ?_
 rintro e w4 ⟨rfl, rfl⟩
 obtain ⟨hm, hhm⟩ : ∃ q : Int, q = ((m.su.g % 2 : Nat) : Int) := ⟨_, rfl⟩
 rw [← hhm]
 obtain ⟨W5, hW5⟩ : ∃ W, W = w3.alloc (.cells #[.int .i64 hm, .slice A3 n3 d3] 60) := ⟨_, rfl⟩
 have b5 : Below w3.heap.size w3 W5 := by rw [hW5]; exact (below_self w3).alloc (Nat.le_refl _) _
 have q5 : Hid (W5.heap[w3.heap.size]? = some (.cells #[.int .i64 hm, .slice A3 n3 d3] 60 (0, 0))) := by rw [hW5]; exact Lib.hid (drw_at _ rfl)
 have HW5 := Lib.hid hW5
 have S5 := Lib.hid (S3.out.up b5)
 have HM := Lib.hid hhm
 clear hW5 hhm c0 c1 c2 c3 c4 c37 c38 c39 c40 c41 c76 c77 fz
 obtain ⟨⟨c0, c1, c2, c3, c4⟩, ⟨c37, c38, c39, c40, c41, c76, c77⟩, fz⟩ := S5.out.j.cells S5.out.z
 rw [ES.out] at c41
 obtain ⟨m2, Y2, HM2, HY2, S6⟩ := ((S5.out.s39 (some ⟨w3.heap.size, 0, none⟩) 1 1).s38 5).named
 go_wp2_with (first | (rw [← HW5.out]) | (rw [← HY2.out]; refine jm_load S6.out.z rfl _ rfl rfl S6.out.j ?_) | (refine jm_store S6.out.z jmZ_z rfl _ _ rfl rfl rfl S6.out.o ?_; intro X zX qX bX nX))
 refine bodyPost_ret (dresults_cell_tmp Tryz.results21 _ _ (w.heap.size + 1) 36 _ (0, 0) _ rfl qX Tryz.underlying36 rfl (jm_info S6.out.z)) rfl ?_
 have bF := S6.out.b.trans (bX w.heap.size (by omega))
 have sz3 : w.heap.size + 2 ≤ w3.heap.size := by have := S3.out.o.lt; omega
 have sz1 : w.heap.size + 2 ≤ Y1.heap.size := by have := S2.out.o.lt; omega
 have hQ : ∀ j, (P j ∨ j = w.heap.size ∨ j = w.heap.size + 1) → j < w.heap.size + 2 := fun j hj => by
  rcases hj with h | h | h
  ·have := HP.out j h; omega
  ·omega
  ·omega
 have hws : WsIn (fun j => P j ∨ j = w.heap.size ∨ j = w.heap.size + 1) W5 (some ⟨w3.heap.size, 0, none⟩) 1 1 [(hm, suPutL m.su.g m.su.s m.su.l m.su.D)] :=
  ws_one1 q5.out (fun j hj => by have := hQ j hj; omega) (O3.out.upB b5) (fun j hj => by have := hQ j hj; omega) (by rw [HM.out]; omega)
 have hag0 : AgrP (fun j => P j ∨ j = w.heap.size ∨ j = w.heap.size + 1) W5 Y2 := by rw [HY2.out]; exact ((AgrP.refl _ W5).set (.inr (.inl rfl)) _).set (.inr (.inl rfl)) _
 have hag : AgrP (fun j => P j ∨ j = w.heap.size ∨ j = w.heap.size + 1) W5 X := hag0.one (.inr (.inr rfl)) zX nX
 have hwx := (hws.agr hag).sub (P' := P) (fun j hj => .inl hj)
 rw [show hm = ((m.su.g % 2 : Nat) : Int) from HM.out] at hwx
 exact ⟨m2, rfl, (by rw [← HM2.out, ← HM1.out]; exact JIn.jb (m' := { m with out := m.out - 1, ja := some ⟨w3.heap.size, 0, none⟩, jn := 1, jc := 1, ph := 5 }) (HI.out.below bF) ⟨Hok.out.g, Hok.out.slot, Hok.out.next, Hok.out.done, Hok.out.will, Hok.out.ch, (show -9223372036854775808 ≤ (5:Int) ∧ (5:Int) ≤ 9223372036854775807 by omega), (show -9223372036854775808 ≤ m.out - 1 ∧ m.out - 1 ≤ 9223372036854775807 by have := Ho.out; omega), Hok.out.sg, Hok.out.ss, Hok.out.sl, Hok.out.sD, Hok.out.room, Hok.out.err⟩ ⟨rfl, rfl, rfl⟩ hwx), bF⟩
theorem refCame14_any (P : Nat → Prop) (m : Jm) (J : Jn) (well : Bool) (w : World) (hv : JIn P w m J) (hP : ∀ j, P j → j < w.heap.size) :
  Calls Tryz.prog 21 #[.agg (jmV m).toArray, .bool well] w (RetJ P w (jnCame J well) (jnCameE J)) := by
 obtain ⟨wl, jl, rfl⟩ : ∃ wl jl, J = m.of wl jl := ⟨_, _, jof hv⟩
 cases hc : jnChk (m.of wl jl) with
 | false =>
  have e : jnCameE (m.of wl jl) = 3 := by unfold jnCameE; rw [if_pos hc]
  have e2 : jnCame (m.of wl jl) well = m.of wl jl := by unfold jnCame; rw [e]; rfl
  rw [e, e2]; exact refCame14_bad P m wl jl well w hv hP hc
 | true =>
  by_cases hp : m.ph = 7
  ·have e : jnCameE (m.of wl jl) = 8 := by unfold jnCameE; rw [if_neg (by simp [hc]), if_pos (.inl hp)]
   have e2 : jnCame (m.of wl jl) well = m.of wl jl := by unfold jnCame; rw [e]; rfl
   rw [e, e2]; exact refCame14_stop P m wl jl well w hv hP hc hp
  ·by_cases ho : m.out = 0
   ·have e : jnCameE (m.of wl jl) = 8 := by unfold jnCameE; rw [if_neg (by simp [hc]), if_pos (.inr ho)]
    have e2 : jnCame (m.of wl jl) well = m.of wl jl := by unfold jnCame; rw [e]; rfl
    rw [e, e2]; exact refCame14_none P m wl jl well w hv hP hc hp ho
   ·have hor : 0 ≤ m.out ∧ m.out ≤ 200 := by
     have h := hc
     unfold jnChk at h
     simp only [Bool.and_eq_true, decide_eq_true_eq] at h
     exact h.2.2.2.1.1
    have ho1 : 1 ≤ m.out ∧ m.out ≤ 200 := by omega
    have e : jnCameE (m.of wl jl) = 0 := by unfold jnCameE; rw [if_neg (by simp [hc]), if_neg (by rintro (h | h); exact hp h; exact ho h)]
    have e2 : jnCame (m.of wl jl) well = jnCameK { m.of wl jl with out := m.out - 1 } well := by unfold jnCame; rw [if_pos e]; rfl
    rw [e, e2]
    cases well with
    | false => exact refCame14_ill P m wl jl w hv hP hc hp ho1
    | true =>
     unfold jnCameK
     rw [if_neg (by decide)]
     by_cases h4 : m.ph = 4
     ·rw [if_pos (show ({ m.of wl jl with out := m.out - 1 } : Jn).ph = 4 from h4)]; exact refCame14_four P m wl jl w hv hP hc hp ho1 h4 hv.1.sg hv.1.ss hv.1.sD
     ·rw [if_neg (show ¬ ({ m.of wl jl with out := m.out - 1 } : Jn).ph = 4 from h4)]
      by_cases h2 : m.ph = 2
      ·rw [if_pos (show ({ m.of wl jl with out := m.out - 1 } : Jn).ph = 2 from h2)]; exact refCame14_two P m wl jl w hv hP hc hp ho1 h2
      ·rw [if_neg (show ¬ ({ m.of wl jl with out := m.out - 1 } : Jn).ph = 2 from h2)]
       by_cases h6 : m.ph = 6
       ·rw [if_pos (show ({ m.of wl jl with out := m.out - 1 } : Jn).ph = 6 from h6)]; exact refCame14_six P m wl jl w hv hP hc hp ho1 h6
       ·rw [if_neg (show ¬ ({ m.of wl jl with out := m.out - 1 } : Jn).ph = 6 from h6)]; exact refCame14_else P m wl jl w hv hP hc hp ho1 h4 h2 h6
set_option maxHeartbeats 8000000
set_option maxRecDepth 100000 in
theorem refBegin14_any (P : Nat → Prop) (g : Nat) (slot room : Int) (D : List UInt8) (w : World) (hg : g < 4294967296) (hs : -9223372036854775808 ≤ slot ∧ slot ≤ 9223372036854775807) (hR : -9223372036854775808 ≤ room ∧ room ≤ 9223372036854775807) (hD : D.length = 32) :
  Calls Tryz.prog 25 #[.int .u32 (g : Int), .int .i64 slot, .agg (dgA D), .int .i64 room] w (RetJ P w (jnBegin g slot D room) (jnBeginE slot room)) := by
 have hZe : Tryz.zeroCells36 = (jmV jmZ).toArray := jmZ_zero
 obtain ⟨V, hV⟩ : ∃ V, V = (w.alloc (.cells (dgA D) 30)).alloc (.cells Tryz.zeroCells36 36) := ⟨_, rfl⟩
 have bV : Below w.heap.size w V := by rw [hV]; exact ((below_self w).alloc (Nat.le_refl _) _).alloc (by simp) _
 have qV : JmAt V (w.heap.size + 1) jmZ := by rw [hV, hZe]; exact jm_new _ (by simp)
 have dV : V.heap[w.heap.size]? = some (.cells (dgA D) 30 (0, 0)) := by rw [hV]; exact drw_old _ (drw_at _ rfl)
 obtain ⟨m1, hm1⟩ : ∃ m, m = { jmZ with g := g, slot := slot, ch := D, room := room } := ⟨_, rfl⟩
 have hz1 : m1.z := by rw [hm1]; exact ⟨hD, jmZ_z.2⟩
 have hB := jmBeginB g slot room D hD
 rw [← hm1] at hB
 obtain ⟨DV, hDV⟩ : ∃ z, z = dgA D := ⟨_, rfl⟩
 obtain ⟨MV, hMV⟩ : ∃ z, z = (jmV m1).toArray := ⟨_, rfl⟩
 obtain ⟨NV, hNV⟩ : ∃ z, z = (jmV jmZ).toArray := ⟨_, rfl⟩
 have hN := jmNoneB
 rw [← hNV] at hN
 rw [← hDV, ← hMV] at hB
 rw [← hDV] at dV hV ⊢
 have fin : ∀ (m : Jm) (J : Jn) (X : World), JmAt X (w.heap.size + 1) m → m.z → Below w.heap.size w X → JIn P X m J → ∀ er : Int, RetJ P w J er (.returned (.tuple #[.agg (jmV m).toArray, .int .i64 er])) X := fun m J X h1 h2 h3 h4 er => ⟨m, rfl, h4, h3⟩
 have hDi : (Tryz.prog.info? 30).map (·.size) = some DV.size := by rw [hDV]; exact infoD D hD
 have HDI := Lib.hid hDi
 have HV := Lib.hid hV
 have QV := Lib.hid qV
 have DVr := Lib.hid dV
 have HB := Lib.hid hB
 have HN := Lib.hid hN
 have HMV := Lib.hid hMV
 have HNV := Lib.hid hNV
 have HM1 := Lib.hid hm1
 have HZ1 := Lib.hid hz1
 clear hZe hV qV dV hB hMV hNV hm1 hz1 hDV hN hDi
 by_cases h1 : slot = 0 ∨ slot = 1
 ·have hs01 : ((slot != 0) = true ∧ (slot != 1) = false) ∨ (slot != 0) = false := by
   rcases h1 with rfl | rfl
   ·exact .inr rfl
   ·exact .inl ⟨rfl, rfl⟩
  rcases hs01 with ⟨n0, n1⟩ | n0
  all_goals
   by_cases h2 : 0 ≤ room ∧ room ≤ 158
   ·have hE : jnBeginE slot room = 0 := by unfold jnBeginE; rw [if_pos ⟨h1, h2⟩]
    have d1 : decide (room < 0) = false := decide_eq_false (by omega)
    have d2 : decide (158 < room) = false := decide_eq_false (by omega)
    have hJ : jnBegin g slot D room = { jnZ with g := g, slot := slot, ch := D, room := room } := by unfold jnBegin; rw [if_pos hE]
    rw [hE, hJ]
    have hin : ∀ W, JIn P W m1 { jnZ with g := g, slot := slot, ch := D, room := room } := fun W => by
     rw [HM1.out]
     exact ⟨⟨hg, hs, jnZ_ok.next, jnZ_ok.done, jnZ_ok.will, hD, jnZ_ok.ph, jnZ_ok.out, jnZ_ok.sg, jnZ_ok.ss, jnZ_ok.sl, jnZ_ok.sD, hR, jnZ_ok.err⟩, rfl, ws_nil W P, ws_nil W P⟩
    have HIN := Lib.hid hin
    clear hin hE hJ h1
    go_enter Tryz.func25, Tryz.ntmps25
    go_wp2_with (first
     | (rw [← HV.out])
     | (refine wpList_load_row rfl 30 _ rfl w.heap.size rfl 30 DV (0, 0) _ DVr.out Tryz.underlying30 rfl HDI.out ?_)
     | (refine wpList_of_exec rfl (rex_build rfl #[(0, .int .u32 (g : Int)), (1, .int .i64 slot), (5, .agg DV), (11, .int .i64 room)] rfl (HB.out _)) ?_)
     | (refine jm_store (m := m1) (m' := jmZ) HZ1.out jmZ_z rfl _ _ rfl rfl (congrArg Value.agg HMV.out) QV.out ?_; intro X zX qX bX nX))
    refine bodyPost_ret (dresults_cell_tmp Tryz.results25 _ _ (w.heap.size + 1) 36 _ (0, 0) _ rfl qX Tryz.underlying36 rfl (jm_info HZ1.out)) rfl ?_
    exact fin m1 _ X qX HZ1.out (bV.trans (bX w.heap.size (by omega))) (HIN.out X) 0
   ·have hE : jnBeginE slot room = 2 := by unfold jnBeginE; rw [if_neg (fun h => h2 h.2)]
    have hJ : jnBegin g slot D room = jnZ := by unfold jnBegin; rw [hE]; rfl
    rw [hE, hJ]
    clear hE hJ
    have hh : decide (room < 0) = true ∨ (decide (room < 0) = false ∧ decide (158 < room) = true) := by
     simp only [decide_eq_true_eq, decide_eq_false_iff_not]
     omega
    clear h2
    rcases hh with d1 | ⟨d1, d2⟩
    ·go_enter Tryz.func25, Tryz.ntmps25
     go_wp2_with (first
      | (rw [← HV.out])
      | (refine wpList_of_exec rfl (rex_build rfl #[] rfl (HN.out _)) ?_)
      | (refine jm_store (m := jmZ) (m' := jmZ) jmZ_z jmZ_z rfl _ _ rfl rfl (congrArg Value.agg HNV.out) QV.out ?_; intro X zX qX bX nX))
     refine bodyPost_ret (dresults_cell_tmp Tryz.results25 _ _ (w.heap.size + 1) 36 _ (0, 0) _ rfl qX Tryz.underlying36 rfl (jm_info jmZ_z)) rfl ?_
     exact fin jmZ _ X qX jmZ_z (bV.trans (bX w.heap.size (by omega))) (jin_z P X) 2
    ·go_enter Tryz.func25, Tryz.ntmps25
     go_wp2_with (first
      | (rw [← HV.out])
      | (refine wpList_of_exec rfl (rex_build rfl #[] rfl (HN.out _)) ?_)
      | (refine jm_store (m := jmZ) (m' := jmZ) jmZ_z jmZ_z rfl _ _ rfl rfl (congrArg Value.agg HNV.out) QV.out ?_; intro X zX qX bX nX))
     refine bodyPost_ret (dresults_cell_tmp Tryz.results25 _ _ (w.heap.size + 1) 36 _ (0, 0) _ rfl qX Tryz.underlying36 rfl (jm_info jmZ_z)) rfl ?_
     exact fin jmZ _ X qX jmZ_z (bV.trans (bX w.heap.size (by omega))) (jin_z P X) 2
 ·have hE : jnBeginE slot room = 2 := by unfold jnBeginE; rw [if_neg (fun h => h1 h.1)]
  have hJ : jnBegin g slot D room = jnZ := by unfold jnBegin; rw [hE]; rfl
  rw [hE, hJ]
  clear hE hJ
  have n0 : (slot != 0) = true := by simp; omega
  have n1 : (slot != 1) = true := by simp; omega
  clear h1
  go_enter Tryz.func25, Tryz.ntmps25
  go_wp2_with (first
   | (rw [← HV.out])
   | (refine wpList_of_exec rfl (rex_build rfl #[] rfl (HN.out _)) ?_)
   | (refine jm_store (m := jmZ) (m' := jmZ) jmZ_z jmZ_z rfl _ _ rfl rfl (congrArg Value.agg HNV.out) QV.out ?_; intro X zX qX bX nX))
  refine bodyPost_ret (dresults_cell_tmp Tryz.results25 _ _ (w.heap.size + 1) 36 _ (0, 0) _ rfl qX Tryz.underlying36 rfl (jm_info jmZ_z)) rfl ?_
  exact fin jmZ _ X qX jmZ_z (bV.trans (bX w.heap.size (by omega))) (jin_z P X) 2
set_option maxHeartbeats 4000000
theorem refEvents12_self (t : Nat) (k : Int) (cl : Nat) (A : Option Addr) (n c : Nat) (B : Option Addr) (m d : Nat) (xs : List UInt8) (w : World) (h1 : RdB w A n c xs) (h2 : RdB w B m d xs) :
  Calls Tryz.prog 39 #[.agg #[.int .u64 (t : Int), .int .i64 k, .int .u64 (cl : Int), .slice A n c], .agg #[.int .u64 (t : Int), .int .i64 k, .int .u64 (cl : Int), .slice B m d]] w (RetV w (.bool true)) := by
 obtain ⟨V, hV⟩ : ∃ V, V = (w.alloc (.cells #[.int .u64 (t : Int), .int .i64 k, .int .u64 (cl : Int), .slice A n c] 49)).alloc (.cells #[.int .u64 (t : Int), .int .i64 k, .int .u64 (cl : Int), .slice B m d] 49) := ⟨_, rfl⟩
 have bV : Below w.heap.size w V := by rw [hV]; exact ((below_self w).alloc (Nat.le_refl _) _).alloc (by simp) _
 have hh := bytes_any A B n c m d xs xs V (h1.below bV) (h2.below bV)
 rw [decide_eq_true rfl] at hh
 have HH := Lib.hid hh
 have HV := Lib.hid hV
 clear hh hV
 go_enter Tryz.func39, Tryz.ntmps39
 go_wp2_with fail
 rw [← HV.out]
 refine HH.out.mono ?_
 rintro e w2 ⟨rfl, rfl⟩
 go_wp2
 go_ret
 exact ⟨rfl, bV⟩
theorem refCheck12_any (t : Nat) (k : Int) (c : Nat) (A : Option Addr) (n cp : Nat) (w : World) (hn : n ≤ 9223372036854775807) :
  Calls Tryz.prog 41 #[.agg #[.int .u64 (t : Int), .int .i64 k, .int .u64 (c : Int), .slice A n cp]] w (RetV w (.bool (rcChk k c n))) := by
 have fin : Below w.heap.size w (w.alloc (.cells #[.int .u64 (t : Int), .int .i64 k, .int .u64 (c : Int), .slice A n cp] 49)) := (below_self w).alloc (Nat.le_refl _) _
 rcases rcChk_ways k c n with ⟨lo, hi, h, e⟩ | ⟨h, e⟩
 ·rw [e]
  obtain ⟨ci, hci⟩ : ∃ ci : Int, ci = (c : Int) := ⟨_, rfl⟩
  rw [← hci] at h ⊢
  rw [← hci] at fin
  clear hci e
  rcases h with ⟨rfl, h1, rfl, rfl⟩ | ⟨rfl, rfl, rfl, rfl⟩ | ⟨rfl, rfl, rfl, rfl⟩
  ·have d1 : decide (ci ≤ 1099511627776) = true := decide_eq_true h1
   by_cases h0 : n = 0
   ·subst h0
    go_enter Tryz.func41, Tryz.ntmps41
    go_wp2
    go_ret
    exact ⟨rfl, fin⟩
   ·have d2 : ((n : Int) == 0) = false := beq_eq_false_iff_ne.2 (by omega)
    have d3 : ¬ ((n : Int) = 0) := by omega
    rw [decide_eq_false (by omega)]
    go_enter Tryz.func41, Tryz.ntmps41
    go_wp2
    go_ret
    exact ⟨rfl, fin⟩
  all_goals
   by_cases h0 : (1 : Int) ≤ (n : Int)
   ·rw [show decide ((1 : Int) ≤ (n : Int) ∧ (n : Int) ≤ _) = decide ((n : Int) ≤ _) from decide_eq_decide.2 ⟨fun h => h.2, fun h => ⟨h0, h⟩⟩]
    have d2 : decide ((1 : Int) ≤ (n : Int)) = true := decide_eq_true h0
    go_enter Tryz.func41, Tryz.ntmps41
    go_wp2
    go_ret
    exact ⟨rfl, fin⟩
   ·rw [decide_eq_false (fun h => h0 h.1)]
    have d2 : decide ((1 : Int) ≤ (n : Int)) = false := decide_eq_false h0
    go_enter Tryz.func41, Tryz.ntmps41
    go_wp2
    go_ret
    exact ⟨rfl, fin⟩
 ·rw [e]
  obtain ⟨ci, hci⟩ : ∃ ci : Int, ci = (c : Int) := ⟨_, rfl⟩
  rw [← hci] at h ⊢
  rw [← hci] at fin
  clear hci e
  rcases h with ⟨rfl, h1⟩ | ⟨rfl, h1⟩ | ⟨rfl, h1⟩ | ⟨h1, h2, h3⟩
  ·have d1 : decide (ci ≤ 1099511627776) = false := decide_eq_false h1
   go_enter Tryz.func41, Tryz.ntmps41
   go_wp2
   go_ret
   exact ⟨rfl, fin⟩
  ·have d2 : (ci == 0) = false := beq_eq_false_iff_ne.2 h1
   go_enter Tryz.func41, Tryz.ntmps41
   go_wp2
   go_ret
   exact ⟨rfl, fin⟩
  ·have d2 : (ci == 0) = false := beq_eq_false_iff_ne.2 h1
   go_enter Tryz.func41, Tryz.ntmps41
   go_wp2
   go_ret
   exact ⟨rfl, fin⟩
  ·have d1 : (k == 1) = false := beq_eq_false_iff_ne.2 h1
   have d2 : (k == 2) = false := beq_eq_false_iff_ne.2 h2
   have d3 : (k == 3) = false := beq_eq_false_iff_ne.2 h3
   go_enter Tryz.func41, Tryz.ntmps41
   go_wp2
   go_ret
   exact ⟨rfl, fin⟩
set_option maxHeartbeats 8000000
theorem rc_fresh {ops : Array Oper} {rest : List Oper} {o : Oper} {a : Act} {w : World} {Q : Exit → Act → World → Prop} {h : Nat} {r : Rc} {A : Option Addr} {n c : Nat} (hgd : o.guard = none) (x z : Operand) (ho : o.op = .store 90 x z) (hx : a.eval x = .pointer (some ⟨h, 0, none⟩)) (hz : a.eval z = .agg (rcV r A n c).toArray) (w0 : World)
  (hw : w = w0.alloc (.cells zz3 90)) (hh : w0.heap.size = h) (hD : r.D.length = 32)
  (hK : ∀ X, Hid (RcAt X h r A n c) → Below w0.heap.size w0 X → wpList Tryz.prog ops Q rest (a.put o.dst undef) X) : wpList Tryz.prog ops Q (o :: rest) a w := by
 subst hw
 refine rc_store hgd x z ho hx hz (zeroAt hh) hD rcZD (hK _ (Lib.hid (zeroAt hh).setRow) ?_)
 exact below_setRow ((below_self w0).alloc (Nat.le_refl _) _) (by omega) _
end Go.Proofs.YtpahicfnhhhifaaGreat
