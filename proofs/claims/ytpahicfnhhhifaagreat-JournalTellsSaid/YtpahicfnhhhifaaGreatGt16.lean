/-
 Proved here, for the statement JournalTells:
 Layer 14: journal: Came.
 Layer 13: Choose of the package.
-/
import Derived.Test.YtpahicfnhhhifaaGreatGt15
set_option linter.unusedVariables false
set_option linter.unusedSimpArgs false
namespace Go.Proofs.YtpahicfnhhhifaaGreat
set_option maxRecDepth 20000
open Go.RowKit
set_option maxHeartbeats 8000000
theorem JS.named {w Y : World} {h r : Nat} {m : Jm} (s : JS w h r m Y) : ∃ m' Y', Hid (m = m') ∧ Hid (Y' = Y) ∧ Hid (JS w h r m' Y') := ⟨m, Y, Lib.hid rfl, Lib.hid rfl, Lib.hid s⟩
theorem WsIn.sub {P P' : Nat → Prop} {w : World} {A : Option Addr} {n c : Nat} {l : List Jb} (h : WsIn P w A n c l) (hs : ∀ j, P' j → P j) : WsIn P' w A n c l := h.more (Below.refl _ _) (fun j hj => .inl (hs j hj))
theorem AgrP.set {P : Nat → Prop} {w Y : World} (h : AgrP P w Y) {g i : Nat} (hg : P g) (v : Value) : AgrP P w (Y.setCell ⟨g, i, none⟩ v) := ⟨by simpa using h.1, fun j hj hn => (setc_rowO (by intro e; subst e; exact hn hg)).trans (h.2 j hj hn)⟩
theorem AgrP.one {P : Nat → Prop} {w Y X : World} (h : AgrP P w Y) {r : Nat} (hr : P r) (hz : X.heap.size = Y.heap.size) (hX : ∀ j, j ≠ r → X.heap[j]? = Y.heap[j]?) : AgrP P w X := ⟨by rw [hz]; exact h.1, fun j hj hn => (hX j (by intro e; subst e; exact hn hr)).trans (h.2 j hj hn)⟩
theorem OwnB.upB {w w' : World} {base : Nat} {A : Option Addr} {n c : Nat} {xs : List UInt8} (h : OwnB w base A n c xs) (hb : Below w.heap.size w w') : OwnB w' base A n c xs := by
 refine ⟨h.1, ?_⟩
 rcases h.2 with h0 | ⟨g, cap, cur, hv, hbb, hg, r⟩
 ·exact .inl h0
 ·exact .inr ⟨g, cap, cur, hv, hbb, (hb.block g (drw_lt hg)).trans hg, r⟩
theorem jrnCame_bad (P : Nat → Prop) (m : Jm) (wl jl : List Jb) (well : Bool) (w : World) (hv : JIn P w m (m.of wl jl)) (hP : ∀ j, P j → j < w.heap.size) (hc : jnChk (m.of wl jl) = false) :
  Calls Tryz.prog 20 #[.agg (jmV m).toArray, .bool well] w (RetJ P w (m.of wl jl) (3)) := by
 obtain ⟨V, hV⟩ : ∃ V, V = (w.alloc (.cells (jmV m).toArray 36)).alloc (.cells Tryz.zeroCells36 36) := ⟨_, rfl⟩
 have S := Lib.hid (js_new hv hV)
 have HV := Lib.hid hV
 have zV : V.heap.size = w.heap.size + 2 := by rw [hV]; simp
 have ZV := Lib.hid zV
 have C := Lib.hid (jrnCheck_any P m (m.of wl jl) V (hv.below S.out.b))
 rw [hc] at C
 have HI := Lib.hid hv
 have HP := Lib.hid hP
 clear hV zV hv hP hc
 go_enter Tryz.func20, Tryz.ntmps20
 go_wp2_with (first | (rw [← HV.out]) | (refine jm_load S.out.z rfl _ rfl rfl S.out.j ?_))
 refine C.out.mono ?_
 rintro e w1 ⟨rfl, hb1⟩
 have S1 := Lib.hid (S.out.up hb1)
 obtain ⟨⟨c0, c1, c2, c3, c4⟩, ⟨c37, c38, c39, c40, c41, c76, c77⟩, fz⟩ := S1.out.j.cells S1.out.z
 go_wp2_with (first | (refine jm_load S1.out.z rfl _ rfl rfl S1.out.j ?_) | (refine jm_store S1.out.z jmZ_z rfl _ _ rfl rfl rfl S1.out.o ?_; intro X zX qX bX nX))
 refine bodyPost_ret (dresults_cell_tmp Tryz.results20 _ _ (w.heap.size + 1) 36 _ (0, 0) _ rfl qX Tryz.underlying36 rfl (jm_info S1.out.z)) rfl ?_
 have bF := S1.out.b.trans (bX w.heap.size (by omega))
 exact ⟨m, rfl, HI.out.below bF, bF⟩
theorem jrnCame_stop (P : Nat → Prop) (m : Jm) (wl jl : List Jb) (well : Bool) (w : World) (hv : JIn P w m (m.of wl jl)) (hP : ∀ j, P j → j < w.heap.size) (hc : jnChk (m.of wl jl) = true) (hp : m.ph = 7) :
  Calls Tryz.prog 20 #[.agg (jmV m).toArray, .bool well] w (RetJ P w (m.of wl jl) (8)) := by
 obtain ⟨V, hV⟩ : ∃ V, V = (w.alloc (.cells (jmV m).toArray 36)).alloc (.cells Tryz.zeroCells36 36) := ⟨_, rfl⟩
 have S := Lib.hid (js_new hv hV)
 have HV := Lib.hid hV
 have zV : V.heap.size = w.heap.size + 2 := by rw [hV]; simp
 have ZV := Lib.hid zV
 have C := Lib.hid (jrnCheck_any P m (m.of wl jl) V (hv.below S.out.b))
 rw [hc] at C
 have Hp := Lib.hid hp
 clear hp
 have HI := Lib.hid hv
 have HP := Lib.hid hP
 clear hV zV hv hP hc
 go_enter Tryz.func20, Tryz.ntmps20
 go_wp2_with (first | (rw [← HV.out]) | (refine jm_load S.out.z rfl _ rfl rfl S.out.j ?_))
 refine C.out.mono ?_
 rintro e w1 ⟨rfl, hb1⟩
 have S1 := Lib.hid (S.out.up hb1)
 obtain ⟨⟨c0, c1, c2, c3, c4⟩, ⟨c37, c38, c39, c40, c41, c76, c77⟩, fz⟩ := S1.out.j.cells S1.out.z
 rw [show m.ph = 7 from Hp.out] at c38
 go_wp2_with (first | (refine jm_load S1.out.z rfl _ rfl rfl S1.out.j ?_) | (refine jm_store S1.out.z jmZ_z rfl _ _ rfl rfl rfl S1.out.o ?_; intro X zX qX bX nX))
 refine bodyPost_ret (dresults_cell_tmp Tryz.results20 _ _ (w.heap.size + 1) 36 _ (0, 0) _ rfl qX Tryz.underlying36 rfl (jm_info S1.out.z)) rfl ?_
 have bF := S1.out.b.trans (bX w.heap.size (by omega))
 exact ⟨m, rfl, HI.out.below bF, bF⟩
theorem jrnCame_none (P : Nat → Prop) (m : Jm) (wl jl : List Jb) (well : Bool) (w : World) (hv : JIn P w m (m.of wl jl)) (hP : ∀ j, P j → j < w.heap.size) (hc : jnChk (m.of wl jl) = true) (hp : ¬ m.ph = 7) (ho : m.out = 0) :
  Calls Tryz.prog 20 #[.agg (jmV m).toArray, .bool well] w (RetJ P w (m.of wl jl) (8)) := by
 obtain ⟨V, hV⟩ : ∃ V, V = (w.alloc (.cells (jmV m).toArray 36)).alloc (.cells Tryz.zeroCells36 36) := ⟨_, rfl⟩
 have S := Lib.hid (js_new hv hV)
 have HV := Lib.hid hV
 have zV : V.heap.size = w.heap.size + 2 := by rw [hV]; simp
 have ZV := Lib.hid zV
 have C := Lib.hid (jrnCheck_any P m (m.of wl jl) V (hv.below S.out.b))
 rw [hc] at C
 have Ho := Lib.hid ho
 have p7 : (m.ph == 7) = false := beq_eq_false_iff_ne.2 hp
 clear ho hp
 have HI := Lib.hid hv
 have HP := Lib.hid hP
 clear hV zV hv hP hc
 go_enter Tryz.func20, Tryz.ntmps20
 go_wp2_with (first | (rw [← HV.out]) | (refine jm_load S.out.z rfl _ rfl rfl S.out.j ?_))
 refine C.out.mono ?_
 rintro e w1 ⟨rfl, hb1⟩
 have S1 := Lib.hid (S.out.up hb1)
 obtain ⟨⟨c0, c1, c2, c3, c4⟩, ⟨c37, c38, c39, c40, c41, c76, c77⟩, fz⟩ := S1.out.j.cells S1.out.z
 rw [show m.out = 0 from Ho.out] at c40
 go_wp2_with (first | (refine jm_load S1.out.z rfl _ rfl rfl S1.out.j ?_) | (refine jm_store S1.out.z jmZ_z rfl _ _ rfl rfl rfl S1.out.o ?_; intro X zX qX bX nX))
 refine bodyPost_ret (dresults_cell_tmp Tryz.results20 _ _ (w.heap.size + 1) 36 _ (0, 0) _ rfl qX Tryz.underlying36 rfl (jm_info S1.out.z)) rfl ?_
 have bF := S1.out.b.trans (bX w.heap.size (by omega))
 exact ⟨m, rfl, HI.out.below bF, bF⟩
theorem jrnCame_ill (P : Nat → Prop) (m : Jm) (wl jl : List Jb) (w : World) (hv : JIn P w m (m.of wl jl)) (hP : ∀ j, P j → j < w.heap.size) (hc : jnChk (m.of wl jl) = true) (hp : ¬ m.ph = 7) (ho : 1 ≤ m.out ∧ m.out ≤ 200) :
  Calls Tryz.prog 20 #[.agg (jmV m).toArray, .bool false] w (RetJ P w (({ m with out := m.out - 1, ph := 7, err := 90, ja := none, jn := 0, jc := 0 } : Jm).of wl []) (0)) := by
 obtain ⟨V, hV⟩ : ∃ V, V = (w.alloc (.cells (jmV m).toArray 36)).alloc (.cells Tryz.zeroCells36 36) := ⟨_, rfl⟩
 have S := Lib.hid (js_new hv hV)
 have HV := Lib.hid hV
 have zV : V.heap.size = w.heap.size + 2 := by rw [hV]; simp
 have ZV := Lib.hid zV
 have C := Lib.hid (jrnCheck_any P m (m.of wl jl) V (hv.below S.out.b))
 rw [hc] at C
 have o0 : (m.out == 0) = false := beq_eq_false_iff_ne.2 (by omega)
 have p7 : (m.ph == 7) = false := beq_eq_false_iff_ne.2 hp
 have e1 : IntKind.i64.wrap (m.out - 1) = m.out - 1 := IntWalk.i64_in _ (by omega)
 have Ho := Lib.hid ho
 have Hok := Lib.hid hv.1
 clear ho
 have HI := Lib.hid hv
 have HP := Lib.hid hP
 clear hV zV hv hP hc
 go_enter Tryz.func20, Tryz.ntmps20
 go_wp2_with (first | (rw [← HV.out]) | (refine jm_load S.out.z rfl _ rfl rfl S.out.j ?_))
 refine C.out.mono ?_
 rintro e w1 ⟨rfl, hb1⟩
 have S1 := Lib.hid (S.out.up hb1)
 obtain ⟨⟨c0, c1, c2, c3, c4⟩, ⟨c37, c38, c39, c40, c41, c76, c77⟩, fz⟩ := S1.out.j.cells S1.out.z
 obtain ⟨m2, Y2, HM2, HY2, S2⟩ := ((((S1.out.s40 (m.out - 1)).s38 7).s77 90).s39 none 0 0).named
 go_wp2_with (first | (rw [← HY2.out]; refine jm_load S2.out.z rfl _ rfl rfl S2.out.j ?_) | (refine jm_store S2.out.z jmZ_z rfl _ _ rfl rfl rfl S2.out.o ?_; intro X zX qX bX nX))
 refine bodyPost_ret (dresults_cell_tmp Tryz.results20 _ _ (w.heap.size + 1) 36 _ (0, 0) _ rfl qX Tryz.underlying36 rfl (jm_info S2.out.z)) rfl ?_
 have bF := S2.out.b.trans (bX w.heap.size (by omega))
 exact ⟨m2, rfl, (by rw [← HM2.out]; exact JIn.jb (HI.out.below bF) ⟨Hok.out.g, Hok.out.slot, Hok.out.next, Hok.out.done, Hok.out.will, Hok.out.ch, (show -9223372036854775808 ≤ (7:Int) ∧ (7:Int) ≤ 9223372036854775807 by omega), (show -9223372036854775808 ≤ m.out - 1 ∧ m.out - 1 ≤ 9223372036854775807 by have := Ho.out; omega), Hok.out.sg, Hok.out.ss, Hok.out.sl, Hok.out.sD, Hok.out.room, (show -9223372036854775808 ≤ (90:Int) ∧ (90:Int) ≤ 9223372036854775807 by omega)⟩ ⟨rfl, rfl, rfl⟩ (ws_nil _ _)), bF⟩
theorem jrnCame_else (P : Nat → Prop) (m : Jm) (wl jl : List Jb) (w : World) (hv : JIn P w m (m.of wl jl)) (hP : ∀ j, P j → j < w.heap.size) (hc : jnChk (m.of wl jl) = true) (hp : ¬ m.ph = 7) (ho : 1 ≤ m.out ∧ m.out ≤ 200) (h4 : ¬ m.ph = 4) (h2 : ¬ m.ph = 2) (h6 : ¬ m.ph = 6) :
  Calls Tryz.prog 20 #[.agg (jmV m).toArray, .bool true] w (RetJ P w (({ m with out := m.out - 1 } : Jm).of wl jl) (0)) := by
 obtain ⟨V, hV⟩ : ∃ V, V = (w.alloc (.cells (jmV m).toArray 36)).alloc (.cells Tryz.zeroCells36 36) := ⟨_, rfl⟩
 have S := Lib.hid (js_new hv hV)
 have HV := Lib.hid hV
 have zV : V.heap.size = w.heap.size + 2 := by rw [hV]; simp
 have ZV := Lib.hid zV
 have C := Lib.hid (jrnCheck_any P m (m.of wl jl) V (hv.below S.out.b))
 rw [hc] at C
 have o0 : (m.out == 0) = false := beq_eq_false_iff_ne.2 (by omega)
 have p7 : (m.ph == 7) = false := beq_eq_false_iff_ne.2 hp
 have e1 : IntKind.i64.wrap (m.out - 1) = m.out - 1 := IntWalk.i64_in _ (by omega)
 have Ho := Lib.hid ho
 have Hok := Lib.hid hv.1
 clear ho
 have p4 : (m.ph == 4) = false := beq_eq_false_iff_ne.2 h4
 have p2 : (m.ph == 2) = false := beq_eq_false_iff_ne.2 h2
 have p6 : (m.ph == 6) = false := beq_eq_false_iff_ne.2 h6
 clear h4 h2 h6 hp
 have HI := Lib.hid hv
 have HP := Lib.hid hP
 clear hV zV hv hP hc
 go_enter Tryz.func20, Tryz.ntmps20
 go_wp2_with (first | (rw [← HV.out]) | (refine jm_load S.out.z rfl _ rfl rfl S.out.j ?_))
 refine C.out.mono ?_
 rintro e w1 ⟨rfl, hb1⟩
 have S1 := Lib.hid (S.out.up hb1)
 obtain ⟨⟨c0, c1, c2, c3, c4⟩, ⟨c37, c38, c39, c40, c41, c76, c77⟩, fz⟩ := S1.out.j.cells S1.out.z
 obtain ⟨m2, Y2, HM2, HY2, S2⟩ := (S1.out.s40 (m.out - 1)).named
 go_wp2_with (first | (rw [← HY2.out]; refine jm_load S2.out.z rfl _ rfl rfl S2.out.j ?_) | (refine jm_store S2.out.z jmZ_z rfl _ _ rfl rfl rfl S2.out.o ?_; intro X zX qX bX nX))
 refine bodyPost_ret (dresults_cell_tmp Tryz.results20 _ _ (w.heap.size + 1) 36 _ (0, 0) _ rfl qX Tryz.underlying36 rfl (jm_info S2.out.z)) rfl ?_
 have bF := S2.out.b.trans (bX w.heap.size (by omega))
 exact ⟨m2, rfl, (by rw [← HM2.out]; exact JIn.num (HI.out.below bF) ⟨Hok.out.g, Hok.out.slot, Hok.out.next, Hok.out.done, Hok.out.will, Hok.out.ch, Hok.out.ph, (show -9223372036854775808 ≤ m.out - 1 ∧ m.out - 1 ≤ 9223372036854775807 by have := Ho.out; omega), Hok.out.sg, Hok.out.ss, Hok.out.sl, Hok.out.sD, Hok.out.room, Hok.out.err⟩ ⟨rfl, rfl, rfl, rfl, rfl, rfl⟩), bF⟩
theorem jrnCame_six (P : Nat → Prop) (m : Jm) (wl jl : List Jb) (w : World) (hv : JIn P w m (m.of wl jl)) (hP : ∀ j, P j → j < w.heap.size) (hc : jnChk (m.of wl jl) = true) (hp : ¬ m.ph = 7) (ho : 1 ≤ m.out ∧ m.out ≤ 200) (h6 : m.ph = 6) :
  Calls Tryz.prog 20 #[.agg (jmV m).toArray, .bool true] w (RetJ P w (({ m with out := m.out - 1, ph := 0 } : Jm).of wl jl) (0)) := by
 obtain ⟨V, hV⟩ : ∃ V, V = (w.alloc (.cells (jmV m).toArray 36)).alloc (.cells Tryz.zeroCells36 36) := ⟨_, rfl⟩
 have S := Lib.hid (js_new hv hV)
 have HV := Lib.hid hV
 have zV : V.heap.size = w.heap.size + 2 := by rw [hV]; simp
 have ZV := Lib.hid zV
 have C := Lib.hid (jrnCheck_any P m (m.of wl jl) V (hv.below S.out.b))
 rw [hc] at C
 have o0 : (m.out == 0) = false := beq_eq_false_iff_ne.2 (by omega)
 have p7 : (m.ph == 7) = false := beq_eq_false_iff_ne.2 hp
 have e1 : IntKind.i64.wrap (m.out - 1) = m.out - 1 := IntWalk.i64_in _ (by omega)
 have Ho := Lib.hid ho
 have Hok := Lib.hid hv.1
 clear ho
 have H6 := Lib.hid h6
 rw [h6] at p7
 clear h6 hp p7
 have HI := Lib.hid hv
 have HP := Lib.hid hP
 clear hV zV hv hP hc
 go_enter Tryz.func20, Tryz.ntmps20
 go_wp2_with (first | (rw [← HV.out]) | (refine jm_load S.out.z rfl _ rfl rfl S.out.j ?_))
 refine C.out.mono ?_
 rintro e w1 ⟨rfl, hb1⟩
 have S1 := Lib.hid (S.out.up hb1)
 obtain ⟨⟨c0, c1, c2, c3, c4⟩, ⟨c37, c38, c39, c40, c41, c76, c77⟩, fz⟩ := S1.out.j.cells S1.out.z
 rw [show m.ph = 6 from H6.out] at c38
 obtain ⟨m2, Y2, HM2, HY2, S2⟩ := ((S1.out.s40 (m.out - 1)).s38 0).named
 go_wp2_with (first | (rw [← HY2.out]; refine jm_load S2.out.z rfl _ rfl rfl S2.out.j ?_) | (refine jm_store S2.out.z jmZ_z rfl _ _ rfl rfl rfl S2.out.o ?_; intro X zX qX bX nX))
 refine bodyPost_ret (dresults_cell_tmp Tryz.results20 _ _ (w.heap.size + 1) 36 _ (0, 0) _ rfl qX Tryz.underlying36 rfl (jm_info S2.out.z)) rfl ?_
 have bF := S2.out.b.trans (bX w.heap.size (by omega))
 exact ⟨m2, rfl, (by rw [← HM2.out]; exact JIn.num (HI.out.below bF) ⟨Hok.out.g, Hok.out.slot, Hok.out.next, Hok.out.done, Hok.out.will, Hok.out.ch, (show -9223372036854775808 ≤ (0:Int) ∧ (0:Int) ≤ 9223372036854775807 by omega), (show -9223372036854775808 ≤ m.out - 1 ∧ m.out - 1 ≤ 9223372036854775807 by have := Ho.out; omega), Hok.out.sg, Hok.out.ss, Hok.out.sl, Hok.out.sD, Hok.out.room, Hok.out.err⟩ ⟨rfl, rfl, rfl, rfl, rfl, rfl⟩), bF⟩
theorem jrnCame_two (P : Nat → Prop) (m : Jm) (wl jl : List Jb) (w : World) (hv : JIn P w m (m.of wl jl)) (hP : ∀ j, P j → j < w.heap.size) (hc : jnChk (m.of wl jl) = true) (hp : ¬ m.ph = 7) (ho : 1 ≤ m.out ∧ m.out ≤ 200) (h6 : m.ph = 2) :
  Calls Tryz.prog 20 #[.agg (jmV m).toArray, .bool true] w (RetJ P w (({ m with out := m.out - 1, done := m.will, ph := 0 } : Jm).of wl jl) (0)) := by
 obtain ⟨V, hV⟩ : ∃ V, V = (w.alloc (.cells (jmV m).toArray 36)).alloc (.cells Tryz.zeroCells36 36) := ⟨_, rfl⟩
 have S := Lib.hid (js_new hv hV)
 have HV := Lib.hid hV
 have zV : V.heap.size = w.heap.size + 2 := by rw [hV]; simp
 have ZV := Lib.hid zV
 have C := Lib.hid (jrnCheck_any P m (m.of wl jl) V (hv.below S.out.b))
 rw [hc] at C
 have o0 : (m.out == 0) = false := beq_eq_false_iff_ne.2 (by omega)
 have p7 : (m.ph == 7) = false := beq_eq_false_iff_ne.2 hp
 have e1 : IntKind.i64.wrap (m.out - 1) = m.out - 1 := IntWalk.i64_in _ (by omega)
 have Ho := Lib.hid ho
 have Hok := Lib.hid hv.1
 clear ho
 have H6 := Lib.hid h6
 rw [h6] at p7
 clear h6 hp p7
 have HI := Lib.hid hv
 have HP := Lib.hid hP
 clear hV zV hv hP hc
 go_enter Tryz.func20, Tryz.ntmps20
 go_wp2_with (first | (rw [← HV.out]) | (refine jm_load S.out.z rfl _ rfl rfl S.out.j ?_))
 refine C.out.mono ?_
 rintro e w1 ⟨rfl, hb1⟩
 have S1 := Lib.hid (S.out.up hb1)
 obtain ⟨⟨c0, c1, c2, c3, c4⟩, ⟨c37, c38, c39, c40, c41, c76, c77⟩, fz⟩ := S1.out.j.cells S1.out.z
 rw [show m.ph = 2 from H6.out] at c38
 obtain ⟨m2, Y2, HM2, HY2, S2⟩ := (((S1.out.s40 (m.out - 1)).s3 m.will).s38 0).named
 go_wp2_with (first | (rw [← HY2.out]; refine jm_load S2.out.z rfl _ rfl rfl S2.out.j ?_) | (refine jm_store S2.out.z jmZ_z rfl _ _ rfl rfl rfl S2.out.o ?_; intro X zX qX bX nX))
 refine bodyPost_ret (dresults_cell_tmp Tryz.results20 _ _ (w.heap.size + 1) 36 _ (0, 0) _ rfl qX Tryz.underlying36 rfl (jm_info S2.out.z)) rfl ?_
 have bF := S2.out.b.trans (bX w.heap.size (by omega))
 exact ⟨m2, rfl, (by rw [← HM2.out]; exact JIn.num (HI.out.below bF) ⟨Hok.out.g, Hok.out.slot, Hok.out.next, Hok.out.will, Hok.out.will, Hok.out.ch, (show -9223372036854775808 ≤ (0:Int) ∧ (0:Int) ≤ 9223372036854775807 by omega), (show -9223372036854775808 ≤ m.out - 1 ∧ m.out - 1 ≤ 9223372036854775807 by have := Ho.out; omega), Hok.out.sg, Hok.out.ss, Hok.out.sl, Hok.out.sD, Hok.out.room, Hok.out.err⟩ ⟨rfl, rfl, rfl, rfl, rfl, rfl⟩), bF⟩
theorem jrnCame_four (P : Nat → Prop) (m : Jm) (wl jl : List Jb) (w : World) (hv : JIn P w m (m.of wl jl)) (hP : ∀ j, P j → j < w.heap.size) (hc : jnChk (m.of wl jl) = true) (hp : ¬ m.ph = 7) (ho : 1 ≤ m.out ∧ m.out ≤ 200) (h4 : m.ph = 4) (hsg : m.su.g < 4294967296) (hss : -9223372036854775808 ≤ m.su.s ∧ m.su.s ≤ 9223372036854775807) (hsD : m.su.D.length = 32) :
  Calls Tryz.prog 20 #[.agg (jmV m).toArray, .bool true] w (RetJ P w (({ m with out := m.out - 1, ph := 5 } : Jm).of wl [(((m.su.g % 2 : Nat) : Int), suPutL m.su.g m.su.s m.su.l m.su.D)]) (0)) := by
 obtain ⟨V, hV⟩ : ∃ V, V = (w.alloc (.cells (jmV m).toArray 36)).alloc (.cells Tryz.zeroCells36 36) := ⟨_, rfl⟩
 have S := Lib.hid (js_new hv hV)
 have HV := Lib.hid hV
 have zV : V.heap.size = w.heap.size + 2 := by rw [hV]; simp
 have ZV := Lib.hid zV
 have C := Lib.hid (jrnCheck_any P m (m.of wl jl) V (hv.below S.out.b))
 rw [hc] at C
 have o0 : (m.out == 0) = false := beq_eq_false_iff_ne.2 (by omega)
 have p7 : (m.ph == 7) = false := beq_eq_false_iff_ne.2 hp
 have e1 : IntKind.i64.wrap (m.out - 1) = m.out - 1 := IntWalk.i64_in _ (by omega)
 have Ho := Lib.hid ho
 have Hok := Lib.hid hv.1
 clear ho
 have H4 := Lib.hid h4
 have C2 := Lib.hid (fun W => suPut_any m.su.g m.su.s m.su.l m.su.D W hsg hss hsD)
 have C3 := Lib.hid (fun W => suHome_any m.su.g W hsg)
 rw [h4] at p7
 clear h4 hp p7 hsg hss hsD
 have HI := Lib.hid hv
 have HP := Lib.hid hP
 clear hV zV hv hP hc
 go_enter Tryz.func20, Tryz.ntmps20
 go_wp2_with (first | (rw [← HV.out]) | (refine jm_load S.out.z rfl _ rfl rfl S.out.j ?_))
 refine C.out.mono ?_
 rintro e w1 ⟨rfl, hb1⟩
 have S1 := Lib.hid (S.out.up hb1)
 obtain ⟨⟨c0, c1, c2, c3, c4⟩, ⟨c37, c38, c39, c40, c41, c76, c77⟩, fz⟩ := S1.out.j.cells S1.out.z
 rw [show m.ph = 4 from H4.out] at c38
 obtain ⟨m1, Y1, HM1, HY1, S2⟩ := (S1.out.s40 (m.out - 1)).named
 have ES : Hid (m1.su = m.su) := Lib.hid (congrArg Jm.su HM1.out).symm
 go_wp2_with (rw [← HY1.out]; refine jm_sup S2.out.z rfl _ rfl rfl S2.out.j ?_)
 rw [ES.out]
 refine (C2.out Y1).mono ?_
 rintro e w3 ⟨A3, n3, d3, rfl, o3, hb3⟩
 have S3 := Lib.hid (S2.out.up hb3)
 have O3 := Lib.hid o3
 clear o3 c0 c1 c2 c3 c4 c37 c38 c39 c40 c41 c76 c77 fz
 obtain ⟨⟨c0, c1, c2, c3, c4⟩, ⟨c37, c38, c39, c40, c41, c76, c77⟩, fz⟩ := S3.out.j.cells S3.out.z
 rw [ES.out] at c41
 go_wp2_with fail
 refine (C3.out w3).mono ?_
 rintro e w4 ⟨rfl, rfl⟩
 obtain ⟨hm, hhm⟩ : ∃ q : Int, q = ((m.su.g % 2 : Nat) : Int) := ⟨_, rfl⟩
 rw [← hhm]
 obtain ⟨W5, hW5⟩ : ∃ W, W = w3.alloc (.cells #[.int .i64 hm, .slice A3 n3 d3] 60) := ⟨_, rfl⟩
 have b5 : Below w3.heap.size w3 W5 := by rw [hW5]; exact (below_self w3).alloc (Nat.le_refl _) _
 have q5 : Hid (W5.heap[w3.heap.size]? = some (.cells #[.int .i64 hm, .slice A3 n3 d3] 60 (0, 0))) := by rw [hW5]; exact Lib.hid (drw_at _ rfl)
 have HW5 := Lib.hid hW5
 have S5 := Lib.hid (S3.out.up b5)
 have HM := Lib.hid hhm
 clear hW5 hhm c0 c1 c2 c3 c4 c37 c38 c39 c40 c41 c76 c77 fz
 obtain ⟨⟨c0, c1, c2, c3, c4⟩, ⟨c37, c38, c39, c40, c41, c76, c77⟩, fz⟩ := S5.out.j.cells S5.out.z
 rw [ES.out] at c41
 obtain ⟨m2, Y2, HM2, HY2, S6⟩ := ((S5.out.s39 (some ⟨w3.heap.size, 0, none⟩) 1 1).s38 5).named
 go_wp2_with (first | (rw [← HW5.out]) | (rw [← HY2.out]; refine jm_load S6.out.z rfl _ rfl rfl S6.out.j ?_) | (refine jm_store S6.out.z jmZ_z rfl _ _ rfl rfl rfl S6.out.o ?_; intro X zX qX bX nX))
 refine bodyPost_ret (dresults_cell_tmp Tryz.results20 _ _ (w.heap.size + 1) 36 _ (0, 0) _ rfl qX Tryz.underlying36 rfl (jm_info S6.out.z)) rfl ?_
 have bF := S6.out.b.trans (bX w.heap.size (by omega))
 have sz3 : w.heap.size + 2 ≤ w3.heap.size := by have := S3.out.o.lt; omega
 have sz1 : w.heap.size + 2 ≤ Y1.heap.size := by have := S2.out.o.lt; omega
 have hQ : ∀ j, (P j ∨ j = w.heap.size ∨ j = w.heap.size + 1) → j < w.heap.size + 2 := fun j hj => by
  rcases hj with h | h | h
  ·have := HP.out j h; omega
  ·omega
  ·omega
 have hws : WsIn (fun j => P j ∨ j = w.heap.size ∨ j = w.heap.size + 1) W5 (some ⟨w3.heap.size, 0, none⟩) 1 1 [(hm, suPutL m.su.g m.su.s m.su.l m.su.D)] :=
  ws_one1 q5.out (fun j hj => by have := hQ j hj; omega) (O3.out.upB b5) (fun j hj => by have := hQ j hj; omega) (by rw [HM.out]; omega)
 have hag0 : AgrP (fun j => P j ∨ j = w.heap.size ∨ j = w.heap.size + 1) W5 Y2 := by rw [HY2.out]; exact ((AgrP.refl _ W5).set (.inr (.inl rfl)) _).set (.inr (.inl rfl)) _
 have hag : AgrP (fun j => P j ∨ j = w.heap.size ∨ j = w.heap.size + 1) W5 X := hag0.one (.inr (.inr rfl)) zX nX
 have hwx := (hws.agr hag).sub (P' := P) (fun j hj => .inl hj)
 rw [show hm = ((m.su.g % 2 : Nat) : Int) from HM.out] at hwx
 exact ⟨m2, rfl, (by rw [← HM2.out, ← HM1.out]; exact JIn.jb (m' := { m with out := m.out - 1, ja := some ⟨w3.heap.size, 0, none⟩, jn := 1, jc := 1, ph := 5 }) (HI.out.below bF) ⟨Hok.out.g, Hok.out.slot, Hok.out.next, Hok.out.done, Hok.out.will, Hok.out.ch, (show -9223372036854775808 ≤ (5:Int) ∧ (5:Int) ≤ 9223372036854775807 by omega), (show -9223372036854775808 ≤ m.out - 1 ∧ m.out - 1 ≤ 9223372036854775807 by have := Ho.out; omega), Hok.out.sg, Hok.out.ss, Hok.out.sl, Hok.out.sD, Hok.out.room, Hok.out.err⟩ ⟨rfl, rfl, rfl⟩ hwx), bF⟩
theorem jrnCame_any (P : Nat → Prop) (m : Jm) (J : Jn) (well : Bool) (w : World) (hv : JIn P w m J) (hP : ∀ j, P j → j < w.heap.size) :
  Calls Tryz.prog 20 #[.agg (jmV m).toArray, .bool well] w (RetJ P w (jnCame J well) (jnCameE J)) := by
 obtain ⟨wl, jl, rfl⟩ : ∃ wl jl, J = m.of wl jl := ⟨_, _, jof hv⟩
 cases hc : jnChk (m.of wl jl) with
 | false =>
  have e : jnCameE (m.of wl jl) = 3 := by unfold jnCameE; rw [if_pos hc]
  have e2 : jnCame (m.of wl jl) well = m.of wl jl := by unfold jnCame; rw [e]; rfl
  rw [e, e2]; exact jrnCame_bad P m wl jl well w hv hP hc
 | true =>
  by_cases hp : m.ph = 7
  ·have e : jnCameE (m.of wl jl) = 8 := by unfold jnCameE; rw [if_neg (by simp [hc]), if_pos (.inl hp)]
   have e2 : jnCame (m.of wl jl) well = m.of wl jl := by unfold jnCame; rw [e]; rfl
   rw [e, e2]; exact jrnCame_stop P m wl jl well w hv hP hc hp
  ·by_cases ho : m.out = 0
   ·have e : jnCameE (m.of wl jl) = 8 := by unfold jnCameE; rw [if_neg (by simp [hc]), if_pos (.inr ho)]
    have e2 : jnCame (m.of wl jl) well = m.of wl jl := by unfold jnCame; rw [e]; rfl
    rw [e, e2]; exact jrnCame_none P m wl jl well w hv hP hc hp ho
   ·have hor : 0 ≤ m.out ∧ m.out ≤ 200 := by
     have h := hc
     unfold jnChk at h
     simp only [Bool.and_eq_true, decide_eq_true_eq] at h
     exact h.2.2.2.1.1
    have ho1 : 1 ≤ m.out ∧ m.out ≤ 200 := by omega
    have e : jnCameE (m.of wl jl) = 0 := by unfold jnCameE; rw [if_neg (by simp [hc]), if_neg (by rintro (h | h); exact hp h; exact ho h)]
    have e2 : jnCame (m.of wl jl) well = jnCameK { m.of wl jl with out := m.out - 1 } well := by unfold jnCame; rw [if_pos e]; rfl
    rw [e, e2]
    cases well with
    | false => exact jrnCame_ill P m wl jl w hv hP hc hp ho1
    | true =>
     unfold jnCameK
     rw [if_neg (by decide)]
     by_cases h4 : m.ph = 4
     ·rw [if_pos (show ({ m.of wl jl with out := m.out - 1 } : Jn).ph = 4 from h4)]; exact jrnCame_four P m wl jl w hv hP hc hp ho1 h4 hv.1.sg hv.1.ss hv.1.sD
     ·rw [if_neg (show ¬ ({ m.of wl jl with out := m.out - 1 } : Jn).ph = 4 from h4)]
      by_cases h2 : m.ph = 2
      ·rw [if_pos (show ({ m.of wl jl with out := m.out - 1 } : Jn).ph = 2 from h2)]; exact jrnCame_two P m wl jl w hv hP hc hp ho1 h2
      ·rw [if_neg (show ¬ ({ m.of wl jl with out := m.out - 1 } : Jn).ph = 2 from h2)]
       by_cases h6 : m.ph = 6
       ·rw [if_pos (show ({ m.of wl jl with out := m.out - 1 } : Jn).ph = 6 from h6)]; exact jrnCame_six P m wl jl w hv hP hc hp ho1 h6
       ·rw [if_neg (show ¬ ({ m.of wl jl with out := m.out - 1 } : Jn).ph = 6 from h6)]; exact jrnCame_else P m wl jl w hv hP hc hp ho1 h4 h2 h6
set_option maxHeartbeats 8000000
def chStep (X : List UInt8) (h : Nat) (q : Bool × Su) : Bool × Su := if suGood X h = true ∧ (q.1 = false ∨ q.2.g < (suGet X).g) then (true, suGet X) else q
def chAt (a b : List UInt8) : Nat → Bool × Su
 | 0 => (false, suZ)
 | k + 1 => chStep (if k = 0 then a else b) k (chAt a b k)
theorem chAt_two (a b : List UInt8) : suChE a b = (if (chAt a b 2).1 = true then 0 else 7) ∧ suCh a b = (if (chAt a b 2).1 = true then (chAt a b 2).2 else suZ) := by
 have e : chAt a b 2 = chStep b 1 (chStep a 0 (false, suZ)) := rfl
 rw [e]
 unfold suChE suCh chStep
 cases ha : suGood a 0 <;> cases hb : suGood b 1
 ·simp
 ·simp
 ·simp
 ·have h1 := of_decide_eq_true ha
  have h2 := of_decide_eq_true hb
  by_cases hlt : (suGet a).g < (suGet b).g
  ·have : ¬ (suGet b).g < (suGet a).g := by omega
   simp [hlt, this]
  ·have : (suGet b).g < (suGet a).g := by omega
   simp [hlt, this]
theorem chStep_len (X : List UInt8) (h : Nat) (q : Bool × Su) (hq : q.2.D.length = 32) : (chStep X h q).2.D.length = 32 := by
 unfold chStep; split
 ·exact suGet_len _
 ·exact hq
theorem chStep_g (X : List UInt8) (h : Nat) (q : Bool × Su) (hq : q.2.g < 4294967296) : (chStep X h q).2.g < 4294967296 := by
 unfold chStep; split
 ·exact (suGet_bounds _).1
 ·exact hq
theorem chAt_len (a b : List UInt8) : ∀ k, (chAt a b k).2.D.length = 32
 | 0 => rfl
 | k + 1 => chStep_len _ _ _ (chAt_len a b k)
theorem chAt_g (a b : List UInt8) : ∀ k, (chAt a b k).2.g < 4294967296
 | 0 => by simp [chAt, suZ]
 | k + 1 => chStep_g _ _ _ (chAt_g a b k)
theorem allocZ (w : World) : (w.alloc (.cells zz1 33)).heap[w.heap.size]? = some (.cells suZ.v 33 (0, 0)) := by rw [suZ_v]; exact row1 ..
theorem Su.size (x y : Su) (h : x.D.length = 32) (k : y.D.length = 32) : x.v.size = y.v.size := by unfold Su.v; rw [suVn, suVn, h, k]
theorem Su.cell0 {w : World} {g : Nat} {x : Su} {T : TypeId} {m : Nat × Nat} (h : w.heap[g]? = some (.cells x.v T m)) : w.cell? ⟨g, 0, none⟩ = some (.int .u32 x.g) := (cell_of_row w _ 0 _ _ _ h).trans (suV0 ..)
theorem storedZ {w V : World} (cs : Array Value) (h : V = (w.alloc (.cells zz1 33)).setRow w.heap.size cs) :
  V.heap[w.heap.size]? = some (.cells cs 33 (0, 0)) ∧ Below w.heap.size w V ∧ V.heap.size = w.heap.size + 1 := by
 subst h
 exact ⟨setRow_heap _ _ _ cs _ _ (allocZ w), below_setRow ((below_self w).alloc (Nat.le_refl _) _) (Nat.le_refl _) _, by simp⟩
def ChI (w : World) (g6 : Nat) (a b : List UInt8) (v7 v15 : Value) (wr : World) : Prop :=
 ∃ k : Nat, k ≤ 2 ∧ v15 = .int .i64 k ∧ v7 = .bool (chAt a b k).1 ∧ wr.heap[g6]? = some (.cells (chAt a b k).2.v 33 (0, 0)) ∧ wr.heap[w.heap.size]? = some (.cells suZ.v 33 (0, 0)) ∧ Below w.heap.size w wr ∧ g6 < wr.heap.size
theorem suChoose_any (A : Option Addr) (n c : Nat) (xs : List UInt8) (B : Option Addr) (m d : Nat) (ys : List UInt8) (w : World) (ha : RdB w A n c xs) (hb : RdB w B m d ys) :
  Calls Tryz.prog 70 #[.slice A n c, .slice B m d] w (RetSu w (suCh xs ys) (suChE xs ys)) := by
 have i0 : ∀ W : World, (Instr.index 158 (.agg #[.slice A n c, .slice B m d]) (.int .i64 ((0 : Nat) : Int))).run Tryz.prog W = .ok (.slice A n c) W := fun _ => by kernel_rfl
 have i1 : ∀ W : World, (Instr.index 158 (.agg #[.slice A n c, .slice B m d]) (.int .i64 ((1 : Nat) : Int))).run Tryz.prog W = .ok (.slice B m d) W := fun _ => by kernel_rfl
 have I0 := Lib.hid i0
 have I1 := Lib.hid i1
 clear i0 i1
 go_enter Tryz.func70, Tryz.ntmps70
 go_wp2_with fail
 obtain ⟨W, hW⟩ : ∃ W, W = (w.alloc (.cells zz1 33)).alloc (.cells zz1 33) := ⟨_, rfl⟩
 have bW : Below w.heap.size w W := by rw [hW]; exact ((below_self w).alloc (Nat.le_refl _) _).alloc (by simp) _
 have h4 : W.heap[w.heap.size]? = some (.cells suZ.v 33 (0, 0)) := by rw [hW, suZ_v]; exact row2a ..
 have h6 : W.heap[w.heap.size + 1]? = some (.cells suZ.v 33 (0, 0)) := by rw [hW, suZ_v]; exact row2b ..
 have hz : w.heap.size + 1 < W.heap.size := by rw [hW]; simp
 rw [← hW]
 clear hW
 go_loopw [7, 15] (ChI w (w.heap.size + 1) xs ys) (fun _ i _ => 2 - (intOf i).toNat)
 case atStart => exact ⟨0, by omega, rfl, rfl, h6, h4, bW, hz⟩
 case round =>
  obtain ⟨k, hk, rfl, rfl, hrow6, hrow4, hbr, hzr⟩ := hrel
  have hln := chAt_len xs ys k
  have hg9 := chAt_g xs ys k
  by_cases hlt : k < 2
  ·obtain ⟨X, hX⟩ : ∃ X, (if k = 0 then xs else ys) = X := ⟨_, rfl⟩
   have hx : ∃ AX nX cX, RdB wr AX nX cX X ∧ ∀ W : World, (Instr.index 158 (.agg #[.slice A n c, .slice B m d]) (.int .i64 (k : Int))).run Tryz.prog W = .ok (.slice AX nX cX) W := by
    rcases (by omega : k = 0 ∨ k = 1) with rfl | rfl
    ·exact ⟨A, n, c, hX ▸ ha.below hbr, I0.out⟩
    ·exact ⟨B, m, d, hX ▸ hb.below hbr, I1.out⟩
   obtain ⟨AX, nX, cX, hrX, iX⟩ := hx
   have hnext : chAt xs ys (k + 1) = chStep X k (chAt xs ys k) := by rw [chAt, hX]
   generalize chAt xs ys k = q at *
   obtain ⟨F, Bq⟩ := q
   simp only at hln hg9 hrow6 ⊢
   have HN := Lib.hid hnext
   have HL := Lib.hid hln
   have H6 := Lib.hid hrow6
   have H4 := Lib.hid hrow4
   clear hX hnext hln hrow6 hrow4 h4 h6 hz
   obtain ⟨x, hxx⟩ : ∃ x, suGet X = x := ⟨_, rfl⟩
   obtain ⟨E, hE⟩ : ∃ E, suGetE X = E := ⟨_, rfl⟩
   have hxl := suGet_len X
   have hxg := (suGet_bounds X).1
   rw [hxx] at hxl hxg
   have hgood : suGood X k = decide (E = 0 ∧ x.g % 2 = k) := by unfold suGood; rw [hxx, hE]
   have hh := suGet_any AX nX cX X wr hrX
   rw [hxx, hE] at hh
   have HH := Lib.hid hh
   have HG := Lib.hid hgood
   have HX := Lib.hid hxx
   have HXL := Lib.hid hxl
   clear hh hgood hxx hE hxl
   go_wp2_with fail
   refine HH.out.mono ?_
   rintro e w1 ⟨rfl, hb1⟩
   have z1 := hb1.size
   have r6 := (hb1.block _ hzr).trans H6.out
   have r4 := (hb1.block _ (by omega)).trans H4.out
   have R6 := Lib.hid r6
   have R4 := Lib.hid r4
   have HAZ := Lib.hid (allocZ w1)
   clear r6 r4
   by_cases he : E = 0
   ·subst he
    by_cases hp : x.g % 2 = k
    ·have hgd : suGood X k = true := by rw [HG.out]; exact decide_eq_true ⟨rfl, hp⟩
     have hq : (((x.g % 2 : Nat) : Int) != (k : Int)) = false := by rw [hp]; simp
     have HGD := Lib.hid hgd
     clear hgd hp
     go_wp2_with (refine wpList_store_row rfl 33 _ _ rfl w1.heap.size x.v rfl rfl 33 suZ.v HAZ.out (x.info HXL.out) (Su.size _ _ suZ_len HXL.out) (suV_one ..) ?_; obtain ⟨V, hV⟩ : ∃ V, V = (w1.alloc (.cells zz1 33)).setRow w1.heap.size x.v := ⟨_, rfl⟩; rw [← hV]; obtain ⟨hVr, hVb, hVz⟩ := storedZ _ hV; have cV := Su.cell0 hVr; have HVR := Lib.hid hVr; clear hV hVr)
     refine (suHome_any x.g V hxg).mono ?_
     rintro e w2 ⟨rfl, rfl⟩
     have r6V := (hVb.block _ (by omega)).trans R6.out
     have r4V := (hVb.block _ (by omega)).trans R4.out
     have R6V := Lib.hid r6V
     have R4V := Lib.hid r4V
     have c6V := Su.cell0 r6V
     have BV := below_then hbr (below_then hb1 hVb)
     have hzV : w.heap.size + 1 < V.heap.size := by omega
     clear r6V r4V
     cases F with
     | false =>
      have hst : chStep X k (false, Bq) = (true, x) := by unfold chStep; rw [if_pos ⟨HGD.out, .inl rfl⟩, HX.out]
      have HST := Lib.hid hst
      clear hst
      go_wp2_with (first
       | (refine wpList_load_row rfl 33 _ rfl w1.heap.size rfl 33 x.v (0, 0) _ HVR.out Tryz.underlying33 rfl (x.info HXL.out) ?_)
       | (refine wpList_store_row rfl 33 _ _ rfl (w.heap.size + 1) x.v rfl rfl 33 Bq.v R6V.out (x.info HXL.out) (Su.size _ _ HL.out HXL.out) (suV_one ..) ?_))
      go_roundw
      case rel => exact ⟨k + 1, by omega, by go_num, by rw [HN.out, HST.out], by rw [HN.out, HST.out]; exact setRow_heap _ _ _ x.v _ _ R6V.out, (setRow_other _ _ _ _ (by omega)).trans R4V.out, below_setRow BV (by omega) _, by simp; omega⟩
      case measure => simp [intOf]; omega
     | true =>
      by_cases hgt : Bq.g < x.g
      ·have hst : chStep X k (true, Bq) = (true, x) := by unfold chStep; rw [if_pos ⟨HGD.out, .inr (by rw [HX.out]; exact hgt)⟩, HX.out]
       have HST := Lib.hid hst
       have dg : decide ((Bq.g : Int) < (x.g : Int)) = true := decide_eq_true (by omega)
       have dgn : decide (Bq.g < x.g) = true := decide_eq_true hgt
       clear hst hgt
       go_wp2_with (first
        | (refine wpList_load_row rfl 33 _ rfl w1.heap.size rfl 33 x.v (0, 0) _ HVR.out Tryz.underlying33 rfl (x.info HXL.out) ?_)
        | (refine wpList_store_row rfl 33 _ _ rfl (w.heap.size + 1) x.v rfl rfl 33 Bq.v R6V.out (x.info HXL.out) (Su.size _ _ HL.out HXL.out) (suV_one ..) ?_))
       go_roundw
       case rel => exact ⟨k + 1, by omega, by go_num, by rw [HN.out, HST.out], by rw [HN.out, HST.out]; exact setRow_heap _ _ _ x.v _ _ R6V.out, (setRow_other _ _ _ _ (by omega)).trans R4V.out, below_setRow BV (by omega) _, by simp; omega⟩
       case measure => simp [intOf]; omega
      ·have hst : chStep X k (true, Bq) = (true, Bq) := by unfold chStep; rw [if_neg (fun h => h.2.elim (fun h => by cases h) (fun h => hgt (by rw [HX.out] at h; exact h)))]
       have HST := Lib.hid hst
       have dg : decide ((Bq.g : Int) < (x.g : Int)) = false := decide_eq_false (by omega)
       have dgn : decide (Bq.g < x.g) = false := decide_eq_false hgt
       clear hst hgt
       go_wp2
       go_roundw
       case rel => exact ⟨k + 1, by omega, by go_num, by rw [HN.out, HST.out], by rw [HN.out, HST.out]; exact R6V.out, R4V.out, BV, hzV⟩
       case measure => simp [intOf]; omega
    ·have hgd : suGood X k = false := by rw [HG.out]; exact decide_eq_false (fun h => hp h.2)
     have hq : (((x.g % 2 : Nat) : Int) != (k : Int)) = true := by rw [bne_iff_ne]; omega
     have hst : chStep X k (F, Bq) = (F, Bq) := by unfold chStep; rw [if_neg (fun h => by rw [hgd] at h; cases h.1)]
     have HST := Lib.hid hst
     clear hgd hp hst
     go_wp2_with (refine wpList_store_row rfl 33 _ _ rfl w1.heap.size x.v rfl rfl 33 suZ.v HAZ.out (x.info HXL.out) (Su.size _ _ suZ_len HXL.out) (suV_one ..) ?_; obtain ⟨V, hV⟩ : ∃ V, V = (w1.alloc (.cells zz1 33)).setRow w1.heap.size x.v := ⟨_, rfl⟩; rw [← hV]; obtain ⟨hVr, hVb, hVz⟩ := storedZ _ hV; have cV := Su.cell0 hVr; have HVR := Lib.hid hVr; clear hV hVr)
     refine (suHome_any x.g V hxg).mono ?_
     rintro e w2 ⟨rfl, rfl⟩
     have r6V := (hVb.block _ (by omega)).trans R6.out
     have r4V := (hVb.block _ (by omega)).trans R4.out
     have R6V := Lib.hid r6V
     have R4V := Lib.hid r4V
     have BV := below_then hbr (below_then hb1 hVb)
     have hzV : w.heap.size + 1 < V.heap.size := by omega
     clear r6V r4V
     go_wp2
     go_roundw
     case rel => exact ⟨k + 1, by omega, by go_num, by rw [HN.out, HST.out], by rw [HN.out, HST.out]; exact R6V.out, R4V.out, BV, hzV⟩
     case measure => simp [intOf]; omega
   ·have hgd : suGood X k = false := by rw [HG.out]; exact decide_eq_false (fun h => he h.1)
    have hq : (E != 0) = true := by rw [bne_iff_ne]; exact he
    have hst : chStep X k (F, Bq) = (F, Bq) := by unfold chStep; rw [if_neg (fun h => by rw [hgd] at h; cases h.1)]
    have HST := Lib.hid hst
    clear hgd he hst
    go_wp2_with (refine wpList_store_row rfl 33 _ _ rfl w1.heap.size x.v rfl rfl 33 suZ.v HAZ.out (x.info HXL.out) (Su.size _ _ suZ_len HXL.out) (suV_one ..) ?_; obtain ⟨V, hV⟩ : ∃ V, V = (w1.alloc (.cells zz1 33)).setRow w1.heap.size x.v := ⟨_, rfl⟩; rw [← hV]; obtain ⟨hVr, hVb, hVz⟩ := storedZ _ hV; have cV := Su.cell0 hVr; have HVR := Lib.hid hVr; clear hV hVr)
    go_roundw
    have r6V := (hVb.block _ (by omega)).trans R6.out
    have r4V := (hVb.block _ (by omega)).trans R4.out
    have BV := below_then hbr (below_then hb1 hVb)
    case rel => exact ⟨k + 1, by omega, by go_num, by rw [HN.out, HST.out], by rw [HN.out, HST.out]; exact r6V, r4V, BV, by omega⟩
    case measure => simp [intOf]; omega
  ·obtain rfl : k = 2 := by omega
   obtain ⟨e1, e2⟩ := chAt_two xs ys
   generalize chAt xs ys 2 = q at *
   obtain ⟨F, Bq⟩ := q
   simp only at hln hg9 hrow6 e1 e2 ⊢
   have H6 := Lib.hid hrow6
   have H4 := Lib.hid hrow4
   have HL := Lib.hid hln
   cases F with
   | true =>
    have E1 := Lib.hid (e1.trans (if_pos rfl))
    have E2 := Lib.hid (e2.trans (if_pos rfl))
    clear hln hrow6 hrow4 h4 h6 hz e1 e2
    go_wp2_with (first
     | (refine wpList_load_row rfl 33 _ rfl (w.heap.size + 1) rfl 33 Bq.v (0, 0) _ H6.out Tryz.underlying33 rfl (Bq.info HL.out) ?_)
     | (refine wpList_store_row rfl 33 _ _ rfl w.heap.size Bq.v rfl rfl 33 suZ.v H4.out (Bq.info HL.out) (Su.size _ _ suZ_len HL.out) (suV_one ..) ?_))
    refine bodyPost_ret (results_row_tmp Tryz.results70 _ _ w.heap.size 33 Bq.v (0, 0) _ rfl (setRow_heap _ _ _ Bq.v _ _ H4.out) Tryz.underlying33 rfl (Bq.info HL.out)) rfl ?_
    exact ⟨by rw [E1.out, E2.out]; rfl, below_setRow hbr (Nat.le_refl _) _⟩
   | false =>
    have E1 := Lib.hid (e1.trans (if_neg (by decide)))
    have E2 := Lib.hid (e2.trans (if_neg (by decide)))
    clear hln hrow6 hrow4 h4 h6 hz e1 e2
    go_wp2_with (refine wpList_store_row rfl 33 _ _ rfl w.heap.size suZ.v rfl rfl 33 suZ.v H4.out (suZ.info suZ_len) rfl (suV_one ..) ?_)
    refine bodyPost_ret (results_row_tmp Tryz.results70 _ _ w.heap.size 33 suZ.v (0, 0) _ rfl (setRow_heap _ _ _ suZ.v _ _ H4.out) Tryz.underlying33 rfl (suZ.info suZ_len)) rfl ?_
    exact ⟨by rw [E1.out, E2.out]; rfl, below_setRow hbr (Nat.le_refl _) _⟩
set_option maxHeartbeats 8000000
theorem refsuPut_no (g : Nat) (s l : Int) (D : List UInt8) (w : World) (hs : -9223372036854775808 ≤ s ∧ s ≤ 9223372036854775807) (hD : D.length = 32) (hc : suCheck s l = false) :
  Calls Tryz.prog 57 #[.agg (suV g s l D)] w (RetBE w [] 2) := by
 obtain ⟨W, hW⟩ : ∃ W, W = w.alloc (.cells (suV g s l D) 33) := ⟨_, rfl⟩
 have bW : Below w.heap.size w W := by rw [hW]; exact (below_self w).alloc (Nat.le_refl _) _
 have HW := Lib.hid hW
 clear hW
 go_enter Tryz.func57, Tryz.ntmps57
 go_wp2_with (refine wpList_load_row rfl 33 _ rfl w.heap.size rfl 33 (suV g s l D) (0, 0) _ (row1 ..) Tryz.underlying33 rfl (suInfo g s l D hD) ?_)
 rw [← HW.out]
 have hh := refsuCheck_any g s l D W hs hD
 rw [hc] at hh
 refine hh.mono ?_
 rintro e w1 ⟨rfl, hb1⟩
 go_wp2
 go_ret2
 exact ⟨none, 0, 0, rfl, OwnB.nilB _ _, below_then bW hb1⟩
theorem refsuPut_yes (g s l : Nat) (D : List UInt8) (w : World) (hg : g < 4294967296) (hD : D.length = 32) (hc : suCheck (s : Int) (l : Int) = true) :
  Calls Tryz.prog 57 #[.agg (suV g s l D)] w (RetBE w (suL g s l D) 0) := by
 have hc' := of_decide_eq_true hc
 obtain ⟨W0, hW⟩ : ∃ W, W = w.alloc (.cells (suV g s l D) 33) := ⟨_, rfl⟩
 have bW0 : Below w.heap.size w W0 := by rw [hW]; exact (below_self w).alloc (Nat.le_refl _) _
 have hrow0 : W0.heap[w.heap.size]? = some (.cells (suV g s l D) 33 (0, 0)) := by rw [hW]; exact row1 ..
 have hz0 : w.heap.size < W0.heap.size := by rw [hW]; simp
 have HW := Lib.hid hW
 have HR0 := Lib.hid hrow0
 clear hW hrow0
 go_enter Tryz.func57, Tryz.ntmps57
 go_wp2_with (refine wpList_load_row rfl 33 _ rfl w.heap.size rfl 33 (suV g s l D) (0, 0) _ (row1 ..) Tryz.underlying33 rfl (suInfo g s l D hD) ?_)
 rw [← HW.out]
 have hh := refsuCheck_any g s l D W0 (by omega) hD
 rw [hc] at hh
 refine hh.mono ?_
 clear hh
 rintro e W ⟨rfl, hb1⟩
 have bW := below_then bW0 hb1
 have hz : w.heap.size < W.heap.size := Nat.lt_of_lt_of_le hz0 hb1.size
 have hrow := (hb1.block _ hz0).trans HR0.out
 have c0 := (cell_of_row W _ 0 _ _ _ hrow).trans (suV0 g s l D)
 have c1 := (cell_of_row W _ 1 _ _ _ hrow).trans (suV1 g s l D)
 have c2 := (cell_of_row W _ 2 _ _ _ hrow).trans (suV2 g s l D)
 have rD := suDig hrow hD
 have C1 := Lib.hid c1
 have C2 := Lib.hid c2
 clear hrow c1 c2
 have w8 : IntKind.u8.wrap (s : Int) = ((UInt8.ofNat s).toNat : Int) := by rw [UInt8.toNat_ofNat', IntKind.wrap_u8]; omega
 have wg := w64n (k := g) (by omega)
 have wl := w64n (k := l) (by omega)
 go_wp2_with fail
 refine named ?_
 intro W1 hW1
 have bW1 : Below W.heap.size W W1 := by rw [hW1]; repeat' (first | exact Below.refl _ _ | (refine Below.alloc ?_ ?_ _; rotate_left; (simp <;> omega)) | refine Below.drew ?_)
 have zW1 := bW1.size
 have HW1 := Lib.hid hW1
 clear hW1
 have o1 : OwnB W1 W.heap.size (some ⟨W.heap.size, 0, none⟩) 4 4 [80, 72, 83, 66] := by rw [HW1.out]; exact OwnB.lit _ _ _ _ rfl rfl (by simp [maxLen])
 refine (refLe_any g 4 W1 (by omega)).mono ?_
 rw [show clamp 4 = 4 from rfl]
 rintro e w2 ⟨A2, n2, c2, rfl, ho2, hb2⟩
 obtain rfl : n2 = 4 := by rw [← ho2.len, leB_length]
 have B2 := below_then bW1 hb2
 go_wp2_with (at_builtin; refine wp_appB rfl _ _ rfl B2 (Nat.le_refl _) B2.size (some ⟨W.heap.size, 0, none⟩) 4 4 [80, 72, 83, 66] rfl (o1.below hb2) A2 4 c2 (leB g 4) rfl ho2.rd (by omega) 8 ([80, 72, 83, 66] ++ leB g 4) rfl rfl ?_; intro A3 c3 w3 ho3 hb3 hg3; have j2 := (hb3.cell (p := ⟨w.heap.size, 2, none⟩) hz).trans C2.out)
 refine (refLe_any l 4 w3 (by omega)).mono ?_
 rw [show clamp 4 = 4 from rfl]
 rintro e w4 ⟨A4, n4, c4, rfl, ho4, hb4⟩
 obtain rfl : n4 = 4 := by rw [← ho4.len, leB_length]
 have B4 := hb3.trans (hb4.mono hb3.size)
 have z4 := B4.size
 clear j2
 go_wp2_with (first
  | (at_builtin; refine wp_appZ rfl _ _ rfl hb7 (Nat.le_refl _) hb7.size A7 45 c7 _ rfl ho7 207 .i64 _ rfl (by omega) (by omega) 252 (suB g s l D) rfl (by simp [suB, List.append_assoc]) ?_; intro A8 c8 w8 ho8 hb8 hg8)
  | (at_builtin; refine wp_appB rfl _ _ rfl hb6 (Nat.le_refl _) hb6.size A6 13 c6 _ rfl ho6 (some ⟨w.heap.size, 3, none⟩) 32 32 D rfl (rD.below hb6) (by omega) 45 ([80, 72, 83, 66] ++ leB g 4 ++ leB l 4 ++ [UInt8.ofNat s] ++ D) rfl rfl ?_; intro A7 c7 w7 ho7 hb7 hg7)
  | (at_builtin; refine wp_appB rfl _ _ rfl (hb5.alloc hb5.size _) (Nat.le_refl _) (by have := hb5.size; simp; omega) A5 12 c5 ([80, 72, 83, 66] ++ leB g 4 ++ leB l 4) rfl (ho5.alloc _) (some ⟨w5.heap.size, 0, none⟩) 1 1 [UInt8.ofNat s] rfl (rdK rfl _ _ _ (by rfl) rfl (by simp [maxLen])) (by omega) 13 ([80, 72, 83, 66] ++ leB g 4 ++ leB l 4 ++ [UInt8.ofNat s]) rfl rfl ?_; intro A6 c6 w6 ho6 hb6 hg6)
  | (at_builtin; refine wp_appB rfl _ _ rfl B4 (Nat.le_refl _) B4.size A3 8 c3 ([80, 72, 83, 66] ++ leB g 4) rfl (ho3.below hb4) A4 4 c4 (leB l 4) rfl ho4.rd (by omega) 12 ([80, 72, 83, 66] ++ leB g 4 ++ leB l 4) rfl rfl ?_; intro A5 c5 w5 ho5 hb5 hg5; have j1 := (hb5.cell (p := ⟨w.heap.size, 1, none⟩) hz).trans C1.out))
 refine (refClosed_any A8 252 c8 _ w8 ho8.rd (by omega)).mono ?_
 rintro e w9 ⟨A9, n9, c9, rfl, ho9, hb9⟩
 go_wp2
 go_ret2
 exact ⟨_, _, _, rfl, OwnB.mono ho9 (Nat.le_trans bW.size hb8.size), below_then bW (hb8.trans (hb9.mono hb8.size))⟩
theorem refsuPut_any (g : Nat) (s l : Int) (D : List UInt8) (w : World) (hg : g < 4294967296) (hs : -9223372036854775808 ≤ s ∧ s ≤ 9223372036854775807) (hD : D.length = 32) :
  Calls Tryz.prog 57 #[.agg (suV g s l D)] w (RetBE w (suPutL g s l D) (suPutE s l)) := by
 unfold suPutL suPutE
 cases h : suCheck s l with
 | false => rw [if_neg (by decide), if_neg (by decide)]; exact refsuPut_no g s l D w hs hD h
 | true =>
  rw [if_pos rfl, if_pos rfl]
  have hc' := of_decide_eq_true h
  obtain ⟨p, rfl⟩ : ∃ p : Nat, s = (p : Int) := ⟨s.toNat, by omega⟩
  obtain ⟨q, rfl⟩ : ∃ q : Nat, l = (q : Int) := ⟨l.toNat, by omega⟩
  exact refsuPut_yes g p q D w hg hD h
set_option maxHeartbeats 8000000
theorem refsuHome_any (g : Nat) (w : World) (hg : g < 4294967296) : Calls Tryz.prog 58 #[.int .u32 g] w fun e w' => e = .returned (.int .i64 (g % 2 : Nat)) ∧ w = w' := by
 have w1 : IntKind.i64.wrap ((g : Int).tmod 2) = ((g % 2 : Nat) : Int) := by rw [Int.tmod_eq_emod_of_nonneg (by omega)]; exact wi64n (k := g % 2) (by omega)
 go_enter Tryz.func58, Tryz.ntmps58
 go_wp2
 go_ret
 exact ⟨rfl, rfl⟩
theorem refsuPlace_any (s : Int) (w : World) : Calls Tryz.prog 76 #[.int .i64 s] w fun e w' => e = .returned (.int .i64 (if s = 0 then 2 else 50)) ∧ w = w' := by
 by_cases h : s = 0
 ·subst h
  go_enter Tryz.func76, Tryz.ntmps76
  go_wp2
  go_ret
  exact ⟨rfl, rfl⟩
 ·rw [if_neg h]
  have d : decide (s = 0) = false := decide_eq_false h
  go_enter Tryz.func76, Tryz.ntmps76
  go_wp2
  go_ret
  exact ⟨rfl, rfl⟩
end Go.Proofs.YtpahicfnhhhifaaGreat
