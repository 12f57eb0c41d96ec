/-
 Proved here, for the statement JournalTells:
 Layer 14: journal: Append.
 Layer 14: journal: rows of jobs: append, Clone, what is left of a row.
-/
import Derived.Test.YtpahicfnhhhifaaGreatGt17
set_option linter.unusedVariables false
set_option linter.unusedSimpArgs false
namespace Go.Proofs.YtpahicfnhhhifaaGreat
set_option maxRecDepth 20000
open Go.RowKit
set_option maxHeartbeats 8000000
theorem op_litJ {P : Program} {o : Oper} {a : Act} {w : World} {K : Act → World → Prop} {Q : Exit → Act → World → Prop} (cs : Array Value) (T : TypeId) (hrun : ∀ w : World, (execOp a.eval o).run P w = .ok (.value (.slice (some ⟨w.heap.size, 0, none⟩) 1 1)) (w.alloc (.cells cs T)))
  (h : ∀ g w', w.heap.size = g → w'.heap[g]? = some (.cells cs T (0, 0)) → Below w.heap.size w w' → w'.heap.size = g + 1 → K (a.put o.dst (.slice (some ⟨g, 0, none⟩) 1 1)) w') : o.wp P a w K Q :=
 op_value (hrun w) (h _ _ rfl (heap_alloc_new w _) ((below_self w).alloc (Nat.le_refl _) _) (by simp))
theorem op_growJ {o : Oper} {a : Act} {w : World} {K : Act → World → Prop} {Q : Exit → Act → World → Prop} (s x : Operand) (ho : o.op = .call { callee := .builtin .append, args := #[s, x], argTypes := #[31, 31] })
  (A : Option Addr) (n : Nat) (us : List Value) (l : List Jb) (hs : a.eval s = .slice A n n) {c : Nat} (hr : RdWs w A n c us l) (g : Nat) (u v : Value) (T : TypeId) (hx : a.eval x = .slice (some ⟨g, 0, none⟩) 1 1) (q : w.heap[g]? = some (.cells #[u, v] T (0, 0))) (hu : u.oneCell' = true) (hv : v.oneCell' = true) (hm : n ≤ 1000000)
  (h : ∀ A' c' w', w'.ownsRow w.heap.size 60 2 (.slice A' (n + 1) c') (n + 1) (us ++ [u, v]) → Below w.heap.size w w' → K (a.put o.dst (.slice A' (n + 1) c')) w') : o.wp Tryz.prog a w K Q := by
 obtain ⟨i, hi, hz, hsz, hby⟩ := jinfo
 have hone : ∀ z ∈ [u, v], z.oneCell' = true := by intro z hz; simp at hz; rcases hz with rfl | rfl; exact hu; exact hv
 have hfin : ∀ v' w', w'.ownsRow w.heap.size 60 2 v' (n + 1) (us ++ [u, v]) → w.grownBy w' none → K (a.put o.dst v') w' := fun v' w' h1 h2 => by
  have hb : Below w.heap.size w w' := ⟨h2.os, h2.tape, h2.output, h2.size, fun j hj => h2.block j hj (by simp)⟩
  have hf : ∃ A' c', v' = .slice A' (n + 1) c' := by
   rcases h1.2 with ⟨rfl, h0⟩ | ⟨g', cap, cur, rfl, _⟩
   ·have := h1.1; rw [h0] at this; simp at this
   ·exact ⟨_, _, rfl⟩
  obtain ⟨A', c', rfl⟩ := hf
  exact h A' c' w' h1 hb
 cases A with
 | some b =>
  obtain ⟨v', w', hrun, r1, r2⟩ := run_append_arg_grows (P := Tryz.prog) w 31 o.type 60 i _ 2 32 Tryz.underlying31 hi hz hsz hby rfl (by decide) b n n us (by have := hr.2.1; omega) (ws_cells hr b rfl) ⟨g, 0, none⟩ 1 1 [u, v] rfl (one_cells q) (by omega) (by unfold maxLen; omega) (by omega)
  unfold Oper.wp
  simp [execOp, ho, resolve, invoke, builtin, hs, hx, hrun, Result.andThen]
  exact hfin v' w' r1 r2
 | none =>
  have hn0 : n = 0 := (ws_none hr rfl).1
  subst hn0
  obtain rfl : us = [] := List.eq_nil_of_length_eq_zero (by have := hr.2.1; omega)
  obtain ⟨v', w', hrun, r1, r2, _⟩ := run_append_own (P := Tryz.prog) w w.heap.size 31 o.type 60 i _ 2 32 Tryz.underlying31 hi hz hsz hby rfl (by decide) (.slice none 0 0) 0 [] (World.ownsRow_nil w _ _ 2) ⟨g, 0, none⟩ 1 1 [u, v] rfl (one_cells q) hone (by unfold maxLen; omega) (by omega) (Nat.le_refl _)
  unfold Oper.wp
  simp [execOp, ho, resolve, invoke, builtin, hs, hx, hrun, Result.andThen]
  exact hfin v' w' r1 r2
theorem setCells_other {g j : Nat} (h : g ≠ j) : ∀ (vs : List Value) (o : Nat) (w : World), (w.setCells g o vs).heap[j]? = w.heap[j]?
 | [], o, w => rfl
 | v :: r, o, w => by rw [World.setCells]; exact (setCells_other h r (o + 1) _).trans (setc_rowO h)
theorem jm_dset2 {ops : Array Oper} {rest : List Oper} {o : Oper} {a : Act} {w : World} {Q : Exit → Act → World → Prop} {h : Nat} {m : Jm} (hz : m.z) (hgd : o.guard = none) (x z : Operand) (ho : o.op = .store 30 x z) (hx : a.eval x = .pointer (some ⟨h, 5, none⟩)) (q : JmAt w h m) (D : List UInt8) (hy : a.eval z = .agg (dgA D)) (hD : D.length = 32)
  (hK : ∀ X, X.heap.size = w.heap.size → JmAt X h { m with ch := D } → (∀ B, B ≤ h → Below B w X) → (∀ j, j ≠ h → X.heap[j]? = w.heap[j]?) → wpList Tryz.prog ops Q rest (a.put o.dst undef) X) : wpList Tryz.prog ops Q (o :: rest) a w :=
 wpList_store_mid hgd 30 x z ho h 5 (dgA D) hx hy (q.there5 hz _ (by rw [dgA_size]; omega)) (infoD D hD) (dgA_one D) (hK _ (setCells_size _ _ _ _) (q.s5 hz D hD) (fun B hB => setCells_below hB _ _ _ _ (Below.refl _ _)) (fun j hj => setCells_other (fun e => hj e.symm) _ _ _))
theorem JS.other {w Y X : World} {h r : Nat} {m m' : Jm} (s : JS w h r m Y) (q : JmAt X h m') (z : m'.z) (hX : ∀ j, j ≠ h → X.heap[j]? = Y.heap[j]?) (hb : Below w.heap.size Y X) : JS w h r m' X := ⟨q, (hX r (fun e => s.n.2.2 e.symm)).trans s.o, s.b.trans hb, s.n, z⟩
theorem JIn.wt {P : Nat → Prop} {w : World} {m m' : Jm} {wl jl wl' : List Jb} {J' : Jn} (h : JIn P w m (m.of wl jl)) (hof : m'.of wl' jl = J') (hok : J'.ok) (e : m'.ja = m.ja ∧ m'.jn = m.jn ∧ m'.jc = m.jc) (hw : WsIn P w m'.wa m'.wn m'.wc wl') : JIn P w m' J' := by
 subst hof
 obtain ⟨_, _, h3, h4⟩ := h
 obtain ⟨e1, e2, e3⟩ := e
 refine ⟨hok, rfl, hw, ?_⟩
 rw [e1, e2, e3]; exact h4
theorem js_new3 {w V : World} {m : Jm} {P : Nat → Prop} {J : Jn} {cs : Array Value} {T : TypeId} (h : JIn P w m J) (hV : V = ((w.alloc (.cells (jmV m).toArray 36)).alloc (.cells cs T)).alloc (.cells Tryz.zeroCells36 36)) : JS w w.heap.size (w.heap.size + 2) m V ∧ V.heap[w.heap.size + 1]? = some (.cells cs T (0, 0)) ∧ V.heap.size = w.heap.size + 3 := by
 refine ⟨⟨?_, ?_, ?_, ⟨Nat.le_refl _, by omega, by omega⟩, h.z⟩, ?_, by rw [hV]; simp⟩
 ·rw [hV]; exact drw_old _ (drw_old _ (drw_at _ rfl))
 ·rw [hV, jmZ_zero]; exact jm_new _ (by simp)
 ·rw [hV]; exact (((below_self w).alloc (Nat.le_refl _) _).alloc (by simp) _).alloc (by simp <;> omega) _
 ·rw [hV]; exact drw_old _ (drw_at _ (by simp))
set_option maxRecDepth 100000 in
theorem jrnApp_stop (P : Nat → Prop) (m : Jm) (wl jl : List Jb) (sm t : Nat) (k : Int) (c : Nat) (A : Option Addr) (n cp : Nat) (b : List UInt8) (w : World) (hv : JIn P w m (m.of wl jl)) (hP : ∀ j, P j → j < w.heap.size) (hr : RdB w A n cp b) (hsm : sm < 4294967296) (ht : t < 18446744073709551616) (hk : -9223372036854775808 ≤ k ∧ k ≤ 9223372036854775807) (hc : c < 18446744073709551616) (hg : jnGoing (m.of wl jl) ≠ 0) :
  Calls Tryz.prog 14 #[.agg (jmV m).toArray, .int .u32 (sm : Int), .agg #[.int .u64 (t : Int), .int .i64 k, .int .u64 (c : Int), .slice A n cp]] w (RetJ P w (m.of wl jl) (jnGoing (m.of wl jl))) := by
 obtain ⟨V, hV⟩ : ∃ V, V = ((w.alloc (.cells (jmV m).toArray 36)).alloc (.cells #[.int .u64 (t : Int), .int .i64 k, .int .u64 (c : Int), .slice A n cp] 49)).alloc (.cells Tryz.zeroCells36 36) := ⟨_, rfl⟩
 obtain ⟨s0, e0, zV⟩ := js_new3 hv hV
 have S := Lib.hid s0
 have HV := Lib.hid hV
 have ZV := Lib.hid zV
 have EV := Lib.hid e0
 have C := Lib.hid (jrnGoing_any P m (m.of wl jl) V (hv.below S.out.b))
 obtain ⟨G, hG⟩ : ∃ G, jnGoing (m.of wl jl) = G := ⟨_, rfl⟩
 rw [hG] at C hg ⊢
 have g0 : (G != 0) = true := by simpa using hg
 clear hg hG hsm ht hk hc
 have HI := Lib.hid hv
 have HP := Lib.hid hP
 have HR := Lib.hid hr
 clear hV zV hv hP s0 e0 hr
 go_enter Tryz.func14, Tryz.ntmps14
 go_wp2_with (first | (rw [← HV.out]) | (refine jm_load S.out.z rfl _ rfl rfl S.out.j ?_))
 refine C.out.mono ?_
 rintro e w1 ⟨rfl, hb1⟩
 have S1 := Lib.hid (S.out.up hb1)
 have E1 := Lib.hid (drw_up EV.out hb1)
 go_wp2_with (first | (refine jm_load S1.out.z rfl _ rfl rfl S1.out.j ?_) | (refine jm_store S1.out.z jmZ_z rfl _ _ rfl rfl rfl S1.out.o ?_; intro X zX qX bX nX))
 refine bodyPost_ret (dresults_cell_tmp Tryz.results14 _ _ (w.heap.size + 2) 36 _ (0, 0) _ rfl qX Tryz.underlying36 rfl (jm_info S1.out.z)) rfl ?_
 have bF := S1.out.b.trans (bX w.heap.size (by omega))
 exact ⟨m, rfl, HI.out.below bF, bF⟩
set_option maxRecDepth 100000 in
theorem jrnApp_bad (P : Nat → Prop) (m : Jm) (wl jl : List Jb) (sm t : Nat) (k : Int) (c : Nat) (A : Option Addr) (n cp : Nat) (b : List UInt8) (w : World) (hv : JIn P w m (m.of wl jl)) (hP : ∀ j, P j → j < w.heap.size) (hr : RdB w A n cp b) (hsm : sm < 4294967296) (ht : t < 18446744073709551616) (hk : -9223372036854775808 ≤ k ∧ k ≤ 9223372036854775807) (hc : c < 18446744073709551616) (hg : jnGoing (m.of wl jl) = 0) (hq : rcChk k c b.length = false) :
  Calls Tryz.prog 14 #[.agg (jmV m).toArray, .int .u32 (sm : Int), .agg #[.int .u64 (t : Int), .int .i64 k, .int .u64 (c : Int), .slice A n cp]] w (RetJ P w (m.of wl jl) (2)) := by
 obtain ⟨V, hV⟩ : ∃ V, V = ((w.alloc (.cells (jmV m).toArray 36)).alloc (.cells #[.int .u64 (t : Int), .int .i64 k, .int .u64 (c : Int), .slice A n cp] 49)).alloc (.cells Tryz.zeroCells36 36) := ⟨_, rfl⟩
 obtain ⟨s0, e0, zV⟩ := js_new3 hv hV
 have S := Lib.hid s0
 have HV := Lib.hid hV
 have ZV := Lib.hid zV
 have EV := Lib.hid e0
 have C := Lib.hid (jrnGoing_any P m (m.of wl jl) V (hv.below S.out.b))
 rw [hg] at C
 have C2 := Lib.hid (fun W (h : RdB W A n cp b) => recMake_any m.ch hv.1.ch m.g m.next sm t k c A n cp b W hv.1.g hv.1.next hsm ht hk hc h)
 rw [show rcMkR m.ch ⟨m.g, m.next, sm, t, k, c, b, List.replicate 32 0⟩ = rcZ by unfold rcMkR Rc.chk; rw [if_neg (by simp [hq])], show rcMkE ⟨m.g, m.next, sm, t, k, c, b, List.replicate 32 0⟩ = 2 by unfold rcMkE Rc.chk; rw [if_neg (by simp [hq])]] at C2
 clear hg hq hsm ht hk hc
 have HI := Lib.hid hv
 have HP := Lib.hid hP
 have HR := Lib.hid hr
 clear hV zV hv hP s0 e0 hr
 go_enter Tryz.func14, Tryz.ntmps14
 go_wp2_with (first | (rw [← HV.out]) | (refine jm_load S.out.z rfl _ rfl rfl S.out.j ?_))
 refine C.out.mono ?_
 rintro e w1 ⟨rfl, hb1⟩
 have S1 := Lib.hid (S.out.up hb1)
 have E1 := Lib.hid (drw_up EV.out hb1)
 obtain ⟨⟨c0, c1, c2, c3, c4⟩, ⟨c37, c38, c39, c40, c41, c76, c77⟩, fz⟩ := S1.out.j.cells S1.out.z
 have y0 := (cell_of_row w1 _ 0 _ _ _ E1.out).trans rfl
 have y1 := (cell_of_row w1 _ 1 _ _ _ E1.out).trans rfl
 have y2 := (cell_of_row w1 _ 2 _ _ _ E1.out).trans rfl
 have y3 := (cell_of_row w1 _ 3 _ _ _ E1.out).trans rfl
 go_wp2_with (refine jm_dig S1.out.z rfl _ rfl rfl S1.out.j ?_)
 refine (C2.out w1 (HR.out.below (below_then S.out.b hb1))).mono ?_
 rintro e w2 ⟨A2, n2, d2, rfl, r2, _, hb2⟩
 have S2 := Lib.hid (S1.out.up hb2)
 have R2 := Lib.hid r2
 clear r2 c0 c1 c2 c3 c4 c37 c38 c39 c40 c41 c76 c77 fz y0 y1 y2 y3
 go_wp2_with (first | (refine rc_fresh rfl _ _ rfl rfl rfl w2 rfl rfl rcZD ?_; intro X3 q3 x3; have S3 := Lib.hid (S2.out.up x3)) | (refine jm_load S3.out.z rfl _ rfl rfl S3.out.j ?_) | (refine jm_store S3.out.z jmZ_z rfl _ _ rfl rfl rfl S3.out.o ?_; intro X zX qX bX nX))
 refine bodyPost_ret (dresults_cell_tmp Tryz.results14 _ _ (w.heap.size + 2) 36 _ (0, 0) _ rfl qX Tryz.underlying36 rfl (jm_info S3.out.z)) rfl ?_
 have bF := S3.out.b.trans (bX w.heap.size (by omega))
 exact ⟨m, rfl, HI.out.below bF, bF⟩
set_option maxRecDepth 100000 in
theorem jrnApp_full (P : Nat → Prop) (m : Jm) (wl jl : List Jb) (sm t : Nat) (k : Int) (c : Nat) (A : Option Addr) (n cp : Nat) (b : List UInt8) (w : World) (hv : JIn P w m (m.of wl jl)) (hP : ∀ j, P j → j < w.heap.size) (hr : RdB w A n cp b) (hsm : sm < 4294967296) (ht : t < 18446744073709551616) (hk : -9223372036854775808 ≤ k ∧ k ≤ 9223372036854775807) (hc : c < 18446744073709551616) (hg : jnGoing (m.of wl jl) = 0) (hq : rcChk k c b.length = true) (hf : m.room ≤ (m.next : Int)) :
  Calls Tryz.prog 14 #[.agg (jmV m).toArray, .int .u32 (sm : Int), .agg #[.int .u64 (t : Int), .int .i64 k, .int .u64 (c : Int), .slice A n cp]] w (RetJ P w (m.of wl jl) (4)) := by
 obtain ⟨V, hV⟩ : ∃ V, V = ((w.alloc (.cells (jmV m).toArray 36)).alloc (.cells #[.int .u64 (t : Int), .int .i64 k, .int .u64 (c : Int), .slice A n cp] 49)).alloc (.cells Tryz.zeroCells36 36) := ⟨_, rfl⟩
 obtain ⟨s0, e0, zV⟩ := js_new3 hv hV
 have S := Lib.hid s0
 have HV := Lib.hid hV
 have ZV := Lib.hid zV
 have EV := Lib.hid e0
 have C := Lib.hid (jrnGoing_any P m (m.of wl jl) V (hv.below S.out.b))
 rw [hg] at C
 have C2 := Lib.hid (fun W (h : RdB W A n cp b) => recMake_any m.ch hv.1.ch m.g m.next sm t k c A n cp b W hv.1.g hv.1.next hsm ht hk hc h)
 obtain ⟨R, hR⟩ : ∃ R, rcMk m.ch ⟨m.g, m.next, sm, t, k, c, b, List.replicate 32 0⟩ = R := ⟨rcMk m.ch ⟨m.g, m.next, sm, t, k, c, b, List.replicate 32 0⟩, rfl⟩
 rw [show rcMkR m.ch ⟨m.g, m.next, sm, t, k, c, b, List.replicate 32 0⟩ = R by unfold rcMkR Rc.chk; rw [if_pos hq, hR], show rcMkE ⟨m.g, m.next, sm, t, k, c, b, List.replicate 32 0⟩ = 0 by unfold rcMkE Rc.chk; rw [if_pos hq]] at C2
 have hRok : R.ok := by rw [← hR]; exact rcMk_ok _ _ ⟨hv.1.g, hv.1.next, hsm, ht, hk, hc, by simp⟩
 have HRO := Lib.hid hRok
 have HRE := Lib.hid hR
 have hRc : R.chk = true := by rw [← hR]; exact hq
 have hnx : m.next < 4294967296 := hv.1.next
 have wn : IntKind.i64.wrap (m.next : Int) = (m.next : Int) := IntWalk.i64_in _ (by omega)
 have d1 : decide (m.room ≤ (m.next : Int)) = true := decide_eq_true hf
 clear hg hq hsm ht hk hc hR hRok hRc hf
 have HI := Lib.hid hv
 have HP := Lib.hid hP
 have HR := Lib.hid hr
 clear hV zV hv hP s0 e0 hr
 go_enter Tryz.func14, Tryz.ntmps14
 go_wp2_with (first | (rw [← HV.out]) | (refine jm_load S.out.z rfl _ rfl rfl S.out.j ?_))
 refine C.out.mono ?_
 rintro e w1 ⟨rfl, hb1⟩
 have S1 := Lib.hid (S.out.up hb1)
 have E1 := Lib.hid (drw_up EV.out hb1)
 obtain ⟨⟨c0, c1, c2, c3, c4⟩, ⟨c37, c38, c39, c40, c41, c76, c77⟩, fz⟩ := S1.out.j.cells S1.out.z
 have y0 := (cell_of_row w1 _ 0 _ _ _ E1.out).trans rfl
 have y1 := (cell_of_row w1 _ 1 _ _ _ E1.out).trans rfl
 have y2 := (cell_of_row w1 _ 2 _ _ _ E1.out).trans rfl
 have y3 := (cell_of_row w1 _ 3 _ _ _ E1.out).trans rfl
 go_wp2_with (refine jm_dig S1.out.z rfl _ rfl rfl S1.out.j ?_)
 refine (C2.out w1 (HR.out.below (below_then S.out.b hb1))).mono ?_
 rintro e w2 ⟨A2, n2, d2, rfl, r2, _, hb2⟩
 have S2 := Lib.hid (S1.out.up hb2)
 have R2 := Lib.hid r2
 clear r2 c0 c1 c2 c3 c4 c37 c38 c39 c40 c41 c76 c77 fz y0 y1 y2 y3
 go_wp2_with (first | (refine rc_fresh rfl _ _ rfl rfl rfl w2 rfl rfl HRO.out.2.2.2.2.2.2 ?_; intro X3 q3 x3; have S3 := Lib.hid (S2.out.up x3); obtain ⟨⟨c0, c1, c2, c3, c4⟩, ⟨c37, c38, c39, c40, c41, c76, c77⟩, fz⟩ := S3.out.j.cells S3.out.z) | (refine jm_load S3.out.z rfl _ rfl rfl S3.out.j ?_) | (refine jm_store S3.out.z jmZ_z rfl _ _ rfl rfl rfl S3.out.o ?_; intro X zX qX bX nX))
 refine bodyPost_ret (dresults_cell_tmp Tryz.results14 _ _ (w.heap.size + 2) 36 _ (0, 0) _ rfl qX Tryz.underlying36 rfl (jm_info S3.out.z)) rfl ?_
 have bF := S3.out.b.trans (bX w.heap.size (by omega))
 exact ⟨m, rfl, HI.out.below bF, bF⟩
set_option maxRecDepth 100000 in
theorem jrnApp_yes (P : Nat → Prop) (m : Jm) (wl jl : List Jb) (sm t : Nat) (k : Int) (c : Nat) (A : Option Addr) (n cp : Nat) (b : List UInt8) (w : World) (hv : JIn P w m (m.of wl jl)) (hP : ∀ j, P j → j < w.heap.size) (hr : RdB w A n cp b) (hsm : sm < 4294967296) (ht : t < 18446744073709551616) (hk : -9223372036854775808 ≤ k ∧ k ≤ 9223372036854775807) (hc : c < 18446744073709551616) (hg : jnGoing (m.of wl jl) = 0) (hq : rcChk k c b.length = true) (hf : (m.next : Int) < m.room) (hrm : m.room ≤ 158) (hwn : m.wn ≤ 158) :
  Calls Tryz.prog 14 #[.agg (jmV m).toArray, .int .u32 (sm : Int), .agg #[.int .u64 (t : Int), .int .i64 k, .int .u64 (c : Int), .slice A n cp]] w (RetJ P w (({ m with next := m.next + 1, ch := (rcMk m.ch ⟨m.g, m.next, sm, t, k, c, b, List.replicate 32 0⟩).D } : Jm).of (wl ++ [(((98 + m.next : Nat) : Int), rcPutL (rcMk m.ch ⟨m.g, m.next, sm, t, k, c, b, List.replicate 32 0⟩))]) jl) (0)) := by
 obtain ⟨V, hV⟩ : ∃ V, V = ((w.alloc (.cells (jmV m).toArray 36)).alloc (.cells #[.int .u64 (t : Int), .int .i64 k, .int .u64 (c : Int), .slice A n cp] 49)).alloc (.cells Tryz.zeroCells36 36) := ⟨_, rfl⟩
 obtain ⟨s0, e0, zV⟩ := js_new3 hv hV
 have S := Lib.hid s0
 have HV := Lib.hid hV
 have ZV := Lib.hid zV
 have EV := Lib.hid e0
 have C := Lib.hid (jrnGoing_any P m (m.of wl jl) V (hv.below S.out.b))
 rw [hg] at C
 have C2 := Lib.hid (fun W (h : RdB W A n cp b) => recMake_any m.ch hv.1.ch m.g m.next sm t k c A n cp b W hv.1.g hv.1.next hsm ht hk hc h)
 obtain ⟨R, hR⟩ : ∃ R, rcMk m.ch ⟨m.g, m.next, sm, t, k, c, b, List.replicate 32 0⟩ = R := ⟨rcMk m.ch ⟨m.g, m.next, sm, t, k, c, b, List.replicate 32 0⟩, rfl⟩
 rw [show rcMkR m.ch ⟨m.g, m.next, sm, t, k, c, b, List.replicate 32 0⟩ = R by unfold rcMkR Rc.chk; rw [if_pos hq, hR], show rcMkE ⟨m.g, m.next, sm, t, k, c, b, List.replicate 32 0⟩ = 0 by unfold rcMkE Rc.chk; rw [if_pos hq]] at C2
 have hRok : R.ok := by rw [← hR]; exact rcMk_ok _ _ ⟨hv.1.g, hv.1.next, hsm, ht, hk, hc, by simp⟩
 have HRO := Lib.hid hRok
 have HRE := Lib.hid hR
 have hRc : R.chk = true := by rw [← hR]; exact hq
 have hnx : m.next < 4294967296 := hv.1.next
 have wn : IntKind.i64.wrap (m.next : Int) = (m.next : Int) := IntWalk.i64_in _ (by omega)
 have d1 : decide (m.room ≤ (m.next : Int)) = false := decide_eq_false (by omega)
 have hnx2 : m.next < 158 := by omega
 obtain ⟨NX, hNX⟩ : ∃ q, q = m.next + 1 := ⟨m.next + 1, rfl⟩
 obtain ⟨NA, hNA⟩ : ∃ q, q = 98 + m.next := ⟨98 + m.next, rfl⟩
 have e1 : IntKind.u32.wrap ((m.next : Int) + 1) = (NX : Int) := by rw [IntKind.wrap_u32]; omega
 have e2 : IntKind.i64.wrap (98 + (m.next : Int)) = (NA : Int) := by rw [IntWalk.i64_in _ (by omega)]; omega
 obtain ⟨us, hus⟩ := hv.2.2.1
 have HUS := Lib.hid hus
 have hJQ : JIn (fun j => P j ∨ w.heap.size ≤ j ∧ j < w.heap.size + 3) V m (m.of wl jl) := hv.more S.out.b (fun j hj => hj.elim .inl (fun h => .inr h.1))
 obtain ⟨us, hus⟩ := hJQ.2.2.1
 have HUS := Lib.hid hus
 have C3 := Lib.hid (fun A2 n2 d2 W (h : RdB W A2 n2 d2 R.b) => recPut_any R A2 n2 d2 W hRok h)
 obtain ⟨Y, hY⟩ : ∃ Y, rcPutL R = Y := ⟨_, rfl⟩
 rw [hY] at C3
 have HY := Lib.hid hY
 have HWN := Lib.hid hwn
 have HNX := Lib.hid hnx2
 have HNXE := Lib.hid hNX
 have HNAE := Lib.hid hNA
 clear hNX hNA
 clear hg hq hsm ht hk hc hR hRok hRc hf hus hJQ hY hwn hrm
 have HI := Lib.hid hv
 have HP := Lib.hid hP
 have HR := Lib.hid hr
 clear hV zV hv hP s0 e0 hr
 go_enter Tryz.func14, Tryz.ntmps14
 go_wp2_with (first | (rw [← HV.out]) | (refine jm_load S.out.z rfl _ rfl rfl S.out.j ?_))
 refine C.out.mono ?_
 rintro e w1 ⟨rfl, hb1⟩
 have S1 := Lib.hid (S.out.up hb1)
 have E1 := Lib.hid (drw_up EV.out hb1)
 obtain ⟨⟨c0, c1, c2, c3, c4⟩, ⟨c37, c38, c39, c40, c41, c76, c77⟩, fz⟩ := S1.out.j.cells S1.out.z
 have y0 := (cell_of_row w1 _ 0 _ _ _ E1.out).trans rfl
 have y1 := (cell_of_row w1 _ 1 _ _ _ E1.out).trans rfl
 have y2 := (cell_of_row w1 _ 2 _ _ _ E1.out).trans rfl
 have y3 := (cell_of_row w1 _ 3 _ _ _ E1.out).trans rfl
 go_wp2_with (refine jm_dig S1.out.z rfl _ rfl rfl S1.out.j ?_)
 refine (C2.out w1 (HR.out.below (below_then S.out.b hb1))).mono ?_
 rintro e w2 ⟨A2, n2, d2, rfl, r2, _, hb2⟩
 have S2 := Lib.hid (S1.out.up hb2)
 have R2 := Lib.hid r2
 clear r2 c0 c1 c2 c3 c4 c37 c38 c39 c40 c41 c76 c77 fz y0 y1 y2 y3
 go_wp2_with (first | (refine rc_fresh rfl _ _ rfl rfl rfl w2 rfl rfl HRO.out.2.2.2.2.2.2 ?_; intro X3 q3 x3; have S3 := Lib.hid (S2.out.up x3); obtain ⟨⟨c0, c1, c2, c3, c4⟩, ⟨c37, c38, c39, c40, c41, c76, c77⟩, fz⟩ := S3.out.j.cells S3.out.z) | (refine rc_load rfl _ rfl rfl q3.out HRO.out.2.2.2.2.2.2 ?_))
 refine (C3.out A2 n2 d2 X3 (R2.out.below x3)).mono ?_
 rintro e w4 ⟨A4, n4, d4, rfl, o4, hb4⟩
 have S4 := Lib.hid (S3.out.up hb4)
 have O4 := Lib.hid o4
 have q4 := Lib.hid (drw_up q3.out hb4)
 clear o4 c0 c1 c2 c3 c4 c37 c38 c39 c40 c41 c76 c77 fz
 obtain ⟨⟨c0, c1, c2, c3, c4⟩, ⟨c37, c38, c39, c40, c41, c76, c77⟩, fz⟩ := S4.out.j.cells S4.out.z
 have lq := S4.out.j.lt
 have B4 : Hid (Below V.heap.size V w4) := Lib.hid (below_then hb1 (below_then hb2 (below_then x3 hb4)))
 go_wp2_with fail
 refine wp_region_last (S := fun w' => Below w4.heap.size w4 w') 12 (brw9 13 4095) [(0, true), (1, true), (2, true), (3, true), (4, true), (5, true), (6, true), (7, true), (8, true), (9, false), (10, false), (11, true)] (by kernel_rfl) (by kernel_rfl) (fun _ _ d _ _ h => by cases d <;> exact h) ((Below.refl _ w4).drew) ?_
 iterate 2 (refine seg_take (v := ?_) rfl (Or.inl ⟨by rfl, ?_⟩) ?_; rotate_left; (focus (intro w' hw'; have j0 := (hw'.cell (p := ⟨w.heap.size, 37, none⟩) lq).trans c37; have j1 := (hw'.cell (p := ⟨w.heap.size, 2, none⟩) lq).trans c2; go_simp <;> with_reducible rfl)); try simp only [Act.put, pst3])
 refine seg_pure (v := .slice m.wa m.wn m.wn) (f := ?_) (args := ?_) rfl (by rfl) (fun w' hw' => ?_) (fun w' hw' => ?_) ?_
 rotate_left 2
 focus (have j0 := (hw'.cell (p := ⟨w.heap.size, 37, none⟩) lq).trans c37; have j1 := (hw'.cell (p := ⟨w.heap.size, 2, none⟩) lq).trans c2; go_simp <;> first | (refine ⟨?_, ?_⟩ <;> with_reducible rfl) | with_reducible rfl)
 focus (exact clipJ_any m.wa m.wn m.wc us wl w' (HUS.out w' (AgrP.of (AgrP.refl _ _) (below_then B4.out hw'))))
 try simp only [Act.put, pst3]
 iterate 6 (refine seg_take (v := ?_) rfl (Or.inl ⟨by rfl, ?_⟩) ?_; rotate_left; (focus (intro w' hw'; have j0 := (hw'.cell (p := ⟨w.heap.size, 37, none⟩) lq).trans c37; have j1 := (hw'.cell (p := ⟨w.heap.size, 2, none⟩) lq).trans c2; go_simp <;> with_reducible rfl)); try simp only [Act.put, pst3])
 refine seg_run rfl (fun K hK => ?_)
 rw [if_pos (by rfl)]
 have HB5 := (Below.refl w4.heap.size w4).drew
 refine op_litJ #[.int .i64 (NA : Int), .slice A4 n4 d4] 60 (fun w => by go_simp) ?_
 intro g5 w5 e5 q5 b5 z5
 have HB5 := below_then HB5 b5
 refine hK.out _ _ (HB5) ?_
 clear hK
 try simp only [Act.put, pst3]
 refine seg_run rfl (fun K hK => ?_)
 rw [if_pos (by rfl)]
 refine op_growJ _ _ rfl m.wa m.wn us wl rfl (HUS.out _ (AgrP.of (AgrP.refl _ _) (below_then B4.out HB5))) g5 _ _ _ rfl q5 rfl rfl (by have := HWN.out; omega) ?_
 intro A6 c6 w6 o6 b6
 have HB6 := below_then HB5 b6
 refine hK.out _ _ (HB6) ?_
 clear hK
 try simp only [Act.put, pst3]
 iterate 1 (refine seg_take (v := ?_) rfl (Or.inl ⟨by rfl, ?_⟩) ?_; rotate_left; (focus (intro w' hw'; have j0 := (hw'.cell (p := ⟨w.heap.size, 37, none⟩) lq).trans c37; have j1 := (hw'.cell (p := ⟨w.heap.size, 2, none⟩) lq).trans c2; go_simp <;> with_reducible rfl)); try simp only [Act.put, pst3])
 refine seg_done ?_
 refine last_run rfl (fun K hK => ?_)
 go_simp
 have c37 := (S4.out.up HB6).j.c37 S4.out.z
 have f37 := (S4.out.up HB6).j.fr 37
 go_simp
 refine hK.out _ _ ?_
 clear hK
 try simp only [Act.put, pst3]
 have S6 := Lib.hid (S4.out.up HB6)
 have QD7 := Lib.hid (drw_up q4.out HB6)
 have HB6h := Lib.hid HB6
 have HO6 := Lib.hid o6
 have HB56 := Lib.hid (And.intro HB5 b6)
 have HQ5 := Lib.hid e5
 clear c0 c1 c2 c3 c4 c37 c38 c39 c40 c41 c76 c77 fz lq
 obtain ⟨⟨c0, c1, c2, c3, c4⟩, ⟨c37, c38, c39, c40, c41, c76, c77⟩, fz⟩ := S6.out.j.cells S6.out.z
 obtain ⟨m7, Y7, HM7, HY7, S7⟩ := ((S6.out.s37 A6 (m.wn + 1) c6).s2 NX).named
 have hq7 : RcAt Y7 w2.heap.size R A2 n2 d2 := by
  have n2 : w.heap.size ≠ w2.heap.size := by have := S2.out.j.lt; omega
  rw [HY7.out]; exact (setc_rowO n2).trans ((setc_rowO n2).trans QD7.out)
 have Q7 := Lib.hid hq7
 clear hq7 HB5 HB6 b5 b6 o6 q5 z5
 go_wp2_with (first
  | (rw [← HY7.out]; refine wpList_load_mid rfl 30 _ rfl w2.heap.size 7 rfl (R.D.map vB) _ (rd_range (Q7.out.dig HRO.out.2.2.2.2.2.2)) Tryz.underlying30 rfl (by rw [List.length_map, HRO.out.2.2.2.2.2.2]; kernel_rfl) ?_)
  | (refine jm_dset2 S7.out.z rfl _ _ rfl rfl S7.out.j R.D rfl HRO.out.2.2.2.2.2.2 ?_; intro X8 z8 q8 b8 n8; have S8 := Lib.hid (S7.out.other q8 ⟨HRO.out.2.2.2.2.2.2, S7.out.z.2⟩ n8 (b8 _ S7.out.n.1)))
  | (refine jm_load S8.out.z rfl _ rfl rfl S8.out.j ?_) | (refine jm_store S8.out.z jmZ_z rfl _ _ rfl rfl rfl S8.out.o ?_; intro X zX qX bX nX))
 refine bodyPost_ret (dresults_cell_tmp Tryz.results14 _ _ (w.heap.size + 2) 36 _ (0, 0) _ rfl qX Tryz.underlying36 rfl (jm_info S8.out.z)) rfl ?_
 have bF := S8.out.b.trans (bX w.heap.size (by omega))
 have sz3 : w.heap.size + 3 ≤ X3.heap.size := by have := hb1.size; have := hb2.size; have := x3.size; have := ZV.out; omega
 have sz5 : X3.heap.size ≤ w5.heap.size := by have := HB56.out.1.size; have := hb4.size; omega
 have hQ : ∀ j, (P j ∨ w.heap.size ≤ j ∧ j < w.heap.size + 3) → j < w.heap.size + 3 := fun j hj => by
  rcases hj with h | h
  ·have := HP.out j h; omega
  ·omega
 have hws : WsIn (fun j => P j ∨ w.heap.size ≤ j ∧ j < w.heap.size + 3) w6 A6 (m.wn + 1) c6 (wl ++ [((NA : Int), Y)]) :=
  ws_app HUS.out (below_then B4.out HB6h.out) HO6.out (fun j hj => by have := hQ j hj; omega) (O4.out.upB HB6h.out) (fun j hj => by have := hQ j hj; omega) (by have := HNX.out; have := HNAE.out; omega)
 have hh : (fun j => P j ∨ w.heap.size ≤ j ∧ j < w.heap.size + 3) w.heap.size := .inr ⟨Nat.le_refl _, by omega⟩
 have hag7 : AgrP (fun j => P j ∨ w.heap.size ≤ j ∧ j < w.heap.size + 3) w6 Y7 := by rw [HY7.out]; exact ((AgrP.refl _ w6).set hh _).set hh _
 have hag : AgrP (fun j => P j ∨ w.heap.size ≤ j ∧ j < w.heap.size + 3) w6 X := (hag7.one hh z8 n8).one (.inr ⟨by omega, by omega⟩) zX nX
 have hwx := (hws.agr hag).sub (P' := P) (fun j hj => .inl hj)
 rw [← HY.out, ← HRE.out, HNAE.out] at hwx
 exact ⟨{ m7 with ch := R.D }, rfl, by
  rw [← HM7.out, ← HRE.out, HNXE.out]
  exact JIn.wt (wl' := wl ++ [(((98 + m.next : Nat) : Int), rcPutL (rcMk m.ch ⟨m.g, m.next, sm, t, k, c, b, List.replicate 32 0⟩))]) (HI.out.below bF) rfl ⟨HI.out.1.g, HI.out.1.slot, (show m.next + 1 < 4294967296 by have := HNX.out; omega), HI.out.1.done, HI.out.1.will, (show (rcMk m.ch ⟨m.g, m.next, sm, t, k, c, b, List.replicate 32 0⟩).D.length = 32 by rw [HRE.out]; exact HRO.out.2.2.2.2.2.2), HI.out.1.ph, HI.out.1.out, HI.out.1.sg, HI.out.1.ss, HI.out.1.sl, HI.out.1.sD, HI.out.1.room, HI.out.1.err⟩ ⟨rfl, rfl, rfl⟩ hwx, bF⟩
theorem jrnApp_any (P : Nat → Prop) (m : Jm) (J : Jn) (sm t : Nat) (k : Int) (c : Nat) (A : Option Addr) (n cp : Nat) (b : List UInt8) (w : World) (hv : JIn P w m J) (hP : ∀ j, P j → j < w.heap.size) (hr : RdB w A n cp b) (hsm : sm < 4294967296) (ht : t < 18446744073709551616) (hk : -9223372036854775808 ≤ k ∧ k ≤ 9223372036854775807) (hc : c < 18446744073709551616) :
  Calls Tryz.prog 14 #[.agg (jmV m).toArray, .int .u32 (sm : Int), .agg #[.int .u64 (t : Int), .int .i64 k, .int .u64 (c : Int), .slice A n cp]] w (RetJ P w (jnApp J sm t k c b) (jnAppE J k c b.length)) := by
 obtain ⟨wl, jl, rfl⟩ : ∃ wl jl, J = m.of wl jl := ⟨_, _, jof hv⟩
 by_cases hg : jnGoing (m.of wl jl) = 0
 ·cases hq : rcChk k c b.length with
  | false =>
   have e : jnAppE (m.of wl jl) k c b.length = 2 := by unfold jnAppE; rw [if_neg (fun h => h hg), if_pos hq]
   have e2 : jnApp (m.of wl jl) sm t k c b = m.of wl jl := by unfold jnApp; rw [e]; rfl
   rw [e, e2]; exact jrnApp_bad P m wl jl sm t k c A n cp b w hv hP hr hsm ht hk hc hg hq
  | true =>
   by_cases hf : m.room ≤ (m.next : Int)
   ·have e : jnAppE (m.of wl jl) k c b.length = 4 := by unfold jnAppE; rw [if_neg (fun h => h hg), if_neg (by simp [hq]), if_pos (show (m.of wl jl).room ≤ ((m.of wl jl).next : Int) from hf)]
    have e2 : jnApp (m.of wl jl) sm t k c b = m.of wl jl := by unfold jnApp; rw [e]; rfl
    rw [e, e2]; exact jrnApp_full P m wl jl sm t k c A n cp b w hv hP hr hsm ht hk hc hg hq hf
   ·have e : jnAppE (m.of wl jl) k c b.length = 0 := by unfold jnAppE; rw [if_neg (fun h => h hg), if_neg (by simp [hq]), if_neg (show ¬ (m.of wl jl).room ≤ ((m.of wl jl).next : Int) from hf)]
    have hchk : jnChk (m.of wl jl) = true := by
     cases h : jnChk (m.of wl jl) with
     | true => rfl
     | false => unfold jnGoing at hg; rw [h] at hg; simp at hg
    unfold jnChk jnCnt at hchk
    simp only [Bool.and_eq_true, decide_eq_true_eq] at hchk
    have h1 : (0 ≤ m.room ∧ m.room ≤ 158) ∧ (m.done ≤ m.will ∧ m.will ≤ m.next) ∧ (m.next : Int) ≤ m.room ∧ wl.length = m.next - m.will := hchk.2.1
    obtain ⟨us, hus⟩ := hv.2.2.1.now
    have hwl : wl.length = m.wn := hus.len
    have e2 : jnApp (m.of wl jl) sm t k c b = ({ m with next := m.next + 1, ch := (rcMk m.ch ⟨m.g, m.next, sm, t, k, c, b, List.replicate 32 0⟩).D } : Jm).of (wl ++ [(((98 + m.next : Nat) : Int), rcPutL (rcMk m.ch ⟨m.g, m.next, sm, t, k, c, b, List.replicate 32 0⟩))]) jl := by unfold jnApp; rw [if_pos e]; rfl
    rw [e, e2]; exact jrnApp_yes P m wl jl sm t k c A n cp b w hv hP hr hsm ht hk hc hg hq (by omega) h1.1.2 (by omega)
 ·have e : jnAppE (m.of wl jl) k c b.length = jnGoing (m.of wl jl) := by unfold jnAppE; rw [if_pos hg]
  have e2 : jnApp (m.of wl jl) sm t k c b = m.of wl jl := by unfold jnApp; rw [e, if_neg hg]
  rw [e, e2]; exact jrnApp_stop P m wl jl sm t k c A n cp b w hv hP hr hsm ht hk hc hg
set_option maxHeartbeats 8000000
theorem run_appJ {w : World} (ty : TypeId) (base : Nat) (v : Value) (n : Nat) (xs : List Value) (hown : w.ownsRow base 60 2 v n xs)
  (A : Option Addr) (m c : Nat) (news : List Value) (hr : Rd w A news) (hm : news.length = 2 * m) (h1 : ∀ u ∈ news, u.oneCell' = true)
  (h63 : n + m ≤ 1000000) (hbase : base ≤ w.heap.size) :
  ∃ A' c' w', (Builtin.append_ #[31, 31] ty #[v, .slice A m c]).run Tryz.prog w = .ok (.slice A' (n + m) c') w' ∧ w'.ownsRow base 60 2 (.slice A' (n + m) c') (n + m) (xs ++ news) ∧ w.grownBy w' v.ownBlock := by
 obtain ⟨i, hi, hz, hsz, hby⟩ := jinfo
 have hsl : Tryz.prog.underlying 31 = some (.slice 60) := Tryz.underlying31
 have fin : ∀ (v' : Value) (w' : World), w'.ownsRow base 60 2 v' (n + m) (xs ++ news) → ∃ A' c', v' = .slice A' (n + m) c' := fun v' w' h => own2_form h
 by_cases h0 : news = []
 ·subst h0
  obtain rfl : m = 0 := by simp at hm; omega
  rcases A with _ | a
  ·have hrun : (Builtin.append_ #[31, 31] ty #[v, .slice none 0 c]).run Tryz.prog w = .ok v w := by
    rcases hown.2 with ⟨rfl, rfl⟩ | ⟨g, cap, cur, rfl, _, _, hnc, _⟩
    ·simp [Builtin.append_, run_underlying hsl, sizeOf, typeInfo, hi, Builtin.lenOf, Builtin.firstCells]
    ·simp [Builtin.append_, run_underlying hsl, sizeOf, typeInfo, hi, Builtin.lenOf, Builtin.firstCells, hnc, storeCells]
   obtain ⟨A', c', rfl⟩ := fin v w (by simpa using hown)
   exact ⟨A', c', w, by simpa using hrun, by simpa using hown, World.grownBy.refl _ _⟩
  ·obtain ⟨v', w', hrun, ho, hg, _⟩ := run_append_own_at (P := Tryz.prog) w base 31 ty 60 i _ 2 32 hsl hi hz hsz hby rfl (by decide) v n xs hown a 0 c [] (by simp) (by simp) (by simp) (by unfold maxLen; omega) (by omega) hbase
   obtain ⟨A', c', rfl⟩ := fin v' w' ho
   exact ⟨A', c', w', hrun, ho, hg⟩
 ·rcases hr with h | ⟨b, o, rfl, hb, hc⟩
  ·exact absurd h h0
  ·obtain ⟨v', w', hrun, ho, hg, _⟩ := run_append_own_at (P := Tryz.prog) w base 31 ty 60 i _ 2 32 hsl hi hz hsz hby rfl (by decide) v n xs hown ⟨b, o, none⟩ m c news (by omega) (fun j u hj => by
    have := hc j u hj
    rwa [Addr.add_lit]) h1 (by unfold maxLen; omega) (by omega) hbase
   obtain ⟨A', c', rfl⟩ := fin v' w' ho
   exact ⟨A', c', w', hrun, ho, hg⟩
theorem wp_appJ {w : World} {ops : Array Oper} {rest : List Oper} {o : Oper} {a : Act} {Q : Exit → Act → World → Prop} (hgd : o.guard = none) (s x : Operand)
  (ho : o.op = .call { callee := .builtin .append, args := #[s, x], argTypes := #[31, 31] })
  (base : Nat) (v : Value) (n : Nat) (xs : List Value) (hs : a.eval s = v) (hown : w.ownsRow base 60 2 v n xs)
  (A : Option Addr) (m c : Nat) (news : List Value) (hx : a.eval x = .slice A m c) (hr : Rd w A news) (hm : news.length = 2 * m) (h1 : ∀ u ∈ news, u.oneCell' = true)
  (h63 : n + m ≤ 1000000) (hbase : base ≤ w.heap.size) (k : Nat) (zs : List Value) (hk : n + m = k) (hz : xs ++ news = zs)
  (h : ∀ A' c' w', w'.ownsRow base 60 2 (.slice A' k c') k zs → w.grownBy w' v.ownBlock → wpList Tryz.prog ops Q rest (a.put o.dst (.slice A' k c')) w') : wpList Tryz.prog ops Q (o :: rest) a w := by
 subst hk hz
 refine wpList_plain hgd fun K hK => ?_
 obtain ⟨A', c', w', hr, h2, h3⟩ := run_appJ (w := w) o.type base v n xs hown A m c news hr hm h1 h63 hbase
 unfold Oper.wp execOp
 simp only [ho, resolve, invoke, builtin, Sem.run_bind, Sem.run_pure, Result.andThen_ok, List.map_toArray, List.map_cons, List.map_nil, hs, hx, hr]
 exact hK _ _ (h A' c' w' h2 h3)
theorem cloneJ_any (A : Option Addr) (n c : Nat) (us : List Value) (l : List Jb) (w : World) (hr : RdWs w A n c us l) (hm : n ≤ 1000) :
  Calls Tryz.prog 54 #[.slice A n c] w (fun e w' => ∃ A' c', e = .returned (.slice A' n c') ∧ w'.ownsRow w.heap.size 60 2 (.slice A' n c') n us ∧ Below w.heap.size w w') := by
 have kn := fun (W : World) (A : Option Addr) (n c n' c' : Nat) => Lib.run_eql_slice_nil (P := Tryz.prog) W 31 60 A n c n' c' Tryz.underlying31
 rcases A with _ | a
 ·obtain ⟨h1, h2, h3, h4, h5⟩ := hr
  have hx : us = [] := by
   rcases h1 with h1 | ⟨b, o, h, _⟩
   ·exact h1
   ·cases h
  subst hx
  obtain rfl : 0 = n := by simp at h2; omega
  go_enter Tryz.func54, Tryz.ntmps54
  go_wp2
  go_ret
  exact ⟨none, 0, rfl, World.ownsRow_nil _ _ _ _, Below.refl _ _⟩
 ·have hown := World.ownsRow_lit (size := 2) (e := 60) w #[] 0 (Nat.le_refl _) (by simp [maxLen]) rfl
  have HL := Lib.hid hr.2.1
  have H1 := Lib.hid (wcells_one hr.2.2.2.2)
  go_enter Tryz.func54, Tryz.ntmps54
  go_wp2_with (at_builtin; refine wp_appJ rfl _ _ rfl w.heap.size _ 0 _ rfl hown _ n c _ rfl (hr.1.alloc _) HL.out H1.out (by omega) (by simp) n _ (by omega) rfl ?_; intro A4 c4 w4 ho4 hg4)
  have hb4 : Below w.heap.size w w4 := ((Below.refl _ _).alloc (Nat.le_refl _) _).grown hg4 (by simp) (fun q hq => by have := (hown.lt q hq).1; omega)
  go_wp2
  go_ret
  exact ⟨A4, c4, rfl, by simpa using ho4, hb4⟩
theorem ws_first {P : Nat → Prop} {w : World} {A : Option Addr} {n c : Nat} {x : Jb} {l : List Jb} {us : List Value} (h : ∀ W, AgrP P w W → RdWs W A n c us (x :: l)) :
  ∃ b o B k d, A = some ⟨b, o, none⟩ ∧ w.cell? ⟨b, o, none⟩ = some (.int .i64 x.1) ∧ w.cell? ⟨b, o + 1, none⟩ = some (.slice B k d) ∧ (-9223372036854775808 ≤ x.1 ∧ x.1 ≤ 9223372036854775807) ∧ BIn P w B k d x.2 ∧ n = l.length + 1 ∧ us.length = 2 * n ∧ n ≤ c ∧ c ≤ maxLen ∧ b < w.heap.size ∧
  RdWs w (some ⟨b, o + 2, none⟩) l.length (c - 1) (us.drop 2) l := by
 have h0 := h w (AgrP.refl _ _)
 have hn : n = l.length + 1 := by have := h0.len; simp at this; omega
 obtain ⟨h1, h2, h3, h4, h5⟩ := h0
 match us, h5 with
 | a :: v :: vs, hp =>
  obtain ⟨e1, e2, ⟨B, k, d, e3, e4⟩, e5⟩ := hp
  rcases h1 with h1 | ⟨b, o, rfl, hb, hc⟩
  ·cases h1
  ·refine ⟨b, o, B, k, d, rfl, by rw [← e1]; exact hc 0 a rfl, by rw [← e3]; exact hc 1 v rfl, e2, fun W hW => ?_, hn, h2, h3, h4, hb, .inr ⟨b, o + 2, rfl, hb, fun i u hu => ?_⟩, by simp at h2 ⊢; omega, by omega, by omega, e5⟩
   ·obtain ⟨_, _, ⟨B', k', d', f3, f4⟩, _⟩ := (h W hW).2.2.2.2
    rw [e3] at f3
    injection f3 with g1 g2 g3
    subst g1 g2 g3
    exact f4
   ·rw [Nat.add_assoc, Nat.add_comm 2 i, ← Nat.add_assoc]
    have := hc (i + 2) u (by simpa using hu)
    rw [← this, Nat.add_assoc]
theorem ws_rest {P : Nat → Prop} {w w' : World} {base : Nat} {e : TypeId} {A0 A' : Option Addr} {n c0 c' m : Nat} {us : List Value} {x : Jb} {l : List Jb} (h : ∀ W, AgrP P w W → RdWs W A0 m c0 us (x :: l)) (hb : Below w.heap.size w w') (ho : w'.ownsRow base e 2 (.slice A' n c') n (us.drop 2)) (hs : ∀ j, P j → j < base) : WsIn P w' A' n c' l :=
 ⟨us.drop 2, fun W hW => by
  obtain ⟨f1, f2, f3, f4⟩ := own2_rd (own_agr0 ho hW hs)
  have h5 := (h W (hW.of hb)).2.2.2.2
  match us, h5 with
  | a :: v :: vs, hp => exact ⟨f1, f2, f3, f4, hp.2.2.2⟩⟩
theorem bin_nil (P : Nat → Prop) (w : World) : BIn P w none 0 0 [] := fun W _ => ⟨.inl rfl, rfl, Nat.le_refl _, by simp [maxLen]⟩
theorem dresults4 {P : Program} {fn : Func} {p r q s : Tmp} {ty ty2 : TypeId} (h : fn.results = #[.cell p ty, .cell r ty2, .tmp q, .tmp s]) (tmps : Array Value) (w : World) (g g2 : Nat) (t t2 : TypeId) (cs cs2 : Array Value) (fr fr2 : Nat × Nat) (d d2 : TypeDesc)
  (hp : tmps.getD p undef = .pointer (some ⟨g, 0, none⟩)) (hg : w.heap[g]? = some (.cells cs t fr))
  (hu : P.underlying ty = some d) (hd : (match d with | .struct _ | .array _ _ => true | _ => false) = true) (hi : (P.info? ty).map (·.size) = some cs.size)
  (hr : tmps.getD r undef = .pointer (some ⟨g2, 0, none⟩)) (hg2 : w.heap[g2]? = some (.cells cs2 t2 fr2))
  (hu2 : P.underlying ty2 = some d2) (hd2 : (match d2 with | .struct _ | .array _ _ => true | _ => false) = true) (hi2 : (P.info? ty2).map (·.size) = some cs2.size) :
  (results fn tmps).run P w = .ok (.tuple #[.agg cs, .agg cs2, tmps.getD q undef, tmps.getD s undef]) w := by
 have hp' : tmps[p]?.getD undef = .pointer (some ⟨g, 0, none⟩) := by simpa using hp
 have hr' : tmps[r]?.getD undef = .pointer (some ⟨g2, 0, none⟩) := by simpa using hr
 simp [results, h, hp', hr', asAddr, run_loadVar_row w g t ty cs fr d hg hu hd hi, run_loadVar_row w g2 t2 ty2 cs2 fr2 d2 hg2 hu2 hd2 hi2]
def RetAk (P : Nat → Prop) (w : World) (R : Jn × Jb × Bool × Bool) (e : Ending) (w' : World) : Prop := ∃ m A n c, e = .returned (.tuple #[.agg (jmV m).toArray, .agg #[.int .i64 R.2.1.1, .slice A n c], .bool R.2.2.1, .bool R.2.2.2]) ∧ JIn P w' m R.1 ∧ BIn P w' A n c R.2.1.2 ∧ (-9223372036854775808 ≤ R.2.1.1 ∧ R.2.1.1 ≤ 9223372036854775807) ∧ Below w.heap.size w w'
end Go.Proofs.YtpahicfnhhhifaaGreat
