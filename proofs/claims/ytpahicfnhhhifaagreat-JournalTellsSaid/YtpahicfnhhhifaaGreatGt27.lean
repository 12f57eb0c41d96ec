/-
 Proved here, for the statement JournalTells:
 Layer 14 (the document): Append (printed by genjre.py out of XJrnG).
 Layer 14 (the document): Base, split.
-/
import Derived.Test.YtpahicfnhhhifaaGreatGt26
set_option linter.unusedVariables false
set_option linter.unusedSimpArgs false
namespace Go.Proofs.YtpahicfnhhhifaaGreat
set_option maxRecDepth 20000
open Go.RowKit
set_option maxHeartbeats 8000000
theorem cutA7 {G : Prop} {R P : World → Nat → Option Addr → Nat → Nat → Option Addr → Nat → Prop} (T : ∀ U g0 A3 c3 g10 A c, R U g0 A3 c3 g10 A c → P U g0 A3 c3 g10 A c) (M : (∀ U g0 A3 c3 g10 A c, R U g0 A3 c3 g10 A c → P U g0 A3 c3 g10 A c) → G) : G := M T
set_option maxRecDepth 100000 in
theorem refApp14_form (P : Nat → Prop) (m : Jm) (wl jl : List Jb) (sm t : Nat) (k : Int) (c : Nat) (A : Option Addr) (n cp : Nat) (b : List UInt8) (w : World) (hv : JIn P w m (m.of wl jl)) (hP : ∀ j, P j → j < w.heap.size) (hr : RdB w A n cp b) (hsm : sm < 4294967296) (ht : t < 18446744073709551616) (hk : -9223372036854775808 ≤ k ∧ k ≤ 9223372036854775807) (hc : c < 18446744073709551616) (hck : jnChk (m.of wl jl) = false) :
  Calls Tryz.prog 15 #[.agg (jmV m).toArray, .int .u32 (sm : Int), .agg #[.int .u64 (t : Int), .int .i64 k, .int .u64 (c : Int), .slice A n cp]] w (RetJ P w (m.of wl jl) (3)) := by
 obtain ⟨V, hV⟩ : ∃ V, V = ((w.alloc (.cells (jmV m).toArray 36)).alloc (.cells #[.int .u64 (t : Int), .int .i64 k, .int .u64 (c : Int), .slice A n cp] 49)).alloc (.cells Tryz.zeroCells36 36) := ⟨_, rfl⟩
 obtain ⟨s0, e0, zV⟩ := js_new3 hv hV
 have S := Lib.hid s0
 have HV := Lib.hid hV
 have ZV := Lib.hid zV
 have EV := Lib.hid e0
 have C := Lib.hid (refCheck14_any P m (m.of wl jl) V (hv.below S.out.b))
 rw [hck] at C
 clear hck hsm ht hk hc
 have HI := Lib.hid hv
 have HP := Lib.hid hP
 have HR := Lib.hid hr
 clear hV zV hv hP s0 e0 hr
 go_enter Tryz.func15, Tryz.ntmps15
 go_wp2_with (first | (rw [← HV.out]) | (refine jm_load S.out.z rfl _ rfl rfl S.out.j ?_))
 refine C.out.mono ?_
 rintro e w1 ⟨rfl, hb1⟩
 have S1 := Lib.hid (S.out.up hb1)
 have E1 := Lib.hid (drw_up EV.out hb1)
 go_wp2_with (first | (refine jm_load S1.out.z rfl _ rfl rfl S1.out.j ?_) | (refine jm_store S1.out.z jmZ_z rfl _ _ rfl rfl rfl S1.out.o ?_; intro X zX qX bX nX))
 refine bodyPost_ret (dresults_cell_tmp Tryz.results15 _ _ (w.heap.size + 2) 36 _ (0, 0) _ rfl qX Tryz.underlying36 rfl (jm_info S1.out.z)) rfl ?_
 have bF := S1.out.b.trans (bX w.heap.size (by omega))
 exact ⟨m, rfl, HI.out.below bF, bF⟩
set_option maxRecDepth 100000 in
theorem refApp14_stop (P : Nat → Prop) (m : Jm) (wl jl : List Jb) (sm t : Nat) (k : Int) (c : Nat) (A : Option Addr) (n cp : Nat) (b : List UInt8) (w : World) (hv : JIn P w m (m.of wl jl)) (hP : ∀ j, P j → j < w.heap.size) (hr : RdB w A n cp b) (hsm : sm < 4294967296) (ht : t < 18446744073709551616) (hk : -9223372036854775808 ≤ k ∧ k ≤ 9223372036854775807) (hc : c < 18446744073709551616) (hck : jnChk (m.of wl jl) = true) (hp : m.ph = 7) :
  Calls Tryz.prog 15 #[.agg (jmV m).toArray, .int .u32 (sm : Int), .agg #[.int .u64 (t : Int), .int .i64 k, .int .u64 (c : Int), .slice A n cp]] w (RetJ P w (m.of wl jl) m.err) := by
 obtain ⟨V, hV⟩ : ∃ V, V = ((w.alloc (.cells (jmV m).toArray 36)).alloc (.cells #[.int .u64 (t : Int), .int .i64 k, .int .u64 (c : Int), .slice A n cp] 49)).alloc (.cells Tryz.zeroCells36 36) := ⟨_, rfl⟩
 obtain ⟨s0, e0, zV⟩ := js_new3 hv hV
 have S := Lib.hid s0
 have HV := Lib.hid hV
 have ZV := Lib.hid zV
 have EV := Lib.hid e0
 have C := Lib.hid (refCheck14_any P m (m.of wl jl) V (hv.below S.out.b))
 rw [hck] at C
 have Hp := Lib.hid hp
 clear hck hp hsm ht hk hc
 have HI := Lib.hid hv
 have HP := Lib.hid hP
 have HR := Lib.hid hr
 clear hV zV hv hP s0 e0 hr
 go_enter Tryz.func15, Tryz.ntmps15
 go_wp2_with (first | (rw [← HV.out]) | (refine jm_load S.out.z rfl _ rfl rfl S.out.j ?_))
 refine C.out.mono ?_
 rintro e w1 ⟨rfl, hb1⟩
 have S1 := Lib.hid (S.out.up hb1)
 have E1 := Lib.hid (drw_up EV.out hb1)
 obtain ⟨⟨c0, c1, c2, c3, c4⟩, ⟨c37, c38, c39, c40, c41, c76, c77⟩, fz⟩ := S1.out.j.cells S1.out.z
 rw [show m.ph = 7 from Hp.out] at c38
 clear c0 c1 c2 c3 c4 c37 c39 c40 c41 c76 c77 fz
 go_wp2_with fail
 refine wp_region_seg (S := fun w' => JmAt w' w.heap.size m) 0 #[true, true, true, true, true] [(0, true), (1, true), (2, true), (3, false), (4, true)] (by kernel_rfl) (by kernel_rfl) (fun _ _ d _ _ h => by first | (cases d <;> exact h) | cases h.1) (S1.out.j) ?_
 have HB := S1.out.j
 refine seg_take (v := .agg (jmV m).toArray) rfl (Or.inl ⟨by rfl, fun w' hw' => ?_⟩) ?_
 focus (exact rex_load rfl rfl (jm_run hw' S1.out.z))
 try simp only [Act.put, pst3]
 iterate 2 (refine seg_take (v := ?_) rfl (Or.inl ⟨by rfl, ?_⟩) ?_; rotate_left; (focus (intro w' hw'; have j77 := hw'.c77 S1.out.z; go_simp <;> with_reducible rfl)); try simp only [Act.put, pst3])
 refine seg_run rfl (fun K hK => ?_)
 rw [if_pos (by rfl)]
 refine op_jmst (h := w.heap.size + 2) S1.out.z jmZ_z _ _ rfl rfl rfl S1.out.o ?_
 intro X zX qX bX nX
 have HB := (nX _ (by omega)).trans HB
 refine hK.out _ _ (HB) ?_
 clear hK
 try simp only [Act.put, pst3]
 iterate 1 (refine seg_take (v := ?_) rfl (Or.inl ⟨by rfl, ?_⟩) ?_; rotate_left; (focus (intro w' hw'; have j77 := hw'.c77 S1.out.z; go_simp <;> with_reducible rfl)); try simp only [Act.put, pst3])
 refine seg_done (fun _ => ?_)
 refine wpAnyH_done (by kernel_rfl) ?_ _
 skip
 go_wp2_with fail
 refine bodyPost_ret (dresults_cell_tmp Tryz.results15 _ _ (w.heap.size + 2) 36 _ (0, 0) _ rfl qX Tryz.underlying36 rfl (jm_info S1.out.z)) rfl ?_
 have bF := S1.out.b.drew.trans (bX w.heap.size (by omega))
 exact ⟨m, rfl, HI.out.below bF, bF⟩
set_option maxRecDepth 100000 in
theorem refApp14_bad (P : Nat → Prop) (m : Jm) (wl jl : List Jb) (sm t : Nat) (k : Int) (c : Nat) (A : Option Addr) (n cp : Nat) (b : List UInt8) (w : World) (hv : JIn P w m (m.of wl jl)) (hP : ∀ j, P j → j < w.heap.size) (hr : RdB w A n cp b) (hsm : sm < 4294967296) (ht : t < 18446744073709551616) (hk : -9223372036854775808 ≤ k ∧ k ≤ 9223372036854775807) (hc : c < 18446744073709551616) (hck : jnChk (m.of wl jl) = true) (hp : ¬ m.ph = 7) (hq : rcChk k c b.length = false) :
  Calls Tryz.prog 15 #[.agg (jmV m).toArray, .int .u32 (sm : Int), .agg #[.int .u64 (t : Int), .int .i64 k, .int .u64 (c : Int), .slice A n cp]] w (RetJ P w (m.of wl jl) (2)) := by
 obtain ⟨V, hV⟩ : ∃ V, V = ((w.alloc (.cells (jmV m).toArray 36)).alloc (.cells #[.int .u64 (t : Int), .int .i64 k, .int .u64 (c : Int), .slice A n cp] 49)).alloc (.cells Tryz.zeroCells36 36) := ⟨_, rfl⟩
 obtain ⟨s0, e0, zV⟩ := js_new3 hv hV
 have S := Lib.hid s0
 have HV := Lib.hid hV
 have ZV := Lib.hid zV
 have EV := Lib.hid e0
 have C := Lib.hid (refCheck14_any P m (m.of wl jl) V (hv.below S.out.b))
 rw [hck] at C
 have p7 : (m.ph == 7) = false := beq_eq_false_iff_ne.2 hp
 have C2 := Lib.hid (fun W (h : RdB W A n cp b) => refMake12_any m.ch hv.1.ch m.g m.next sm t k c A n cp b W hv.1.g hv.1.next hsm ht hk hc h)
 rw [show rcMkR m.ch ⟨m.g, m.next, sm, t, k, c, b, List.replicate 32 0⟩ = rcZ by unfold rcMkR Rc.chk; rw [if_neg (by simp [hq])], show rcMkE ⟨m.g, m.next, sm, t, k, c, b, List.replicate 32 0⟩ = 2 by unfold rcMkE Rc.chk; rw [if_neg (by simp [hq])]] at C2
 clear hck hp hq hsm ht hk hc
 have HI := Lib.hid hv
 have HP := Lib.hid hP
 have HR := Lib.hid hr
 clear hV zV hv hP s0 e0 hr
 go_enter Tryz.func15, Tryz.ntmps15
 go_wp2_with (first | (rw [← HV.out]) | (refine jm_load S.out.z rfl _ rfl rfl S.out.j ?_))
 refine C.out.mono ?_
 rintro e w1 ⟨rfl, hb1⟩
 have S1 := Lib.hid (S.out.up hb1)
 have E1 := Lib.hid (drw_up EV.out hb1)
 obtain ⟨⟨c0, c1, c2, c3, c4⟩, ⟨c37, c38, c39, c40, c41, c76, c77⟩, fz⟩ := S1.out.j.cells S1.out.z
 have y0 := (cell_of_row w1 _ 0 _ _ _ E1.out).trans rfl
 have y1 := (cell_of_row w1 _ 1 _ _ _ E1.out).trans rfl
 have y2 := (cell_of_row w1 _ 2 _ _ _ E1.out).trans rfl
 have y3 := (cell_of_row w1 _ 3 _ _ _ E1.out).trans rfl
 go_wp2_with (refine jm_dig S1.out.z rfl _ rfl rfl S1.out.j ?_)
 refine (C2.out w1 (HR.out.below (below_then S.out.b hb1))).mono ?_
 rintro e w2 ⟨A2, n2, d2, rfl, r2, hb2⟩
 have S2 := Lib.hid (S1.out.up hb2)
 have R2 := Lib.hid r2
 clear r2 c0 c1 c2 c3 c4 c37 c38 c39 c40 c41 c76 c77 fz y0 y1 y2 y3
 go_wp2_with (first | (refine rc_fresh rfl _ _ rfl rfl rfl w2 rfl rfl rcZD ?_; intro X3 q3 x3; have S3 := Lib.hid (S2.out.up x3)) | (refine jm_load S3.out.z rfl _ rfl rfl S3.out.j ?_) | (refine jm_store S3.out.z jmZ_z rfl _ _ rfl rfl rfl S3.out.o ?_; intro X zX qX bX nX))
 refine bodyPost_ret (dresults_cell_tmp Tryz.results15 _ _ (w.heap.size + 2) 36 _ (0, 0) _ rfl qX Tryz.underlying36 rfl (jm_info S3.out.z)) rfl ?_
 have bF := S3.out.b.trans (bX w.heap.size (by omega))
 exact ⟨m, rfl, HI.out.below bF, bF⟩
set_option maxRecDepth 100000 in
theorem refApp14_full (P : Nat → Prop) (m : Jm) (wl jl : List Jb) (sm t : Nat) (k : Int) (c : Nat) (A : Option Addr) (n cp : Nat) (b : List UInt8) (w : World) (hv : JIn P w m (m.of wl jl)) (hP : ∀ j, P j → j < w.heap.size) (hr : RdB w A n cp b) (hsm : sm < 4294967296) (ht : t < 18446744073709551616) (hk : -9223372036854775808 ≤ k ∧ k ≤ 9223372036854775807) (hc : c < 18446744073709551616) (hck : jnChk (m.of wl jl) = true) (hp : ¬ m.ph = 7) (hq : rcChk k c b.length = true) (hf : m.room = (m.next : Int)) :
  Calls Tryz.prog 15 #[.agg (jmV m).toArray, .int .u32 (sm : Int), .agg #[.int .u64 (t : Int), .int .i64 k, .int .u64 (c : Int), .slice A n cp]] w (RetJ P w (m.of wl jl) (4)) := by
 obtain ⟨V, hV⟩ : ∃ V, V = ((w.alloc (.cells (jmV m).toArray 36)).alloc (.cells #[.int .u64 (t : Int), .int .i64 k, .int .u64 (c : Int), .slice A n cp] 49)).alloc (.cells Tryz.zeroCells36 36) := ⟨_, rfl⟩
 obtain ⟨s0, e0, zV⟩ := js_new3 hv hV
 have S := Lib.hid s0
 have HV := Lib.hid hV
 have ZV := Lib.hid zV
 have EV := Lib.hid e0
 have C := Lib.hid (refCheck14_any P m (m.of wl jl) V (hv.below S.out.b))
 rw [hck] at C
 have p7 : (m.ph == 7) = false := beq_eq_false_iff_ne.2 hp
 have C2 := Lib.hid (fun W (h : RdB W A n cp b) => refMake12_any m.ch hv.1.ch m.g m.next sm t k c A n cp b W hv.1.g hv.1.next hsm ht hk hc h)
 obtain ⟨R, hR⟩ : ∃ R, rcMk m.ch ⟨m.g, m.next, sm, t, k, c, b, List.replicate 32 0⟩ = R := ⟨rcMk m.ch ⟨m.g, m.next, sm, t, k, c, b, List.replicate 32 0⟩, rfl⟩
 rw [show rcMkR m.ch ⟨m.g, m.next, sm, t, k, c, b, List.replicate 32 0⟩ = R by unfold rcMkR Rc.chk; rw [if_pos hq, hR], show rcMkE ⟨m.g, m.next, sm, t, k, c, b, List.replicate 32 0⟩ = 0 by unfold rcMkE Rc.chk; rw [if_pos hq]] at C2
 have hRok : R.ok := by rw [← hR]; exact rcMk_ok _ _ ⟨hv.1.g, hv.1.next, hsm, ht, hk, hc, by simp⟩
 have HRO := Lib.hid hRok
 have HRE := Lib.hid hR
 have hRc : R.chk = true := by rw [← hR]; exact hq
 have hnx : m.next < 4294967296 := hv.1.next
 have wn : IntKind.i64.wrap (m.next : Int) = (m.next : Int) := IntWalk.i64_in _ (by omega)
 have d1 : ((m.next : Int) == m.room) = true := by rw [hf]; exact beq_self_eq_true _
 clear hck hp hq hsm ht hk hc hR hRok hRc hf
 have HI := Lib.hid hv
 have HP := Lib.hid hP
 have HR := Lib.hid hr
 clear hV zV hv hP s0 e0 hr
 go_enter Tryz.func15, Tryz.ntmps15
 go_wp2_with (first | (rw [← HV.out]) | (refine jm_load S.out.z rfl _ rfl rfl S.out.j ?_))
 refine C.out.mono ?_
 rintro e w1 ⟨rfl, hb1⟩
 have S1 := Lib.hid (S.out.up hb1)
 have E1 := Lib.hid (drw_up EV.out hb1)
 obtain ⟨⟨c0, c1, c2, c3, c4⟩, ⟨c37, c38, c39, c40, c41, c76, c77⟩, fz⟩ := S1.out.j.cells S1.out.z
 have y0 := (cell_of_row w1 _ 0 _ _ _ E1.out).trans rfl
 have y1 := (cell_of_row w1 _ 1 _ _ _ E1.out).trans rfl
 have y2 := (cell_of_row w1 _ 2 _ _ _ E1.out).trans rfl
 have y3 := (cell_of_row w1 _ 3 _ _ _ E1.out).trans rfl
 go_wp2_with (refine jm_dig S1.out.z rfl _ rfl rfl S1.out.j ?_)
 refine (C2.out w1 (HR.out.below (below_then S.out.b hb1))).mono ?_
 rintro e w2 ⟨A2, n2, d2, rfl, r2, hb2⟩
 have S2 := Lib.hid (S1.out.up hb2)
 have R2 := Lib.hid r2
 clear r2 c0 c1 c2 c3 c4 c37 c38 c39 c40 c41 c76 c77 fz y0 y1 y2 y3
 go_wp2_with (first | (refine rc_fresh rfl _ _ rfl rfl rfl w2 rfl rfl HRO.out.2.2.2.2.2.2 ?_; intro X3 q3 x3; have S3 := Lib.hid (S2.out.up x3); obtain ⟨⟨c0, c1, c2, c3, c4⟩, ⟨c37, c38, c39, c40, c41, c76, c77⟩, fz⟩ := S3.out.j.cells S3.out.z) | (refine jm_load S3.out.z rfl _ rfl rfl S3.out.j ?_) | (refine jm_store S3.out.z jmZ_z rfl _ _ rfl rfl rfl S3.out.o ?_; intro X zX qX bX nX))
 refine bodyPost_ret (dresults_cell_tmp Tryz.results15 _ _ (w.heap.size + 2) 36 _ (0, 0) _ rfl qX Tryz.underlying36 rfl (jm_info S3.out.z)) rfl ?_
 have bF := S3.out.b.trans (bX w.heap.size (by omega))
 exact ⟨m, rfl, HI.out.below bF, bF⟩
set_option maxRecDepth 100000 in
theorem refApp14_yes (P : Nat → Prop) (m : Jm) (wl jl : List Jb) (sm t : Nat) (k : Int) (c : Nat) (A : Option Addr) (n cp : Nat) (b : List UInt8) (w : World) (hv : JIn P w m (m.of wl jl)) (hP : ∀ j, P j → j < w.heap.size) (hr : RdB w A n cp b) (hsm : sm < 4294967296) (ht : t < 18446744073709551616) (hk : -9223372036854775808 ≤ k ∧ k ≤ 9223372036854775807) (hc : c < 18446744073709551616) (hck : jnChk (m.of wl jl) = true) (hp : ¬ m.ph = 7) (hq : rcChk k c b.length = true) (hf : (m.next : Int) < m.room) (hrm : m.room ≤ 158) (hwn : m.wn ≤ 158) :
  Calls Tryz.prog 15 #[.agg (jmV m).toArray, .int .u32 (sm : Int), .agg #[.int .u64 (t : Int), .int .i64 k, .int .u64 (c : Int), .slice A n cp]] w (RetJ P w (({ m with next := m.next + 1, ch := (rcMk m.ch ⟨m.g, m.next, sm, t, k, c, b, List.replicate 32 0⟩).D } : Jm).of (wl ++ [(((98 + m.next : Nat) : Int), rcPutL (rcMk m.ch ⟨m.g, m.next, sm, t, k, c, b, List.replicate 32 0⟩))]) jl) (0)) := by
 obtain ⟨V, hV⟩ : ∃ V, V = ((w.alloc (.cells (jmV m).toArray 36)).alloc (.cells #[.int .u64 (t : Int), .int .i64 k, .int .u64 (c : Int), .slice A n cp] 49)).alloc (.cells Tryz.zeroCells36 36) := ⟨_, rfl⟩
 obtain ⟨s0, e0, zV⟩ := js_new3 hv hV
 have S := Lib.hid s0
 have HV := Lib.hid hV
 have ZV := Lib.hid zV
 have EV := Lib.hid e0
 have C := Lib.hid (refCheck14_any P m (m.of wl jl) V (hv.below S.out.b))
 rw [hck] at C
 have p7 : (m.ph == 7) = false := beq_eq_false_iff_ne.2 hp
 have C2 := Lib.hid (fun W (h : RdB W A n cp b) => refMake12_any m.ch hv.1.ch m.g m.next sm t k c A n cp b W hv.1.g hv.1.next hsm ht hk hc h)
 obtain ⟨R, hR⟩ : ∃ R, rcMk m.ch ⟨m.g, m.next, sm, t, k, c, b, List.replicate 32 0⟩ = R := ⟨rcMk m.ch ⟨m.g, m.next, sm, t, k, c, b, List.replicate 32 0⟩, rfl⟩
 rw [show rcMkR m.ch ⟨m.g, m.next, sm, t, k, c, b, List.replicate 32 0⟩ = R by unfold rcMkR Rc.chk; rw [if_pos hq, hR], show rcMkE ⟨m.g, m.next, sm, t, k, c, b, List.replicate 32 0⟩ = 0 by unfold rcMkE Rc.chk; rw [if_pos hq]] at C2
 have hRok : R.ok := by rw [← hR]; exact rcMk_ok _ _ ⟨hv.1.g, hv.1.next, hsm, ht, hk, hc, by simp⟩
 have HRO := Lib.hid hRok
 have HRE := Lib.hid hR
 have hRc : R.chk = true := by rw [← hR]; exact hq
 have hnx : m.next < 4294967296 := hv.1.next
 have wn : IntKind.i64.wrap (m.next : Int) = (m.next : Int) := IntWalk.i64_in _ (by omega)
 have d1 : ((m.next : Int) == m.room) = false := beq_eq_false_iff_ne.2 (by omega)
 have hnx2 : m.next < 158 := by omega
 obtain ⟨NX, hNX⟩ : ∃ q, q = m.next + 1 := ⟨m.next + 1, rfl⟩
 obtain ⟨NA, hNA⟩ : ∃ q, q = 98 + m.next := ⟨98 + m.next, rfl⟩
 have e1 : IntKind.u32.wrap ((m.next : Int) + 1) = (NX : Int) := by rw [IntKind.wrap_u32]; omega
 have e2 : IntKind.i64.wrap (98 + (m.next : Int)) = (NA : Int) := by rw [IntWalk.i64_in _ (by omega)]; omega
 obtain ⟨us, hus⟩ := hv.2.2.1
 have HUS := Lib.hid hus
 have hJQ : JIn (fun j => P j ∨ w.heap.size ≤ j ∧ j < w.heap.size + 3) V m (m.of wl jl) := hv.more S.out.b (fun j hj => hj.elim .inl (fun h => .inr h.1))
 obtain ⟨us, hus⟩ := hJQ.2.2.1
 have HUS := Lib.hid hus
 have C3 := Lib.hid (fun A2 n2 d2 W (h : RdB W A2 n2 d2 R.b) => refPut12_any R A2 n2 d2 W hRok h)
 obtain ⟨Y, hY⟩ : ∃ Y, rcPutL R = Y := ⟨_, rfl⟩
 rw [hY] at C3
 have HY := Lib.hid hY
 have HWN := Lib.hid hwn
 have HNX := Lib.hid hnx2
 have HNXE := Lib.hid hNX
 have HNAE := Lib.hid hNA
 clear hNX hNA
 clear hck hp hq hsm ht hk hc hR hRok hRc hf hus hJQ hY hwn hrm
 have HI := Lib.hid hv
 have HP := Lib.hid hP
 have HR := Lib.hid hr
 clear hV zV hv hP s0 e0 hr
 go_enter Tryz.func15, Tryz.ntmps15
 go_wp2_with (first | (rw [← HV.out]) | (refine jm_load S.out.z rfl _ rfl rfl S.out.j ?_))
 refine C.out.mono ?_
 rintro e w1 ⟨rfl, hb1⟩
 have S1 := Lib.hid (S.out.up hb1)
 have E1 := Lib.hid (drw_up EV.out hb1)
 obtain ⟨⟨c0, c1, c2, c3, c4⟩, ⟨c37, c38, c39, c40, c41, c76, c77⟩, fz⟩ := S1.out.j.cells S1.out.z
 have y0 := (cell_of_row w1 _ 0 _ _ _ E1.out).trans rfl
 have y1 := (cell_of_row w1 _ 1 _ _ _ E1.out).trans rfl
 have y2 := (cell_of_row w1 _ 2 _ _ _ E1.out).trans rfl
 have y3 := (cell_of_row w1 _ 3 _ _ _ E1.out).trans rfl
 go_wp2_with (refine jm_dig S1.out.z rfl _ rfl rfl S1.out.j ?_)
 refine (C2.out w1 (HR.out.below (below_then S.out.b hb1))).mono ?_
 rintro e w2 ⟨A2, n2, d2, rfl, r2, hb2⟩
 have S2 := Lib.hid (S1.out.up hb2)
 have R2 := Lib.hid r2
 clear r2 c0 c1 c2 c3 c4 c37 c38 c39 c40 c41 c76 c77 fz y0 y1 y2 y3
 go_wp2_with (first | (refine rc_fresh rfl _ _ rfl rfl rfl w2 rfl rfl HRO.out.2.2.2.2.2.2 ?_; intro X3 q3 x3; have S3 := Lib.hid (S2.out.up x3); obtain ⟨⟨c0, c1, c2, c3, c4⟩, ⟨c37, c38, c39, c40, c41, c76, c77⟩, fz⟩ := S3.out.j.cells S3.out.z) | (refine rc_load rfl _ rfl rfl q3.out HRO.out.2.2.2.2.2.2 ?_))
 refine (C3.out A2 n2 d2 X3 (R2.out.below x3)).mono ?_
 rintro e w4 ⟨A4, n4, d4, rfl, o4, hb4⟩
 have S4 := Lib.hid (S3.out.up hb4)
 have O4 := Lib.hid o4
 have q4 := Lib.hid (drw_up q3.out hb4)
 clear o4 c0 c1 c2 c3 c4 c37 c38 c39 c40 c41 c76 c77 fz
 obtain ⟨⟨c0, c1, c2, c3, c4⟩, ⟨c37, c38, c39, c40, c41, c76, c77⟩, fz⟩ := S4.out.j.cells S4.out.z
 have lq := S4.out.j.lt
 have B4 : Hid (Below V.heap.size V w4) := Lib.hid (below_then hb1 (below_then hb2 (below_then x3 hb4)))
 go_wp2_with fail
 have lV : V.heap.size ≤ w4.heap.size := B4.out.size
 apply cutA7 (R := fun U g0 A3 c3 g10 A c => Hid (U.ownsRow w4.heap.size 60 2 (.slice A (m.wn + 1) c) (m.wn + 1) (us ++ [.int .i64 (NA : Int), .slice A4 n4 d4])) ∧ Below w4.heap.size w4 U)
 rotate_left
 ·intro TL
  have k37 := c37
  have k2 := c2
  have HX : Below w4.heap.size w4 w4.drew := (Below.refl _ w4).drew
  refine wp_region_segY (S := fun w' => Below w4.heap.size w4 w') 13 6 (brw9 14 1014) [(1, true), (2, true), (4, true), (5, true), (6, true), (7, true), (8, true), (9, true)] (by kernel_rfl) (by kernel_rfl) (fun _ _ d _ _ h => by first | (cases d <;> exact h) | cases h.1) ((Below.refl w4.heap.size w4).drew) ?_
  have HB := (Below.refl w4.heap.size w4).drew
  iterate 8 (refine seg_take (v := ?_) rfl (Or.inl ⟨by rfl, ?_⟩) ?_; rotate_left; (focus (intro w' hw'; have j0 := (hw'.cell (p := ⟨w.heap.size, 37, none⟩) lq).trans k37; have j1 := (hw'.cell (p := ⟨w.heap.size, 2, none⟩) lq).trans k2; go_simp <;> with_reducible rfl)); try simp only [Act.put, pst3])
  refine seg_done (fun _ => ?_)
  refine wpAnyY_two (i := 0) (j := 10) (f := 5) (by kernel_rfl) ?_ ?_
  ·skip
   refine op_run rfl (fun K hK => ?_)
   rw [if_pos (by rfl)]
   refine op_litK #[] 60 0 (fun w => by go_simp) ?_
   intro g0 w0 e0 r0 b0 z0
   have le0 : w4.heap.size ≤ g0 := by have := HX.size; omega
   try have hne : g0 ≠ g10 := by have := drw_lt r10; omega
   try have r10 := drw_up r10 b0
   have o0 : w0.ownsRow g0 60 2 (.slice (some ⟨g0, 0, none⟩) 0 0) 0 [] := own_emptyK r0
   have HX := below_then HX b0
   have HB := HX
   refine hK.out _ _ (HB) ?_
   clear hK
   try simp only [Act.put, pst3]
   refine wpAnyY_seg' (by kernel_rfl) (fun _ _ d _ _ h => by first | (cases d <;> exact h) | cases h.1) 5 (brw9 14 1015) [] _ _ _ (by kernel_rfl) (by kernel_rfl) (HB) ?_
   refine seg_done (fun _ => ?_)
   refine wpAnyY_two (i := 3) (j := 10) (f := 4) (by kernel_rfl) ?_ ?_
   ·skip
    refine op_run rfl (fun K hK => ?_)
    rw [if_pos (by rfl)]
    have hus := HUS.out _ (AgrP.of (AgrP.refl _ _) (below_then B4.out HX))
    refine op_appQ elJ (by decide) _ _ rfl g0 _ 0 [] rfl o0 m.wa m.wn m.wc us rfl hus.1 (by have := hus.2.1; omega) (wcells_one hus.2.2.2.2) (by have := HWN.out; omega) (Nat.le_of_lt (drw_lt r0)) m.wn us (by omega) rfl ?_
    intro A3 c3 w3 o3 g3 n3
    have o3 := own_monoK o3 le0
    try have r10 := (g3.block g10 (drw_lt r10) (fun e => hne (by injection e with e; exact e.symm))).trans r10
    have HX := grown_beyond HX g3 (fun j hj => by obtain ⟨a', h1, h2⟩ := hj; injection h1 with h1; subst h1; simp only at h2; omega)
    have HB := HX
    clear g3 n3 hus
    refine hK.out _ _ (HB) ?_
    clear hK
    try simp only [Act.put, pst3]
    refine wpAnyY_seg' (by kernel_rfl) (fun _ _ d _ _ h => by first | (cases d <;> exact h) | cases h.1) 1 (brw9 14 8191) [(10, false), (11, false), (12, true)] _ _ _ (by kernel_rfl) (by kernel_rfl) (HB) ?_
    refine seg_run rfl (fun K hK => ?_)
    rw [if_pos (by rfl)]
    refine op_litK #[.int .i64 (NA : Int), .slice A4 n4 d4] 60 1 (fun w => by go_simp) ?_
    intro g10 w10 e10 r10 b10 z10
    try have hne : g0 ≠ g10 := by have := drw_lt r0; omega
    try have r0 := drw_up r0 b10
    try have o0 := own_up o0 b10
    try have o3 := own_up o3 b10
    have HX := below_then HX b10
    have HB := HX
    refine hK.out _ _ (HB) ?_
    clear hK
    try simp only [Act.put, pst3]
    refine seg_run rfl (fun K hK => ?_)
    rw [if_pos (by rfl)]
    refine op_appQ elJ (by decide) _ _ rfl w4.heap.size _ m.wn us rfl o3 (some ⟨g10, 0, none⟩) 1 1 [.int .i64 (NA : Int), .slice A4 n4 d4] rfl (rd_rowC r10) rfl (by simp [Value.oneCell']) (by have := HWN.out; omega) HX.size (m.wn + 1) _ rfl rfl ?_
    intro A11 c11 w11 o11 g11 n11
    have HX := grown_beyond HX g11 (fun j hj => by have := (own_typ o3 hj).1; omega)
    have HB := HX
    have c37 := (S4.out.up HX).j.c37 S4.out.z
    have f37 := (S4.out.up HX).j.fr 37
    clear g11 n11
    refine hK.out _ _ (HB) ?_
    clear hK
    try simp only [Act.put, pst3]
    iterate 1 (refine seg_take (v := ?_) rfl (Or.inl ⟨by rfl, ?_⟩) ?_; rotate_left; (focus (intro w' hw'; have j0 := (hw'.cell (p := ⟨w.heap.size, 37, none⟩) lq).trans k37; have j1 := (hw'.cell (p := ⟨w.heap.size, 2, none⟩) lq).trans k2; go_simp <;> with_reducible rfl)); try simp only [Act.put, pst3])
    refine seg_done (fun _ => ?_)
    refine wpAnyY_gate (by kernel_rfl) ?_
    refine op_run rfl (fun K hK => ?_)
    go_simp
    skip
    refine hK.out _ _ (trivial) ?_
    clear hK
    try simp only [Act.put, pst3]
    refine wpAnyH_seg (by kernel_rfl) (fun _ _ d _ _ h => by first | (cases d <;> exact h) | cases h.1) 0 (brw9 14 16383) [] _ _ _ (by kernel_rfl) (trivial) ?_
    refine seg_done (fun _ => ?_)
    refine wpAnyH_done (by kernel_rfl) ?_ _
    exact TL w11 g0 A3 c3 g10 A11 c11 ⟨Lib.hid o11, HX⟩
   ·skip
    refine op_run rfl (fun K hK => ?_)
    rw [if_pos (by rfl)]
    refine op_litK #[.int .i64 (NA : Int), .slice A4 n4 d4] 60 1 (fun w => by go_simp) ?_
    intro g10 w10 e10 r10 b10 z10
    try have hne : g0 ≠ g10 := by have := drw_lt r0; omega
    try have r0 := drw_up r0 b10
    try have o0 := own_up o0 b10
    try have o3 := own_up o3 b10
    have HX := below_then HX b10
    have HB := HX
    refine hK.out _ _ (HB) ?_
    clear hK
    try simp only [Act.put, pst3]
    refine wpAnyY_seg' (by kernel_rfl) (fun _ _ d _ _ h => by first | (cases d <;> exact h) | cases h.1) 1 (brw9 14 8191) [(3, false), (11, false), (12, true)] _ _ _ (by kernel_rfl) (by kernel_rfl) (HB) ?_
    refine seg_run rfl (fun K hK => ?_)
    rw [if_pos (by rfl)]
    have hus := HUS.out _ (AgrP.of (AgrP.refl _ _) (below_then B4.out HX))
    refine op_appQ elJ (by decide) _ _ rfl g0 _ 0 [] rfl o0 m.wa m.wn m.wc us rfl hus.1 (by have := hus.2.1; omega) (wcells_one hus.2.2.2.2) (by have := HWN.out; omega) (Nat.le_of_lt (drw_lt r0)) m.wn us (by omega) rfl ?_
    intro A3 c3 w3 o3 g3 n3
    have o3 := own_monoK o3 le0
    try have r10 := (g3.block g10 (drw_lt r10) (fun e => hne (by injection e with e; exact e.symm))).trans r10
    have HX := grown_beyond HX g3 (fun j hj => by obtain ⟨a', h1, h2⟩ := hj; injection h1 with h1; subst h1; simp only at h2; omega)
    have HB := HX
    clear g3 n3 hus
    refine hK.out _ _ (HB) ?_
    clear hK
    try simp only [Act.put, pst3]
    refine seg_run rfl (fun K hK => ?_)
    rw [if_pos (by rfl)]
    refine op_appQ elJ (by decide) _ _ rfl w4.heap.size _ m.wn us rfl o3 (some ⟨g10, 0, none⟩) 1 1 [.int .i64 (NA : Int), .slice A4 n4 d4] rfl (rd_rowC r10) rfl (by simp [Value.oneCell']) (by have := HWN.out; omega) HX.size (m.wn + 1) _ rfl rfl ?_
    intro A11 c11 w11 o11 g11 n11
    have HX := grown_beyond HX g11 (fun j hj => by have := (own_typ o3 hj).1; omega)
    have HB := HX
    have c37 := (S4.out.up HX).j.c37 S4.out.z
    have f37 := (S4.out.up HX).j.fr 37
    clear g11 n11
    refine hK.out _ _ (HB) ?_
    clear hK
    try simp only [Act.put, pst3]
    iterate 1 (refine seg_take (v := ?_) rfl (Or.inl ⟨by rfl, ?_⟩) ?_; rotate_left; (focus (intro w' hw'; have j0 := (hw'.cell (p := ⟨w.heap.size, 37, none⟩) lq).trans k37; have j1 := (hw'.cell (p := ⟨w.heap.size, 2, none⟩) lq).trans k2; go_simp <;> with_reducible rfl)); try simp only [Act.put, pst3])
    refine seg_done (fun _ => ?_)
    refine wpAnyY_gate (by kernel_rfl) ?_
    refine op_run rfl (fun K hK => ?_)
    go_simp
    skip
    refine hK.out _ _ (trivial) ?_
    clear hK
    try simp only [Act.put, pst3]
    refine wpAnyH_seg (by kernel_rfl) (fun _ _ d _ _ h => by first | (cases d <;> exact h) | cases h.1) 0 (brw9 14 16383) [] _ _ _ (by kernel_rfl) (trivial) ?_
    refine seg_done (fun _ => ?_)
    refine wpAnyH_done (by kernel_rfl) ?_ _
    exact TL w11 g0 A3 c3 g10 A11 c11 ⟨Lib.hid o11, HX⟩
  ·skip
   refine op_run rfl (fun K hK => ?_)
   rw [if_pos (by rfl)]
   refine op_litK #[.int .i64 (NA : Int), .slice A4 n4 d4] 60 1 (fun w => by go_simp) ?_
   intro g10 w10 e10 r10 b10 z10
   try have hne : g0 ≠ g10 := by have := drw_lt r0; omega
   try have r0 := drw_up r0 b10
   try have o0 := own_up o0 b10
   try have o3 := own_up o3 b10
   have HX := below_then HX b10
   have HB := HX
   refine hK.out _ _ (HB) ?_
   clear hK
   try simp only [Act.put, pst3]
   refine wpAnyY_seg' (by kernel_rfl) (fun _ _ d _ _ h => by first | (cases d <;> exact h) | cases h.1) 1 (brw9 14 8191) [(0, false), (3, false), (11, false), (12, true)] _ _ _ (by kernel_rfl) (by kernel_rfl) (HB) ?_
   refine seg_run rfl (fun K hK => ?_)
   rw [if_pos (by rfl)]
   refine op_litK #[] 60 0 (fun w => by go_simp) ?_
   intro g0 w0 e0 r0 b0 z0
   have le0 : w4.heap.size ≤ g0 := by have := HX.size; omega
   try have hne : g0 ≠ g10 := by have := drw_lt r10; omega
   try have r10 := drw_up r10 b0
   have o0 : w0.ownsRow g0 60 2 (.slice (some ⟨g0, 0, none⟩) 0 0) 0 [] := own_emptyK r0
   have HX := below_then HX b0
   have HB := HX
   refine hK.out _ _ (HB) ?_
   clear hK
   try simp only [Act.put, pst3]
   refine seg_run rfl (fun K hK => ?_)
   rw [if_pos (by rfl)]
   have hus := HUS.out _ (AgrP.of (AgrP.refl _ _) (below_then B4.out HX))
   refine op_appQ elJ (by decide) _ _ rfl g0 _ 0 [] rfl o0 m.wa m.wn m.wc us rfl hus.1 (by have := hus.2.1; omega) (wcells_one hus.2.2.2.2) (by have := HWN.out; omega) (Nat.le_of_lt (drw_lt r0)) m.wn us (by omega) rfl ?_
   intro A3 c3 w3 o3 g3 n3
   have o3 := own_monoK o3 le0
   try have r10 := (g3.block g10 (drw_lt r10) (fun e => hne (by injection e with e; exact e.symm))).trans r10
   have HX := grown_beyond HX g3 (fun j hj => by obtain ⟨a', h1, h2⟩ := hj; injection h1 with h1; subst h1; simp only at h2; omega)
   have HB := HX
   clear g3 n3 hus
   refine hK.out _ _ (HB) ?_
   clear hK
   try simp only [Act.put, pst3]
   refine seg_run rfl (fun K hK => ?_)
   rw [if_pos (by rfl)]
   refine op_appQ elJ (by decide) _ _ rfl w4.heap.size _ m.wn us rfl o3 (some ⟨g10, 0, none⟩) 1 1 [.int .i64 (NA : Int), .slice A4 n4 d4] rfl (rd_rowC r10) rfl (by simp [Value.oneCell']) (by have := HWN.out; omega) HX.size (m.wn + 1) _ rfl rfl ?_
   intro A11 c11 w11 o11 g11 n11
   have HX := grown_beyond HX g11 (fun j hj => by have := (own_typ o3 hj).1; omega)
   have HB := HX
   have c37 := (S4.out.up HX).j.c37 S4.out.z
   have f37 := (S4.out.up HX).j.fr 37
   clear g11 n11
   refine hK.out _ _ (HB) ?_
   clear hK
   try simp only [Act.put, pst3]
   iterate 1 (refine seg_take (v := ?_) rfl (Or.inl ⟨by rfl, ?_⟩) ?_; rotate_left; (focus (intro w' hw'; have j0 := (hw'.cell (p := ⟨w.heap.size, 37, none⟩) lq).trans k37; have j1 := (hw'.cell (p := ⟨w.heap.size, 2, none⟩) lq).trans k2; go_simp <;> with_reducible rfl)); try simp only [Act.put, pst3])
   refine seg_done (fun _ => ?_)
   refine wpAnyY_gate (by kernel_rfl) ?_
   refine op_run rfl (fun K hK => ?_)
   go_simp
   skip
   refine hK.out _ _ (trivial) ?_
   clear hK
   try simp only [Act.put, pst3]
   refine wpAnyH_seg (by kernel_rfl) (fun _ _ d _ _ h => by first | (cases d <;> exact h) | cases h.1) 0 (brw9 14 16383) [] _ _ _ (by kernel_rfl) (trivial) ?_
   refine seg_done (fun _ => ?_)
   refine wpAnyH_done (by kernel_rfl) ?_ _
   exact TL w11 g0 A3 c3 g10 A11 c11 ⟨Lib.hid o11, HX⟩
 rintro w6 g0 Aq cq g10 A6 c6 ⟨o6h, HB6⟩
 have o6 := o6h.out
 have S6 := Lib.hid (S4.out.up HB6)
 have QD7 := Lib.hid (drw_up q4.out HB6)
 have HB6h := Lib.hid HB6
 have HO6 := Lib.hid o6
 clear c0 c1 c2 c3 c4 c37 c38 c39 c40 c41 c76 c77 fz lq
 obtain ⟨⟨c0, c1, c2, c3, c4⟩, ⟨c37, c38, c39, c40, c41, c76, c77⟩, fz⟩ := S6.out.j.cells S6.out.z
 obtain ⟨m7, Y7, HM7, HY7, S7⟩ := ((S6.out.s37 A6 (m.wn + 1) c6).s2 NX).named
 have hq7 : RcAt Y7 w2.heap.size R A2 n2 d2 := by
  have n2 : w.heap.size ≠ w2.heap.size := by have := S2.out.j.lt; omega
  rw [HY7.out]; exact (setc_rowO n2).trans ((setc_rowO n2).trans QD7.out)
 have Q7 := Lib.hid hq7
 clear hq7 HB6 o6 o6h
 go_wp2_with (first
  | (rw [← HY7.out]; refine wpList_load_mid rfl 30 _ rfl w2.heap.size 7 rfl (R.D.map vB) _ (rd_range (Q7.out.dig HRO.out.2.2.2.2.2.2)) Tryz.underlying30 rfl (by rw [List.length_map, HRO.out.2.2.2.2.2.2]; kernel_rfl) ?_)
  | (refine jm_dset2 S7.out.z rfl _ _ rfl rfl S7.out.j R.D rfl HRO.out.2.2.2.2.2.2 ?_; intro X8 z8 q8 b8 n8; have S8 := Lib.hid (S7.out.other q8 ⟨HRO.out.2.2.2.2.2.2, S7.out.z.2⟩ n8 (b8 _ S7.out.n.1)))
  | (refine jm_load S8.out.z rfl _ rfl rfl S8.out.j ?_) | (refine jm_store S8.out.z jmZ_z rfl _ _ rfl rfl rfl S8.out.o ?_; intro X zX qX bX nX))
 refine bodyPost_ret (dresults_cell_tmp Tryz.results15 _ _ (w.heap.size + 2) 36 _ (0, 0) _ rfl qX Tryz.underlying36 rfl (jm_info S8.out.z)) rfl ?_
 have bF := S8.out.b.trans (bX w.heap.size (by omega))
 have sz3 : w.heap.size + 3 ≤ X3.heap.size := by have := hb1.size; have := hb2.size; have := x3.size; have := ZV.out; omega
 have sz5 : X3.heap.size ≤ w4.heap.size := hb4.size
 have hQ : ∀ j, (P j ∨ w.heap.size ≤ j ∧ j < w.heap.size + 3) → j < w.heap.size + 3 := fun j hj => by
  rcases hj with h | h
  ·have := HP.out j h; omega
  ·omega
 have hws : WsIn (fun j => P j ∨ w.heap.size ≤ j ∧ j < w.heap.size + 3) w6 A6 (m.wn + 1) c6 (wl ++ [((NA : Int), Y)]) :=
  ws_app HUS.out (below_then B4.out HB6h.out) HO6.out (fun j hj => by have := hQ j hj; omega) (O4.out.upB HB6h.out) (fun j hj => by have := hQ j hj; omega) (by have := HNX.out; have := HNAE.out; omega)
 have hh : (fun j => P j ∨ w.heap.size ≤ j ∧ j < w.heap.size + 3) w.heap.size := .inr ⟨Nat.le_refl _, by omega⟩
 have hag7 : AgrP (fun j => P j ∨ w.heap.size ≤ j ∧ j < w.heap.size + 3) w6 Y7 := by rw [HY7.out]; exact ((AgrP.refl _ w6).set hh _).set hh _
 have hag : AgrP (fun j => P j ∨ w.heap.size ≤ j ∧ j < w.heap.size + 3) w6 X := (hag7.one hh z8 n8).one (.inr ⟨by omega, by omega⟩) zX nX
 have hwx := (hws.agr hag).sub (P' := P) (fun j hj => .inl hj)
 rw [← HY.out, ← HRE.out, HNAE.out] at hwx
 exact ⟨{ m7 with ch := R.D }, rfl, by
  rw [← HM7.out, ← HRE.out, HNXE.out]
  exact JIn.wt (wl' := wl ++ [(((98 + m.next : Nat) : Int), rcPutL (rcMk m.ch ⟨m.g, m.next, sm, t, k, c, b, List.replicate 32 0⟩))]) (HI.out.below bF) rfl ⟨HI.out.1.g, HI.out.1.slot, (show m.next + 1 < 4294967296 by have := HNX.out; omega), HI.out.1.done, HI.out.1.will, (show (rcMk m.ch ⟨m.g, m.next, sm, t, k, c, b, List.replicate 32 0⟩).D.length = 32 by rw [HRE.out]; exact HRO.out.2.2.2.2.2.2), HI.out.1.ph, HI.out.1.out, HI.out.1.sg, HI.out.1.ss, HI.out.1.sl, HI.out.1.sD, HI.out.1.room, HI.out.1.err⟩ ⟨rfl, rfl, rfl⟩ hwx, bF⟩
theorem refApp14_any (P : Nat → Prop) (m : Jm) (J : Jn) (sm t : Nat) (k : Int) (c : Nat) (A : Option Addr) (n cp : Nat) (b : List UInt8) (w : World) (hv : JIn P w m J) (hP : ∀ j, P j → j < w.heap.size) (hr : RdB w A n cp b) (hsm : sm < 4294967296) (ht : t < 18446744073709551616) (hk : -9223372036854775808 ≤ k ∧ k ≤ 9223372036854775807) (hc : c < 18446744073709551616) :
  Calls Tryz.prog 15 #[.agg (jmV m).toArray, .int .u32 (sm : Int), .agg #[.int .u64 (t : Int), .int .i64 k, .int .u64 (c : Int), .slice A n cp]] w (RetJ P w (jnApp J sm t k c b) (jnAppE J k c b.length)) := by
 obtain ⟨wl, jl, rfl⟩ : ∃ wl jl, J = m.of wl jl := ⟨_, _, jof hv⟩
 cases hck : jnChk (m.of wl jl) with
 | false =>
  have hg : jnGoing (m.of wl jl) = 3 := by unfold jnGoing; rw [if_neg (by simp [hck])]
  have e : jnAppE (m.of wl jl) k c b.length = 3 := by unfold jnAppE; rw [if_pos (by rw [hg]; decide), hg]
  have e2 : jnApp (m.of wl jl) sm t k c b = m.of wl jl := by unfold jnApp; rw [e]; rfl
  rw [e, e2]; exact refApp14_form P m wl jl sm t k c A n cp b w hv hP hr hsm ht hk hc hck
 | true =>
  have hg : jnGoing (m.of wl jl) = m.err := by unfold jnGoing; rw [if_pos hck]; rfl
  have hchk := hck
  unfold jnChk jnCnt at hchk
  simp only [Bool.and_eq_true, decide_eq_true_eq] at hchk
  have h1 : (0 ≤ m.room ∧ m.room ≤ 158) ∧ (m.done ≤ m.will ∧ m.will ≤ m.next) ∧ (m.next : Int) ≤ m.room ∧ wl.length = m.next - m.will := hchk.2.1
  have h2 : m.ph = 7 ↔ m.err ≠ 0 := hchk.2.2.1.2
  by_cases hp : m.ph = 7
  ·have hne := h2.1 hp
   have e : jnAppE (m.of wl jl) k c b.length = m.err := by unfold jnAppE; rw [if_pos (by rw [hg]; exact hne), hg]
   have e2 : jnApp (m.of wl jl) sm t k c b = m.of wl jl := by unfold jnApp; rw [e, if_neg hne]
   rw [e, e2]; exact refApp14_stop P m wl jl sm t k c A n cp b w hv hP hr hsm ht hk hc hck hp
  ·have he0 : m.err = 0 := Classical.byContradiction fun h => hp (h2.2 h)
   rw [he0] at hg
   cases hq : rcChk k c b.length with
   | false =>
    have e : jnAppE (m.of wl jl) k c b.length = 2 := by unfold jnAppE; rw [if_neg (fun h => h hg), if_pos hq]
    have e2 : jnApp (m.of wl jl) sm t k c b = m.of wl jl := by unfold jnApp; rw [e]; rfl
    rw [e, e2]; exact refApp14_bad P m wl jl sm t k c A n cp b w hv hP hr hsm ht hk hc hck hp hq
   | true =>
    by_cases hf : m.room ≤ (m.next : Int)
    ·have e : jnAppE (m.of wl jl) k c b.length = 4 := by unfold jnAppE; rw [if_neg (fun h => h hg), if_neg (by simp [hq]), if_pos (show (m.of wl jl).room ≤ ((m.of wl jl).next : Int) from hf)]
     have e2 : jnApp (m.of wl jl) sm t k c b = m.of wl jl := by unfold jnApp; rw [e]; rfl
     rw [e, e2]; exact refApp14_full P m wl jl sm t k c A n cp b w hv hP hr hsm ht hk hc hck hp hq (by have := h1.2.2.1; omega)
    ·have e : jnAppE (m.of wl jl) k c b.length = 0 := by unfold jnAppE; rw [if_neg (fun h => h hg), if_neg (by simp [hq]), if_neg (show ¬ (m.of wl jl).room ≤ ((m.of wl jl).next : Int) from hf)]
     obtain ⟨us, hus⟩ := hv.2.2.1.now
     have hwl : wl.length = m.wn := hus.len
     have e2 : jnApp (m.of wl jl) sm t k c b = ({ m with next := m.next + 1, ch := (rcMk m.ch ⟨m.g, m.next, sm, t, k, c, b, List.replicate 32 0⟩).D } : Jm).of (wl ++ [(((98 + m.next : Nat) : Int), rcPutL (rcMk m.ch ⟨m.g, m.next, sm, t, k, c, b, List.replicate 32 0⟩))]) jl := by unfold jnApp; rw [if_pos e]; rfl
     rw [e, e2]; exact refApp14_yes P m wl jl sm t k c A n cp b w hv hP hr hsm ht hk hc hck hp hq (by omega) h1.1.2 (by omega)
set_option maxHeartbeats 4000000
theorem refBase14_any (A : Option Addr) (n c : Nat) (xs : List UInt8) (w : World) (hr : RdB w A n c xs) (hn : n ≤ 999000) :
  Calls Tryz.prog 29 #[.slice A n c] w (RetDg w (jnBase xs)) := by
 obtain ⟨D0, hD0⟩ : ∃ D0 : Array Value, #[.int .u8 0, .int .u8 0, .int .u8 0, .int .u8 0, .int .u8 0, .int .u8 0, .int .u8 0, .int .u8 0, .int .u8 0, .int .u8 0, .int .u8 0, .int .u8 0, .int .u8 0, .int .u8 0, .int .u8 0, .int .u8 0, .int .u8 0, .int .u8 0, .int .u8 0, .int .u8 0, .int .u8 0, .int .u8 0, .int .u8 0, .int .u8 0, .int .u8 0, .int .u8 0, .int .u8 0, .int .u8 0, .int .u8 0, .int .u8 0, .int .u8 0, .int .u8 0] = D0 := ⟨#[.int .u8 0, .int .u8 0, .int .u8 0, .int .u8 0, .int .u8 0, .int .u8 0, .int .u8 0, .int .u8 0, .int .u8 0, .int .u8 0, .int .u8 0, .int .u8 0, .int .u8 0, .int .u8 0, .int .u8 0, .int .u8 0, .int .u8 0, .int .u8 0, .int .u8 0, .int .u8 0, .int .u8 0, .int .u8 0, .int .u8 0, .int .u8 0, .int .u8 0, .int .u8 0, .int .u8 0, .int .u8 0, .int .u8 0, .int .u8 0, .int .u8 0, .int .u8 0], rfl⟩
 have hD0s : D0.size = 32 := by rw [← hD0]; rfl
 obtain ⟨W1, hW1⟩ : ∃ W1, W1 = w.alloc (.cells D0 30) := ⟨_, rfl⟩
 have b1 : Below w.heap.size w W1 := by rw [hW1]; exact (below_self w).alloc (Nat.le_refl _) _
 have r1 : W1.heap[w.heap.size]? = some (.cells D0 30 (0, 0)) := by rw [hW1]; exact drw_at _ rfl
 have z1 : W1.heap.size = w.heap.size + 1 := by rw [hW1]; simp
 obtain ⟨W2, hW2⟩ : ∃ W2, W2 = W1.alloc (.cells #[] 5) := ⟨_, rfl⟩
 have b2 : Below W1.heap.size W1 W2 := by rw [hW2]; exact (below_self W1).alloc (Nat.le_refl _) _
 have o2 : OwnB W2 W1.heap.size (some ⟨w.heap.size + 1, 0, none⟩) 0 0 [] := by rw [← z1, hW2]; exact own_at0 (drw_at _ rfl) (Nat.le_refl _)
 have r2 := (hr.below b1).below b2
 have HD0 := Lib.hid hD0
 have HW1 := Lib.hid hW1
 have HW2 := Lib.hid hW2
 have R1 := Lib.hid r1
 have O2 := Lib.hid o2
 have Z1 := Lib.hid z1
 have hxl := hr.2.1
 clear hD0 hW1 hW2 r1 o2 z1
 go_enter Tryz.func29, Tryz.ntmps29
 go_wp2_with (at_builtin; first
  | (rw [HD0.out, ← HW1.out, ← HW2.out]; refine wp_appB rfl _ _ rfl b2 (Nat.le_refl _) b2.size (some ⟨w.heap.size + 1, 0, none⟩) 0 0 [] rfl O2.out A n c xs rfl r2 (by omega) n xs (by omega) (by simp) ?_; intro A3 c3 w3 ho3 hb3 hg3)
  | ((refine wp_appB rfl _ _ rfl (hb3.alloc hb3.size (.cells #[.int .u8 1] 5)) (Nat.le_refl _) (by simp; have := hb3.size; omega) A3 n c3 xs rfl (OwnB.below ho3 ((below_self w3).alloc (Nat.le_refl _) _)) (some ⟨w3.heap.size, 0, none⟩) 1 1 [1] rfl (rdK rfl #[.int .u8 1] [1] 1 rfl rfl (by simp [maxLen])) (by omega) (n + 1) (xs ++ [1]) rfl rfl ?_; intro A4 c4 w4 ho4 hb4 hg4)))
 refine (refShaOf_any A4 (n + 1) c4 (xs ++ [1]) w4 ho4.rd (by omega)).mono ?_
 rintro e w5 ⟨rfl, hb5⟩
 obtain ⟨DG, hDG⟩ : ∃ DG, jnBase xs = DG := ⟨jnBase xs, rfl⟩
 rw [show shOf (xs ++ [1]) = DG from hDG, hDG]
 have hDl : DG.length = 32 := by rw [← hDG]; exact shOf_len _
 have B5 := below_then hb4 hb5
 have R5 := Lib.hid ((B5.block (w.heap.size) (by have := Z1.out; omega)).trans R1.out)
 have B6 : Below w.heap.size w w5 := below_then b1 B5
 have HDG := Lib.hid hDG
 clear hDG
 go_wp2_with (refine dig_store rfl _ _ rfl (w.heap.size) rfl DG D0 rfl 30 R5.out hDl hD0s ?_)
 refine bodyPost_ret (results_cell_row Tryz.results29 _ _ (w.heap.size) 30 (dgA DG) (0, 0) _ rfl (setRow_heap _ _ _ (dgA DG) _ _ R5.out) Tryz.underlying30 rfl (infoD DG hDl)) rfl ?_
 exact ⟨by rw [HDG.out], below_setRow B6 (by omega) _⟩
def spC (state : List UInt8) (i k : Nat) : List UInt8 := ((state.drop (256 * i)).take k ++ List.replicate 256 0).take 256
theorem spC_zero (state : List UInt8) (i : Nat) : spC state i 0 = List.replicate 256 0 := by unfold spC; simp
theorem spC_next (state : List UInt8) (i k : Nat) (hk : k < 256) (h : 256 * i + k < state.length) : (spC state i k).set k (state.getD (256 * i + k) 0) = spC state i (k + 1) := by
 unfold spC
 have h1 : ((state.drop (256 * i)).take k).length = k := by rw [List.length_take, List.length_drop]; omega
 have h2 : (state.drop (256 * i)).take (k + 1) = (state.drop (256 * i)).take k ++ [state.getD (256 * i + k) 0] := by
  rw [List.take_add_one, List.getElem?_drop, List.getElem?_eq_getElem h, List.getD_eq_getElem?_getD, List.getElem?_eq_getElem h]; rfl
 rw [h2]
 apply List.ext_getElem?
 intro j
 rw [List.getElem?_set, List.getElem?_take, List.getElem?_take, List.append_assoc]
 by_cases hj : k = j
 ·subst hj
  rw [if_pos rfl, if_pos (by simp; omega), if_pos hk, List.getElem?_append_right (by omega), h1, Nat.sub_self]; rfl
 ·rw [if_neg hj]
  by_cases hj2 : j < 256
  ·rw [if_pos hj2, if_pos hj2]
   rcases Nat.lt_or_ge j k with hl | hl
   ·rw [List.getElem?_append_left (by omega), List.getElem?_append_left (by omega)]
   ·rw [List.getElem?_append_right (by omega), List.getElem?_append_right (by omega), h1]
    obtain ⟨q, hq⟩ : ∃ q, j - k = q + 1 := ⟨j - k - 1, by omega⟩
    rw [hq, List.singleton_append, List.getElem?_cons_succ, List.getElem?_replicate, List.getElem?_replicate, if_pos (by omega), if_pos (by omega)]
  ·rw [if_neg hj2, if_neg hj2]
theorem spC_all (state : List UInt8) (i k : Nat) (h : k = 256 ∨ 256 * i + k = state.length) (hk : k ≤ 256) : spC state i k = jnSec state i := by
 rcases h with rfl | h
 ·rfl
 ·unfold spC jnSec
  have : (state.drop (256 * i)).take k = (state.drop (256 * i)).take 256 := by
   rw [List.take_of_length_le (by rw [List.length_drop]; omega), List.take_of_length_le (by rw [List.length_drop]; omega)]
  rw [this]
def Sp14I (w : World) (at0 M : Nat) (state : List UInt8) (vo vi vb vk : Value) (wr : World) : Prop := ∃ (i : Nat) (A : Option Addr) (c : Nat), i ≤ M ∧ vo = .slice A i c ∧ vi = .int .i64 (i : Int) ∧ Hid (OwJ wr w.heap.size A i c (jnSplitK state (at0 : Int) i)) ∧ Below w.heap.size w wr
def Sp14K (W : World) (g i : Nat) (state : List UInt8) (vk : Value) (wr : World) : Prop := ∃ k : Nat, k ≤ 256 ∧ 256 * i + k ≤ state.length ∧ vk = .int .i64 (k : Int) ∧ OwnB wr g (some ⟨g, 0, none⟩) 256 256 (spC state i k) ∧ Below W.heap.size W wr
theorem refSplit14_any (A : Option Addr) (L c : Nat) (state : List UInt8) (slot : Int) (w : World) (hr : RdB w A L c state) (hL : L ≤ 100000) :
  Calls Tryz.prog 60 #[.slice A L c, .int .i64 slot] w (RetJs w (jnSplit state slot)) := by
 obtain ⟨at0, hat⟩ : ∃ k : Nat, (if slot = 0 then (2 : Int) else 50) = (k : Int) := by
  by_cases h : slot = 0
  ·exact ⟨2, by rw [if_pos h]; rfl⟩
  ·exact ⟨50, by rw [if_neg h]; rfl⟩
 have hat50 : at0 ≤ 50 := by
  by_cases h : slot = 0
  ·rw [if_pos h] at hat; omega
  ·rw [if_neg h] at hat; omega
 obtain ⟨M, hM⟩ : ∃ M, M = (L + 255) / 256 := ⟨_, rfl⟩
 have hM4 : M ≤ 500 := by omega
 have hsl := hr.2.1
 have heq : jnSplit state slot = jnSplitK state (at0 : Int) M := by unfold jnSplit; rw [hat, hsl, hM]
 rw [heq]
 have HP := Lib.hid (refsuPlace_any slot)
 rw [hat] at HP
 have HR := Lib.hid hr
 have HSL := Lib.hid hsl
 have HM := Lib.hid hM
 clear heq hat hr hsl hM
 go_enter Tryz.func60, Tryz.ntmps60
 go_wp2_with fail
 refine (HP.out w).mono ?_
 rintro e w1 ⟨rfl, rfl⟩
 go_wp2_with fail
 go_loopw [5, 7, 8, 9] (Sp14I w at0 M state) (fun _ i _ _ _ => M - (intOf i).toNat)
 case atStart => exact ⟨0, none, 0, by omega, rfl, rfl, Lib.hid (owJ_nil _ _), Below.refl _ _⟩
 case round =>
 obtain ⟨i, A5, c5, hi, rfl, rfl, hO, hB⟩ := hrel
 obtain ⟨W0, rfl⟩ : ∃ z, z = wr := ⟨wr, rfl⟩
 have HBo := Lib.hid hB
 have wi : IntKind.i64.wrap (256 * (i : Int)) = 256 * (i : Int) := IntWalk.i64_in _ (by omega)
 have wi1 : IntKind.i64.wrap ((i : Int) + 1) = (i : Int) + 1 := IntWalk.i64_in _ (by omega)
 by_cases hlt : 256 * i < L
 ·have l1 : 256 * (i : Int) < (L : Int) := by omega
  have d1 : decide (256 * (i : Int) < (L : Int)) = true := decide_eq_true l1
  have hiM : i < M := by have := HM.out; omega
  clear hB
  go_wp2_with (refine wp_makeK rfl _ _ rfl .i64 .i64 256 rfl rfl (by omega) W0.heap.size rfl ?_; intro w3 o3 b3)
  go_loopw [9] (Sp14K W0 W0.heap.size i state) (fun k _ => 256 - (intOf k).toNat)
  case atStart => exact ⟨0, by omega, by have := HSL.out; omega, rfl, by rw [spC_zero]; exact o3, b3⟩
  case round =>
  clear o3 b3
  obtain ⟨k, hk, hkL, rfl, oK, bK⟩ := hrel
  have HBk := Lib.hid bK
  by_cases hk2 : k < 256 ∧ 256 * i + k < L
  ·obtain ⟨hk1, hk2⟩ := hk2
   have l2 : (k : Int) < 256 := by omega
   have d2 : decide ((k : Int) < 256) = true := decide_eq_true l2
   have wk : IntKind.i64.wrap (256 * (i : Int) + (k : Int)) = ((256 * i + k : Nat) : Int) := by rw [IntWalk.i64_in _ (by omega)]; omega
   have wk1 : IntKind.i64.wrap ((k : Int) + 1) = (k : Int) + 1 := IntWalk.i64_in _ (by omega)
   have l3 : ((256 * i + k : Nat) : Int) < (L : Int) := by omega
   have d3 : decide (((256 * i + k : Nat) : Int) < (L : Int)) = true := decide_eq_true l3
   obtain ⟨b, o, v, rfl, hb, hv, hcell⟩ := ((HR.out.below HBo.out).below bK).at_ (256 * i + k) hk2
   obtain ⟨u, hu, hcell2⟩ := oK.cell_ k hk1
   have hfree := oK.free k
   have hnx := spC_next state i k hk1 (by rw [HSL.out]; exact hk2)
   rw [List.getD_eq_getElem?_getD, hv, Option.getD_some] at hnx
   have HNX := Lib.hid hnx
   have OK := Lib.hid oK
   have hk1' : ¬ (256 : Int) ≤ (k : Int) := by omega
   clear hnx hu oK bK hv
   go_wp2_with fail
   go_roundw
   case rel => exact ⟨k + 1, by omega, by rw [HSL.out]; omega, by rw [Int.natCast_add]; rfl, by rw [← HNX.out]; exact OK.out.set_ k v, HBk.out.setCell (Nat.le_refl _) _⟩
   case measure => simp [intOf]; omega
  ·have hsec := spC_all state i k (by have := HSL.out; omega) hk
   rw [hsec] at oK
   have OK := Lib.hid oK
   have O2 := Lib.hid (hO.out.below HBk.out)
   obtain ⟨us, u1, u2⟩ := O2.out
   have hz := HBk.out.size
   have wat : IntKind.i64.wrap ((at0 : Int) + (i : Int)) = (at0 : Int) + (i : Int) := IntWalk.i64_in _ (by omega)
   have U1 := Lib.hid u1
   have U2 := Lib.hid u2
   have hz0 := HBo.out.size
   have hjk := jnSplitK_snoc state (at0 : Int) i
   have HJK := Lib.hid hjk
   have al := (below_self wr).alloc (Nat.le_refl _) (.cells #[.int .i64 ((at0 : Int) + (i : Int)), .slice (some ⟨W0.heap.size, 0, none⟩) 256 256] 60)
   have UA := Lib.hid (down_keep U1.out al)
   have UP := Lib.hid (U2.out.keep (fun A n c xs hx => OwnB.below hx al))
   have SK := Lib.hid (show OwnB _ w.heap.size _ _ _ _ from OwnB.mono (OwnB.below OK.out al) hz0)
   have BA := Lib.hid ((HBo.out.trans (HBk.out.mono hz0)).trans (al.mono (by omega)))
   clear hjk u1 u2 oK bK hsec hO al
   rcases (show (k : Int) < 256 ∧ ¬ ((256 * i + k : Nat) : Int) < (L : Int) ∨ ¬ (k : Int) < 256 by omega) with ⟨l2, l3⟩ | l2
   ·have d2 : decide ((k : Int) < 256) = true := decide_eq_true l2
    have wk : IntKind.i64.wrap (256 * (i : Int) + (k : Int)) = ((256 * i + k : Nat) : Int) := by rw [IntWalk.i64_in _ (by omega)]; omega
    have d3 : decide (((256 * i + k : Nat) : Int) < (L : Int)) = false := decide_eq_false l3
    go_wp2_with (at_builtin; refine wp_appJ rfl _ _ rfl w.heap.size _ i us rfl UA.out (some ⟨wr.heap.size, 0, none⟩) 1 1 [.int .i64 ((at0 : Int) + (i : Int)), .slice (some ⟨W0.heap.size, 0, none⟩) 256 256] rfl (Rd.new wr _ _) rfl (by intro u hu; simp at hu; rcases hu with rfl | rfl <;> rfl) (by omega) (by simp; omega) (i + 1) _ rfl rfl ?_; intro A7 c7 w7 o7 g7)
    have J7 := Lib.hid (OwJ.app UA.out UP.out o7 g7 SK.out (by omega))
    have B7 := Lib.hid (BA.out.grown g7 (by simp; omega) (fun q hq => (UA.out.lt q hq).1))
    clear o7 g7
    go_wp2_with fail
    go_roundw
    case rel => exact ⟨i + 1, A7, c7, by omega, rfl, by rw [Int.natCast_add]; rfl, Lib.hid (by rw [HJK.out]; exact J7.out), B7.out⟩
    case measure => simp [intOf]; omega
   ·have d2 : decide ((k : Int) < 256) = false := decide_eq_false l2
    go_wp2_with (at_builtin; refine wp_appJ rfl _ _ rfl w.heap.size _ i us rfl UA.out (some ⟨wr.heap.size, 0, none⟩) 1 1 [.int .i64 ((at0 : Int) + (i : Int)), .slice (some ⟨W0.heap.size, 0, none⟩) 256 256] rfl (Rd.new wr _ _) rfl (by intro u hu; simp at hu; rcases hu with rfl | rfl <;> rfl) (by omega) (by simp; omega) (i + 1) _ rfl rfl ?_; intro A7 c7 w7 o7 g7)
    have J7 := Lib.hid (OwJ.app UA.out UP.out o7 g7 SK.out (by omega))
    have B7 := Lib.hid (BA.out.grown g7 (by simp; omega) (fun q hq => (UA.out.lt q hq).1))
    clear o7 g7
    go_wp2_with fail
    go_roundw
    case rel => exact ⟨i + 1, A7, c7, by omega, rfl, by rw [Int.natCast_add]; rfl, Lib.hid (by rw [HJK.out]; exact J7.out), B7.out⟩
    case measure => simp [intOf]; omega
 ·obtain rfl : i = M := by have := HM.out; omega
  have l1 : ¬ 256 * (i : Int) < (L : Int) := by omega
  have d1 : decide (256 * (i : Int) < (L : Int)) = false := decide_eq_false l1
  clear hB
  go_wp2_with fail
  go_ret
  exact ⟨A5, i, c5, rfl, hO.out, HBo.out⟩
end Go.Proofs.YtpahicfnhhhifaaGreat
