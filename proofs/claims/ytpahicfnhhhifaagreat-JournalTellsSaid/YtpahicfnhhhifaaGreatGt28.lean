/-
 Proved here, for the statement JournalTells:
 Layer 14 (the document): Save (printed by genjrf.py out of XJrnL).
-/
import Derived.Test.YtpahicfnhhhifaaGreatGt27
set_option linter.unusedVariables false
set_option linter.unusedSimpArgs false
namespace Go.Proofs.YtpahicfnhhhifaaGreat
set_option maxRecDepth 20000
open Go.RowKit
set_option maxHeartbeats 8000000
theorem JS.low {w Y Y' : World} {h r B : Nat} {m : Jm} (s : JS w h r m Y) (hb : Below B Y Y') (hB : h < B ∧ r < B ∧ w.heap.size ≤ B) : JS w h r m Y' := ⟨(hb.block h hB.1).trans s.j, (hb.block r hB.2.1).trans s.o, s.b.trans (hb.mono hB.2.2), s.n, s.z⟩
set_option maxRecDepth 100000 in
theorem refSave14_form (P : Nat → Prop) (m : Jm) (wl jl : List Jb) (A : Option Addr) (n cp : Nat) (st : List UInt8) (w : World) (hv : JIn P w m (m.of wl jl)) (hP : ∀ j, P j → j < w.heap.size) (hr : RdB w A n cp st) (hck : jnChk (m.of wl jl) = false) :
  Calls Tryz.prog 23 #[.agg (jmV m).toArray, .slice A n cp] w (RetJ P w (m.of wl jl) (3)) := by
 obtain ⟨V, hV⟩ : ∃ V, V = (w.alloc (.cells (jmV m).toArray 36)).alloc (.cells Tryz.zeroCells36 36) := ⟨_, rfl⟩
 have S := Lib.hid (js_new hv hV)
 have HV := Lib.hid hV
 have zV : V.heap.size = w.heap.size + 2 := by rw [hV]; simp
 have ZV := Lib.hid zV
 have C := Lib.hid (refCheck14_any P m (m.of wl jl) V (hv.below S.out.b))
 have hn63 := hr.n63
 rw [hck] at C
 clear hck
 have HI := Lib.hid hv
 have HP := Lib.hid hP
 have HR := Lib.hid hr
 clear hV zV hv hP hr
 go_enter Tryz.func23, Tryz.ntmps23
 go_wp2_with (first | (rw [← HV.out]) | (refine jm_load S.out.z rfl _ rfl rfl S.out.j ?_))
 refine C.out.mono ?_
 rintro e w1 ⟨rfl, hb1⟩
 have S1 := Lib.hid (S.out.up hb1)
 obtain ⟨⟨c0, c1, c2, c3, c4⟩, ⟨c37, c38, c39, c40, c41, c76, c77⟩, fz⟩ := S1.out.j.cells S1.out.z
 go_wp2_with (first | (refine jm_load S1.out.z rfl _ rfl rfl S1.out.j ?_) | (refine jm_store S1.out.z jmZ_z rfl _ _ rfl rfl rfl S1.out.o ?_; intro X zX qX bX nX))
 refine bodyPost_ret (dresults_cell_tmp Tryz.results23 _ _ (w.heap.size + 1) 36 _ (0, 0) _ rfl qX Tryz.underlying36 rfl (jm_info S1.out.z)) rfl ?_
 have bF := S1.out.b.trans (bX w.heap.size (by omega))
 exact ⟨m, rfl, HI.out.below bF, bF⟩
set_option maxRecDepth 100000 in
theorem refSave14_stop (P : Nat → Prop) (m : Jm) (wl jl : List Jb) (A : Option Addr) (n cp : Nat) (st : List UInt8) (w : World) (hv : JIn P w m (m.of wl jl)) (hP : ∀ j, P j → j < w.heap.size) (hr : RdB w A n cp st) (hck : jnChk (m.of wl jl) = true) (hp : m.ph = 7) :
  Calls Tryz.prog 23 #[.agg (jmV m).toArray, .slice A n cp] w (RetJ P w (m.of wl jl) m.err) := by
 obtain ⟨V, hV⟩ : ∃ V, V = (w.alloc (.cells (jmV m).toArray 36)).alloc (.cells Tryz.zeroCells36 36) := ⟨_, rfl⟩
 have S := Lib.hid (js_new hv hV)
 have HV := Lib.hid hV
 have zV : V.heap.size = w.heap.size + 2 := by rw [hV]; simp
 have ZV := Lib.hid zV
 have C := Lib.hid (refCheck14_any P m (m.of wl jl) V (hv.below S.out.b))
 have hn63 := hr.n63
 rw [hck] at C
 have Hp := Lib.hid hp
 clear hck hp
 have HI := Lib.hid hv
 have HP := Lib.hid hP
 have HR := Lib.hid hr
 clear hV zV hv hP hr
 go_enter Tryz.func23, Tryz.ntmps23
 go_wp2_with (first | (rw [← HV.out]) | (refine jm_load S.out.z rfl _ rfl rfl S.out.j ?_))
 refine C.out.mono ?_
 rintro e w1 ⟨rfl, hb1⟩
 have S1 := Lib.hid (S.out.up hb1)
 obtain ⟨⟨c0, c1, c2, c3, c4⟩, ⟨c37, c38, c39, c40, c41, c76, c77⟩, fz⟩ := S1.out.j.cells S1.out.z
 rw [show m.ph = 7 from Hp.out] at c38
 clear c0 c1 c2 c3 c4 c37 c39 c40 c41 c76 c77 fz
 go_wp2_with fail
 refine wp_region_seg (S := fun w' => JmAt w' w.heap.size m) 0 #[true, true, true, true, true] [(0, true), (1, true), (2, true), (3, false), (4, true)] (by kernel_rfl) (by kernel_rfl) (fun _ _ d _ _ h => by first | (cases d <;> exact h) | cases h.1) (S1.out.j) ?_
 have HB := S1.out.j
 refine seg_take (v := .agg (jmV m).toArray) rfl (Or.inl ⟨by rfl, fun w' hw' => ?_⟩) ?_
 focus (exact rex_load rfl rfl (jm_run hw' S1.out.z))
 try simp only [Act.put, pst3]
 iterate 2 (refine seg_take (v := ?_) rfl (Or.inl ⟨by rfl, ?_⟩) ?_; rotate_left; (focus (intro w' hw'; have j77 := hw'.c77 S1.out.z; go_simp <;> with_reducible rfl)); try simp only [Act.put, pst3])
 refine seg_run rfl (fun K hK => ?_)
 rw [if_pos (by rfl)]
 refine op_jmst (h := w.heap.size + 1) S1.out.z jmZ_z _ _ rfl rfl rfl S1.out.o ?_
 intro X zX qX bX nX
 have HB := (nX _ (by omega)).trans HB
 refine hK.out _ _ (HB) ?_
 clear hK
 try simp only [Act.put, pst3]
 iterate 1 (refine seg_take (v := ?_) rfl (Or.inl ⟨by rfl, ?_⟩) ?_; rotate_left; (focus (intro w' hw'; have j77 := hw'.c77 S1.out.z; go_simp <;> with_reducible rfl)); try simp only [Act.put, pst3])
 refine seg_done (fun _ => ?_)
 refine wpAnyH_done (by kernel_rfl) ?_ _
 skip
 go_wp2_with fail
 refine bodyPost_ret (dresults_cell_tmp Tryz.results23 _ _ (w.heap.size + 1) 36 _ (0, 0) _ rfl qX Tryz.underlying36 rfl (jm_info S1.out.z)) rfl ?_
 have bF := S1.out.b.drew.trans (bX w.heap.size (by omega))
 exact ⟨m, rfl, HI.out.below bF, bF⟩
set_option maxRecDepth 100000 in
theorem refSave14_busy (P : Nat → Prop) (m : Jm) (wl jl : List Jb) (A : Option Addr) (n cp : Nat) (st : List UInt8) (w : World) (hv : JIn P w m (m.of wl jl)) (hP : ∀ j, P j → j < w.heap.size) (hr : RdB w A n cp st) (hck : jnChk (m.of wl jl) = true) (hp : ¬ m.ph = 7) (hb : ¬ m.ph = 0 ∨ ¬ m.done = m.next) :
  Calls Tryz.prog 23 #[.agg (jmV m).toArray, .slice A n cp] w (RetJ P w (m.of wl jl) (8)) := by
 obtain ⟨V, hV⟩ : ∃ V, V = (w.alloc (.cells (jmV m).toArray 36)).alloc (.cells Tryz.zeroCells36 36) := ⟨_, rfl⟩
 have S := Lib.hid (js_new hv hV)
 have HV := Lib.hid hV
 have zV : V.heap.size = w.heap.size + 2 := by rw [hV]; simp
 have ZV := Lib.hid zV
 have C := Lib.hid (refCheck14_any P m (m.of wl jl) V (hv.below S.out.b))
 have hn63 := hr.n63
 rw [hck] at C
 have p7 : (m.ph == 7) = false := beq_eq_false_iff_ne.2 hp
 have hb2 : (m.ph != 0) = true ∨ ((m.ph != 0) = false ∧ ((m.done : Int) != (m.next : Int)) = true ∧ (m.done != m.next) = true) := by
  by_cases h : m.ph = 0
  ·right
   have := hb.resolve_left (fun e => e h)
   exact ⟨by simp [h], by simp; omega, by simp; omega⟩
  ·left; simp [h]
 have HB2 := Lib.hid hb2
 clear hck hp hb hb2
 have HI := Lib.hid hv
 have HP := Lib.hid hP
 have HR := Lib.hid hr
 clear hV zV hv hP hr
 go_enter Tryz.func23, Tryz.ntmps23
 go_wp2_with (first | (rw [← HV.out]) | (refine jm_load S.out.z rfl _ rfl rfl S.out.j ?_))
 refine C.out.mono ?_
 rintro e w1 ⟨rfl, hb1⟩
 have S1 := Lib.hid (S.out.up hb1)
 obtain ⟨⟨c0, c1, c2, c3, c4⟩, ⟨c37, c38, c39, c40, c41, c76, c77⟩, fz⟩ := S1.out.j.cells S1.out.z
 rcases HB2.out with p0 | ⟨p0, p1, p2⟩
 ·go_wp2_with (first | (refine jm_load S1.out.z rfl _ rfl rfl S1.out.j ?_) | (refine jm_store S1.out.z jmZ_z rfl _ _ rfl rfl rfl S1.out.o ?_; intro X zX qX bX nX))
  refine bodyPost_ret (dresults_cell_tmp Tryz.results23 _ _ (w.heap.size + 1) 36 _ (0, 0) _ rfl qX Tryz.underlying36 rfl (jm_info S1.out.z)) rfl ?_
  have bF := S1.out.b.trans (bX w.heap.size (by omega))
  exact ⟨m, rfl, HI.out.below bF, bF⟩
 ·go_wp2_with (first | (refine jm_load S1.out.z rfl _ rfl rfl S1.out.j ?_) | (refine jm_store S1.out.z jmZ_z rfl _ _ rfl rfl rfl S1.out.o ?_; intro X zX qX bX nX))
  refine bodyPost_ret (dresults_cell_tmp Tryz.results23 _ _ (w.heap.size + 1) 36 _ (0, 0) _ rfl qX Tryz.underlying36 rfl (jm_info S1.out.z)) rfl ?_
  have bF := S1.out.b.trans (bX w.heap.size (by omega))
  exact ⟨m, rfl, HI.out.below bF, bF⟩
set_option maxRecDepth 100000 in
theorem refSave14_full (P : Nat → Prop) (m : Jm) (wl jl : List Jb) (A : Option Addr) (n cp : Nat) (st : List UInt8) (w : World) (hv : JIn P w m (m.of wl jl)) (hP : ∀ j, P j → j < w.heap.size) (hr : RdB w A n cp st) (hck : jnChk (m.of wl jl) = true) (hp : ¬ m.ph = 7) (h0 : m.ph = 0) (hd : m.done = m.next) (hf : 12288 < n ∨ m.g = 4294967295) :
  Calls Tryz.prog 23 #[.agg (jmV m).toArray, .slice A n cp] w (RetJ P w (m.of wl jl) (4)) := by
 obtain ⟨V, hV⟩ : ∃ V, V = (w.alloc (.cells (jmV m).toArray 36)).alloc (.cells Tryz.zeroCells36 36) := ⟨_, rfl⟩
 have S := Lib.hid (js_new hv hV)
 have HV := Lib.hid hV
 have zV : V.heap.size = w.heap.size + 2 := by rw [hV]; simp
 have ZV := Lib.hid zV
 have C := Lib.hid (refCheck14_any P m (m.of wl jl) V (hv.below S.out.b))
 have hn63 := hr.n63
 rw [hck] at C
 have p7 : (m.ph == 7) = false := beq_eq_false_iff_ne.2 hp
 have hb2 : decide ((12288 : Int) < (n : Int)) = true ∨ (decide ((12288 : Int) < (n : Int)) = false ∧ (m.g : Int) = 4294967295 ∧ m.g = 4294967295) := by
  by_cases h : 12288 < n
  ·left; exact decide_eq_true (by omega)
  ·right
   have := hf.resolve_left h
   exact ⟨decide_eq_false (by omega), by omega, this⟩
 have HB2 := Lib.hid hb2
 have H0 := Lib.hid h0
 have HD := Lib.hid hd
 clear hck hp p7 hf hb2 h0 hd
 have HI := Lib.hid hv
 have HP := Lib.hid hP
 have HR := Lib.hid hr
 clear hV zV hv hP hr
 go_enter Tryz.func23, Tryz.ntmps23
 go_wp2_with (first | (rw [← HV.out]) | (refine jm_load S.out.z rfl _ rfl rfl S.out.j ?_))
 refine C.out.mono ?_
 rintro e w1 ⟨rfl, hb1⟩
 have S1 := Lib.hid (S.out.up hb1)
 obtain ⟨⟨c0, c1, c2, c3, c4⟩, ⟨c37, c38, c39, c40, c41, c76, c77⟩, fz⟩ := S1.out.j.cells S1.out.z
 rw [show m.ph = 0 from H0.out] at c38
 rw [show m.done = m.next from HD.out] at c3
 rcases HB2.out with p0 | ⟨p0, p1, p2⟩
 ·go_wp2_with (first | (refine jm_load S1.out.z rfl _ rfl rfl S1.out.j ?_) | (refine jm_store S1.out.z jmZ_z rfl _ _ rfl rfl rfl S1.out.o ?_; intro X zX qX bX nX))
  refine bodyPost_ret (dresults_cell_tmp Tryz.results23 _ _ (w.heap.size + 1) 36 _ (0, 0) _ rfl qX Tryz.underlying36 rfl (jm_info S1.out.z)) rfl ?_
  have bF := S1.out.b.trans (bX w.heap.size (by omega))
  exact ⟨m, rfl, HI.out.below bF, bF⟩
 ·rw [p2] at c0
  clear p1 p2
  go_wp2_with (first | (refine jm_load S1.out.z rfl _ rfl rfl S1.out.j ?_) | (refine jm_store S1.out.z jmZ_z rfl _ _ rfl rfl rfl S1.out.o ?_; intro X zX qX bX nX))
  refine bodyPost_ret (dresults_cell_tmp Tryz.results23 _ _ (w.heap.size + 1) 36 _ (0, 0) _ rfl qX Tryz.underlying36 rfl (jm_info S1.out.z)) rfl ?_
  have bF := S1.out.b.trans (bX w.heap.size (by omega))
  exact ⟨m, rfl, HI.out.below bF, bF⟩
theorem JmAt.s0 {w : World} {g : Nat} {m : Jm} (q : JmAt w g m) (v : Nat) : JmAt (w.setCell ⟨g, 0, none⟩ (.int .u32 (v : Int))) g { m with g := v } := (setc_rowT q).trans rfl
theorem JmAt.s1 {w : World} {g : Nat} {m : Jm} (q : JmAt w g m) (v : Int) : JmAt (w.setCell ⟨g, 1, none⟩ (.int .i64 v)) g { m with slot := v } := (setc_rowT q).trans rfl
section
variable {w Y : World} {h r : Nat} {m : Jm}
theorem JS.s0 (s : JS w h r m Y) (v : Nat) : JS w h r { m with g := v } (Y.setCell ⟨h, 0, none⟩ (.int .u32 (v : Int))) := s.set (s.j.s0 v) s.z
theorem JS.s1 (s : JS w h r m Y) (v : Int) : JS w h r { m with slot := v } (Y.setCell ⟨h, 1, none⟩ (.int .i64 v)) := s.set (s.j.s1 v) s.z
theorem JS.s2z (s : JS w h r m Y) : JS w h r { m with next := 0 } (Y.setCell ⟨h, 2, none⟩ (.int .u32 0)) := s.s2 0
theorem JS.s3z (s : JS w h r m Y) : JS w h r { m with done := 0 } (Y.setCell ⟨h, 3, none⟩ (.int .u32 0)) := s.s3 0
theorem JS.s4z (s : JS w h r m Y) : JS w h r { m with will := 0 } (Y.setCell ⟨h, 4, none⟩ (.int .u32 0)) := s.s4 0
end
theorem dig_st {ops : Array Oper} {rest : List Oper} {o : Oper} {a : Act} {w : World} {Q : Exit → Act → World → Prop} (hgd : o.guard = none) (x z : Operand) (ho : o.op = .store 30 x z) (h : Nat) (hx : a.eval x = .pointer (some ⟨h, 0, none⟩)) (D : List UInt8) (old : Array Value) (hz : a.eval z = .agg (dgA D)) (T : TypeId) (hrow : w.heap[h]? = some (.cells old T (0, 0))) (hl : D.length = 32) (ho2 : old.size = 32)
  (hK : ∀ X, X.heap.size = w.heap.size → X.heap[h]? = some (.cells (dgA D) T (0, 0)) → (∀ B, B ≤ h → Below B w X) → wpList Tryz.prog ops Q rest (a.put o.dst undef) X) : wpList Tryz.prog ops Q (o :: rest) a w :=
 dig_store hgd x z ho h hx D old hz T hrow hl ho2 (hK _ (by simp) (setRow_heap _ _ _ _ _ _ hrow) (fun B hB => below_setRow (Below.refl _ _) hB _))
set_option maxRecDepth 100000 in
theorem refSave14_yes (P : Nat → Prop) (m : Jm) (jl : List Jb) (A : Option Addr) (n cp : Nat) (st : List UInt8) (w : World) (hv : JIn P w m (m.of [] jl)) (hP : ∀ j, P j → j < w.heap.size) (hr : RdB w A n cp st) (hck : jnChk (m.of [] jl) = true) (he : m.err = 0) (h0 : m.ph = 0) (hd : m.done = m.next) (hf : n ≤ 12288) (hgn : m.g < 4294967295) :
  Calls Tryz.prog 23 #[.agg (jmV m).toArray, .slice A n cp] w (RetJ P w (jnSaved (m.of [] jl) st) (0)) := by
 obtain ⟨V, hV⟩ : ∃ V, V = (w.alloc (.cells (jmV m).toArray 36)).alloc (.cells Tryz.zeroCells36 36) := ⟨_, rfl⟩
 have S := Lib.hid (js_new hv hV)
 have HV := Lib.hid hV
 have zV : V.heap.size = w.heap.size + 2 := by rw [hV]; simp
 have ZV := Lib.hid zV
 have C := Lib.hid (refCheck14_any P m (m.of [] jl) V (hv.below S.out.b))
 have hn63 := hr.n63
 rw [hck] at C
 have p0 : decide ((12288 : Int) < (n : Int)) = false := decide_eq_false (by omega)
 have p1 : ((m.g : Int) == 4294967295) = false := beq_eq_false_iff_ne.2 (by omega)
 have p2 : (m.g == 4294967295) = false := beq_eq_false_iff_ne.2 (by omega)
 obtain ⟨GX, hGX⟩ : ∃ q, q = m.g + 1 := ⟨_, rfl⟩
 obtain ⟨SX, hSX⟩ : ∃ q, q = 1 - m.slot := ⟨_, rfl⟩
 have hsl := hv.1.slot
 have e1 : IntKind.u32.wrap ((m.g : Int) + 1) = (GX : Int) := by rw [IntKind.wrap_u32]; omega
 have hs01 : m.slot = 0 ∨ m.slot = 1 := by
  have hchk := hck
  unfold jnChk at hchk
  simp only [Bool.and_eq_true, decide_eq_true_eq] at hchk
  exact hchk.1
 have e2 : IntKind.i64.wrap (1 - m.slot) = SX := by rw [IntWalk.i64_in _ (by omega)]; omega
 have hSr : SX = 0 ∨ SX = 1 := by omega
 obtain ⟨DG, hDG⟩ : ∃ q, jnBase st = q := ⟨jnBase st, rfl⟩
 have hDl : DG.length = 32 := by rw [← hDG]; exact shOf_len _
 have C2 := Lib.hid (fun W (h : RdB W A n cp st) => refBase14_any A n cp st W h (by omega))
 rw [hDG] at C2
 have C3 := Lib.hid (fun W (h : RdB W A n cp st) => refSplit14_any A n cp st SX W h (by omega))
 have BS := Lib.hid (suB4 GX SX (n : Int) DG hDl)
 have HDG := Lib.hid hDG
 have HDL := Lib.hid hDl
 have HGX := Lib.hid hGX
 have HSX := Lib.hid hSX
 have HSR := Lib.hid hSr
 have HGR := Lib.hid (show GX < 4294967296 by omega)
 have H0 := Lib.hid h0
 have HD := Lib.hid hd
 have HN := Lib.hid hr.2.1
 have HE := Lib.hid he
 obtain ⟨D0, hD0⟩ : ∃ D0 : Array Value, #[.int .u8 0, .int .u8 0, .int .u8 0, .int .u8 0, .int .u8 0, .int .u8 0, .int .u8 0, .int .u8 0, .int .u8 0, .int .u8 0, .int .u8 0, .int .u8 0, .int .u8 0, .int .u8 0, .int .u8 0, .int .u8 0, .int .u8 0, .int .u8 0, .int .u8 0, .int .u8 0, .int .u8 0, .int .u8 0, .int .u8 0, .int .u8 0, .int .u8 0, .int .u8 0, .int .u8 0, .int .u8 0, .int .u8 0, .int .u8 0, .int .u8 0, .int .u8 0] = D0 := ⟨#[.int .u8 0, .int .u8 0, .int .u8 0, .int .u8 0, .int .u8 0, .int .u8 0, .int .u8 0, .int .u8 0, .int .u8 0, .int .u8 0, .int .u8 0, .int .u8 0, .int .u8 0, .int .u8 0, .int .u8 0, .int .u8 0, .int .u8 0, .int .u8 0, .int .u8 0, .int .u8 0, .int .u8 0, .int .u8 0, .int .u8 0, .int .u8 0, .int .u8 0, .int .u8 0, .int .u8 0, .int .u8 0, .int .u8 0, .int .u8 0, .int .u8 0, .int .u8 0], rfl⟩
 have hD0s : D0.size = 32 := by rw [← hD0]; rfl
 have HD0 := Lib.hid hD0
 have ex3 : ∀ W : World, ∃ W', W' = W.alloc (.cells D0 30) ∧ W'.heap[W.heap.size]? = some (.cells D0 30 (0, 0)) ∧ Below W.heap.size W W' := fun W => ⟨_, rfl, drw_at _ rfl, (below_self W).alloc (Nat.le_refl _) _⟩
 have EX3 := Lib.hid ex3
 clear hck he h0 hd hGX hSX hDG hDl hD0 ex3 hs01 hsl hSr
 have HI := Lib.hid hv
 have HP := Lib.hid hP
 have HR := Lib.hid hr
 clear hV zV hv hP hr
 go_enter Tryz.func23, Tryz.ntmps23
 go_wp2_with (first | (rw [← HV.out]) | (refine jm_load S.out.z rfl _ rfl rfl S.out.j ?_))
 refine C.out.mono ?_
 rintro e w1 ⟨rfl, hb1⟩
 have S1 := Lib.hid (S.out.up hb1)
 obtain ⟨⟨c0, c1, c2, c3, c4⟩, ⟨c37, c38, c39, c40, c41, c76, c77⟩, fz⟩ := S1.out.j.cells S1.out.z
 rw [show m.ph = 0 from H0.out] at c38
 rw [show m.done = m.next from HD.out] at c3
 go_wp2_with fail
 refine (C2.out w1 (HR.out.below (below_then S.out.b hb1))).mono ?_
 rintro e w2 ⟨rfl, hb2⟩
 obtain ⟨W3, hW3, r3, b3⟩ := EX3.out w2
 have S2 := Lib.hid ((S1.out.up hb2).up b3)
 have R3 := Lib.hid r3
 have HW3 := Lib.hid hW3
 have L2 : Hid (w.heap.size + 2 ≤ w2.heap.size) := Lib.hid (by have := (S1.out.up hb2).o.lt; omega)
 have NE : Hid (w.heap.size ≠ w2.heap.size) := Lib.hid (by have := L2.out; omega)
 clear hW3 r3 b3 hb2 c0 c1 c2 c3 c4 c37 c38 c39 c40 c41 c76 c77 fz
 go_wp2_with (first
  | (rw [HD0.out, ← HW3.out]; refine dig_st rfl _ _ rfl w2.heap.size rfl DG D0 rfl 30 R3.out HDL.out hD0s ?_; intro X3 z3 r3 b3; have S3 := Lib.hid (S2.out.low (b3 w2.heap.size (Nat.le_refl _)) ⟨by have := L2.out; omega, by have := L2.out; omega, by have := L2.out; omega⟩); obtain ⟨m4, Y4, HM4, HY4, S4⟩ := (((((S3.out.s0 GX).s1 SX).s2z).s3z).s4z).named; have R4 : Hid (Y4.heap[w2.heap.size]? = some (.cells (dgA DG) 30 (0, 0))) := Lib.hid (by rw [HY4.out]; exact (setc_rowO NE.out).trans ((setc_rowO NE.out).trans ((setc_rowO NE.out).trans ((setc_rowO NE.out).trans ((setc_rowO NE.out).trans r3))))); have EG : Hid (m4.g = GX) := Lib.hid (congrArg Jm.g HM4.out).symm; have ESL : Hid (m4.slot = SX) := Lib.hid (congrArg Jm.slot HM4.out).symm; obtain ⟨⟨c0, c1, c2, c3, c4⟩, ⟨c37, c38, c39, c40, c41, c76, c77⟩, fz⟩ := S3.out.j.cells S3.out.z; clear r3 b3)
  | (rw [← HY4.out]; refine wpList_load_row rfl 30 _ rfl w2.heap.size rfl 30 (dgA DG) (0, 0) _ R4.out Tryz.underlying30 rfl (infoD DG HDL.out) ?_)
  | (refine jm_dset2 S4.out.z rfl _ _ rfl rfl S4.out.j DG rfl HDL.out ?_; intro X5 z5 q5 b5 n5; have S5 := Lib.hid (S4.out.other q5 ⟨HDL.out, S4.out.z.2⟩ n5 (b5 _ S4.out.n.1)); have R5 : Hid (X5.heap[w2.heap.size]? = some (.cells (dgA DG) 30 (0, 0))) := Lib.hid ((n5 _ (fun e => NE.out e.symm)).trans R4.out); have k0 := S5.out.j.c0; have k1 := S5.out.j.c1; rw [show ({ m4 with ch := DG } : Jm).g = m4.g from rfl, EG.out] at k0; rw [show ({ m4 with ch := DG } : Jm).slot = m4.slot from rfl, ESL.out] at k1; clear c0 c1 c2 c3 c4 c37 c38 c39 c40 c41 c76 c77 fz)
  | (refine wpList_load_row rfl 30 _ rfl w2.heap.size rfl 30 (dgA DG) (0, 0) _ R5.out Tryz.underlying30 rfl (infoD DG HDL.out) ?_)
  | (refine wpList_of_exec rfl (rex_build rfl #[(0, .int .u32 (GX : Int)), (1, .int .i64 SX), (2, .int .i64 (n : Int)), (3, .agg (dgA DG))] rfl (BS.out _)) ?_)
  | (refine jm_sset S5.out.z rfl _ _ rfl rfl S5.out.j ⟨GX, SX, n, DG⟩ rfl HDL.out ?_; intro X6 zX6 q6 b6 n6; have S6 := Lib.hid (S5.out.other q6 ⟨S5.out.z.1, HDL.out⟩ n6 (b6 _ S5.out.n.1)); have k1 : X6.cell? ⟨w.heap.size, 1, none⟩ = some (.int .i64 SX) := (by have := S6.out.j.c1; rw [show ({ m4 with ch := DG, su := ⟨GX, SX, n, DG⟩ } : Jm).slot = m4.slot from rfl, ESL.out] at this; exact this)))
 refine (C3.out X6 (HR.out.below S6.out.b)).mono ?_
 rintro e w7 ⟨A7, n7, c7, rfl, o7, b7⟩
 have S7 := Lib.hid (S6.out.up b7)
 have O7 := Lib.hid o7
 have B7 := Lib.hid b7
 have f39 := S7.out.j.fr 39
 have f38 := S7.out.j.fr 38
 have d39 := S7.out.j.c39 S7.out.z
 have d38 := S7.out.j.c38 S7.out.z
 obtain ⟨m8, Y8, HM8, HY8, S8⟩ := ((S7.out.s39 A7 n7 c7).s38 3).named
 clear k0 k1 o7 b7
 go_wp2_with (first | (rw [← HY8.out]; refine jm_load S8.out.z rfl _ rfl rfl S8.out.j ?_) | (refine jm_store S8.out.z jmZ_z rfl _ _ rfl rfl rfl S8.out.o ?_; intro X zX qX bX nX))
 refine bodyPost_ret (dresults_cell_tmp Tryz.results23 _ _ (w.heap.size + 1) 36 _ (0, 0) _ rfl qX Tryz.underlying36 rfl (jm_info S8.out.z)) rfl ?_
 have bF := S8.out.b.trans (bX w.heap.size (by omega))
 have l6 := S6.out.j.lt
 have l6o := S6.out.o.lt
 have hag0 : AgrP (fun j => j = w.heap.size ∨ j = w.heap.size + 1) w7 Y8 := by rw [HY8.out]; exact ((AgrP.refl _ w7).set (.inl rfl) _).set (.inl rfl) _
 have hag : AgrP (fun j => j = w.heap.size ∨ j = w.heap.size + 1) w7 X := hag0.one (.inr rfl) zX nX
 have hwx : WsIn P X A7 n7 c7 (jnSplit st SX) := (O7.out.agr hag (fun j hj => by rcases hj with h | h <;> omega)).inn (fun j hj => by have := HP.out j hj; omega)
 refine ⟨m8, rfl, ?_, bF⟩
 have hok := HI.out.1
 have hn := HN.out
 have eS : jnSaved (m.of [] jl) st = ({ m with g := GX, slot := SX, next := 0, done := 0, will := 0, ch := DG, su := ⟨GX, SX, n, DG⟩, ja := A7, jn := n7, jc := c7, ph := 3 } : Jm).of [] (jnSplit st SX) := by
  rw [HSX.out, HGX.out, ← HDG.out, ← hn]
  show _ = Jn.mk _ _ _ _ _ _ _ _ _ _ _ _ m.err
  rw [HE.out]; rfl
 rw [eS, ← HM8.out, ← HM4.out]
 have hgo := HGR.out
 have hsr := HSR.out
 exact ⟨⟨(show GX < 4294967296 from hgo), (show -9223372036854775808 ≤ SX ∧ SX ≤ 9223372036854775807 by omega), (show (0 : Nat) < 4294967296 by omega), (show (0 : Nat) < 4294967296 by omega), (show (0 : Nat) < 4294967296 by omega), (show DG.length = 32 from HDL.out), (show -9223372036854775808 ≤ (3 : Int) ∧ (3 : Int) ≤ 9223372036854775807 by omega), hok.out, (show GX < 4294967296 from hgo), (show -9223372036854775808 ≤ SX ∧ SX ≤ 9223372036854775807 by omega), (show -9223372036854775808 ≤ (n : Int) ∧ (n : Int) ≤ 9223372036854775807 by omega), (show DG.length = 32 from HDL.out), hok.room, hok.err⟩, rfl, HI.out.2.2.1.below bF, hwx⟩
theorem refSave14_any (P : Nat → Prop) (m : Jm) (J : Jn) (A : Option Addr) (n cp : Nat) (st : List UInt8) (w : World) (hv : JIn P w m J) (hP : ∀ j, P j → j < w.heap.size) (hr : RdB w A n cp st) :
  Calls Tryz.prog 23 #[.agg (jmV m).toArray, .slice A n cp] w (RetJ P w (jnSave J st) (jnSaveE J st)) := by
 obtain ⟨wl, jl, rfl⟩ : ∃ wl jl, J = m.of wl jl := ⟨_, _, jof hv⟩
 have hl : st.length = n := hr.2.1
 cases hck : jnChk (m.of wl jl) with
 | false =>
  have hg : jnGoing (m.of wl jl) = 3 := by unfold jnGoing; rw [if_neg (by simp [hck])]
  have e : jnSaveE (m.of wl jl) st = 3 := by unfold jnSaveE; rw [if_pos (by rw [hg]; decide), hg]
  have e2 : jnSave (m.of wl jl) st = m.of wl jl := by unfold jnSave; rw [e]; rfl
  rw [e, e2]; exact refSave14_form P m wl jl A n cp st w hv hP hr hck
 | true =>
  have hg : jnGoing (m.of wl jl) = m.err := by unfold jnGoing; rw [if_pos hck]; rfl
  have hchk := hck
  unfold jnChk jnCnt at hchk
  simp only [Bool.and_eq_true, decide_eq_true_eq] at hchk
  have h1 : (0 ≤ m.room ∧ m.room ≤ 158) ∧ (m.done ≤ m.will ∧ m.will ≤ m.next) ∧ (m.next : Int) ≤ m.room ∧ wl.length = m.next - m.will := hchk.2.1
  have h2 : m.ph = 7 ↔ m.err ≠ 0 := hchk.2.2.1.2
  by_cases hp : m.ph = 7
  ·have hne := h2.1 hp
   have e : jnSaveE (m.of wl jl) st = m.err := by unfold jnSaveE; rw [if_pos (by rw [hg]; exact hne), hg]
   have e2 : jnSave (m.of wl jl) st = m.of wl jl := by unfold jnSave; rw [e, if_neg hne]
   rw [e, e2]; exact refSave14_stop P m wl jl A n cp st w hv hP hr hck hp
  ·have he0 : m.err = 0 := Classical.byContradiction fun h => hp (h2.2 h)
   rw [he0] at hg
   by_cases hb : ¬ m.ph = 0 ∨ ¬ m.done = m.next
   ·have e : jnSaveE (m.of wl jl) st = 8 := by unfold jnSaveE; rw [if_neg (fun h => h hg), if_pos (show (m.of wl jl).ph ≠ 0 ∨ (m.of wl jl).done ≠ (m.of wl jl).next from hb)]
    have e2 : jnSave (m.of wl jl) st = m.of wl jl := by unfold jnSave; rw [e]; rfl
    rw [e, e2]; exact refSave14_busy P m wl jl A n cp st w hv hP hr hck hp hb
   ·have h0 : m.ph = 0 := by by_cases h : m.ph = 0; exact h; exact absurd (.inl h) hb
    have hd : m.done = m.next := by by_cases h : m.done = m.next; exact h; exact absurd (.inr h) hb
    by_cases hf : 12288 < n ∨ m.g = 4294967295
    ·have e : jnSaveE (m.of wl jl) st = 4 := by unfold jnSaveE; rw [if_neg (fun h => h hg), if_neg (show ¬ ((m.of wl jl).ph ≠ 0 ∨ (m.of wl jl).done ≠ (m.of wl jl).next) from hb), if_pos (show 12288 < st.length ∨ (m.of wl jl).g = 4294967295 by rw [hl]; exact hf)]
     have e2 : jnSave (m.of wl jl) st = m.of wl jl := by unfold jnSave; rw [e]; rfl
     rw [e, e2]; exact refSave14_full P m wl jl A n cp st w hv hP hr hck hp h0 hd hf
    ·have e : jnSaveE (m.of wl jl) st = 0 := by unfold jnSaveE; rw [if_neg (fun h => h hg), if_neg (show ¬ ((m.of wl jl).ph ≠ 0 ∨ (m.of wl jl).done ≠ (m.of wl jl).next) from hb), if_neg (show ¬ (12288 < st.length ∨ (m.of wl jl).g = 4294967295) by rw [hl]; exact hf)]
     have e2 : jnSave (m.of wl jl) st = jnSaved (m.of wl jl) st := by unfold jnSave; rw [if_pos e]
     have hw0 : wl = [] := List.eq_nil_of_length_eq_zero (by omega)
     have hgl : m.g < 4294967296 := hv.1.g
     rw [e, e2]
     subst hw0
     exact refSave14_yes P m jl A n cp st w hv hP hr hck he0 h0 hd (by omega) (by omega)
end Go.Proofs.YtpahicfnhhhifaaGreat
