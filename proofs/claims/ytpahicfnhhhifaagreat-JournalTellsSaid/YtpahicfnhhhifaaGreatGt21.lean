/-
 Proved here, for the statement JournalTells:
 Layer 14: journal: Save.
 Layer 5: disks: Flush, Crash, Tamper, the document's too: a disk handed back is 
-/
import Derived.Test.YtpahicfnhhhifaaGreatGt20
set_option linter.unusedVariables false
set_option linter.unusedSimpArgs false
namespace Go.Proofs.YtpahicfnhhhifaaGreat
set_option maxRecDepth 20000
open Go.RowKit
set_option maxHeartbeats 8000000
theorem jmSaveB (g : Nat) (slot out room : Int) (D : List UInt8) (hD : D.length = 32) (w : World) : (Instr.build 36 #[(0, .int .u32 (g : Int)), (1, .int .i64 slot), (5, .agg (dgA D)), (7, .int .i64 3), (9, .int .i64 out), (11, .int .i64 room)]).run Tryz.prog w = .ok (.agg (jmV { jmZ with g := g, slot := slot, ch := D, ph := 3, out := out, room := room }).toArray) w := by
 obtain ⟨d0, d1, d2, d3, d4, d5, d6, d7, d8, d9, d10, d11, d12, d13, d14, d15, d16, d17, d18, d19, d20, d21, d22, d23, d24, d25, d26, d27, d28, d29, d30, d31, rfl⟩ := list32 D hD
 exact run_build w _ _ _ (by show Tryz.prog.built _ _ = some _; kernel_rfl)
theorem suB4 (g : Nat) (s l : Int) (D : List UInt8) (hD : D.length = 32) (w : World) : (Instr.build 33 #[(0, .int .u32 (g : Int)), (1, .int .i64 s), (2, .int .i64 l), (3, .agg (dgA D))]).run Tryz.prog w = .ok (.agg (suV g s l D)) w := by
 obtain ⟨d0, d1, d2, d3, d4, d5, d6, d7, d8, d9, d10, d11, d12, d13, d14, d15, d16, d17, d18, d19, d20, d21, d22, d23, d24, d25, d26, d27, d28, d29, d30, d31, rfl⟩ := list32 D hD
 exact run_build w _ _ _ (by show Tryz.prog.built _ _ = some _; kernel_rfl)
theorem JmAt.s41 {w : World} {g : Nat} {m : Jm} (q : JmAt w g m) (h : m.z) (s : Su) (hD : s.D.length = 32) : JmAt (w.setCells g 41 (suV s.g s.s s.l s.D).toList) g { m with su := s } := by
 unfold JmAt jmV at q ⊢
 have e : ∀ (u : Su) (X : List Value), [Value.int .u32 (m.g : Int), .int .i64 m.slot, .int .u32 (m.next : Int), .int .u32 (m.done : Int), .int .u32 (m.will : Int)] ++ (m.ch.map vB ++ ([Value.slice m.wa m.wn m.wc, .int .i64 m.ph, .slice m.ja m.jn m.jc, .int .i64 m.out, .int .u32 (u.g : Int), .int .i64 u.s, .int .i64 u.l] ++ (u.D.map vB ++ X))) =
   ([Value.int .u32 (m.g : Int), .int .i64 m.slot, .int .u32 (m.next : Int), .int .u32 (m.done : Int), .int .u32 (m.will : Int)] ++ (m.ch.map vB ++ [Value.slice m.wa m.wn m.wc, .int .i64 m.ph, .slice m.ja m.jn m.jc, .int .i64 m.out])) ++ ((suV u.g u.s u.l u.D).toList ++ X) := fun u X => by simp [suV]
 rw [e m.su] at q
 show _ = some (Obj.cells ([Value.int .u32 (m.g : Int), .int .i64 m.slot, .int .u32 (m.next : Int), .int .u32 (m.done : Int), .int .u32 (m.will : Int)] ++ (m.ch.map vB ++ ([Value.slice m.wa m.wn m.wc, .int .i64 m.ph, .slice m.ja m.jn m.jc, .int .i64 m.out, .int .u32 (s.g : Int), .int .i64 s.s, .int .i64 s.l] ++ (s.D.map vB ++ [Value.int .i64 m.room, .int .i64 m.err])))).toArray 36 (0, 0))
 rw [e s]
 exact setcs_row _ 41 w _ _ _ (by simp [h.1]) (by simp [suV, h.2, hD]) q
theorem JmAt.there41 {w : World} {g : Nat} {m : Jm} (q : JmAt w g m) (h : m.z) (k : Nat) (hk : k ≤ 35) : w.there g 41 k := fun j hj => ⟨by rw [q.cell, List.getElem?_eq_getElem (by rw [jmV_len h]; omega)]; rfl, q.fr _⟩
theorem jm_sset {ops : Array Oper} {rest : List Oper} {o : Oper} {a : Act} {w : World} {Q : Exit → Act → World → Prop} {h : Nat} {m : Jm} (hz : m.z) (hgd : o.guard = none) (x z : Operand) (ho : o.op = .store 33 x z) (hx : a.eval x = .pointer (some ⟨h, 41, none⟩)) (q : JmAt w h m) (s : Su) (hy : a.eval z = .agg (suV s.g s.s s.l s.D)) (hD : s.D.length = 32)
  (hK : ∀ X, X.heap.size = w.heap.size → JmAt X h { m with su := s } → (∀ B, B ≤ h → Below B w X) → (∀ j, j ≠ h → X.heap[j]? = w.heap[j]?) → wpList Tryz.prog ops Q rest (a.put o.dst undef) X) : wpList Tryz.prog ops Q (o :: rest) a w :=
 wpList_store_mid hgd 33 x z ho h 41 (suV s.g s.s s.l s.D) hx hy (q.there41 hz _ (by rw [suVn, hD]; omega)) (suInfo _ _ _ _ hD) (suV_one _ _ _ _) (hK _ (setCells_size _ _ _ _) (q.s41 hz s hD) (fun B hB => setCells_below hB _ _ _ _ (Below.refl _ _)) (fun j hj => setCells_other (fun e => hj e.symm) _ _ _))
set_option maxRecDepth 100000 in
theorem jrnSave_stop (P : Nat → Prop) (m : Jm) (wl jl : List Jb) (A : Option Addr) (n cp : Nat) (st : List UInt8) (w : World) (hv : JIn P w m (m.of wl jl)) (hP : ∀ j, P j → j < w.heap.size) (hr : RdB w A n cp st) (hg : jnGoing (m.of wl jl) ≠ 0) :
  Calls Tryz.prog 22 #[.agg (jmV m).toArray, .slice A n cp] w (RetJ P w (m.of wl jl) (jnGoing (m.of wl jl))) := by
 obtain ⟨V, hV⟩ : ∃ V, V = (w.alloc (.cells (jmV m).toArray 36)).alloc (.cells Tryz.zeroCells36 36) := ⟨_, rfl⟩
 have S := Lib.hid (js_new hv hV)
 have HV := Lib.hid hV
 have zV : V.heap.size = w.heap.size + 2 := by rw [hV]; simp
 have ZV := Lib.hid zV
 have C := Lib.hid (jrnGoing_any P m (m.of wl jl) V (hv.below S.out.b))
 have hn63 := hr.n63
 obtain ⟨G, hG⟩ : ∃ G, jnGoing (m.of wl jl) = G := ⟨_, rfl⟩
 rw [hG] at C hg ⊢
 have g0 : (G != 0) = true := by simpa using hg
 clear hg hG
 have HI := Lib.hid hv
 have HP := Lib.hid hP
 have HR := Lib.hid hr
 clear hV zV hv hP hr
 go_enter Tryz.func22, Tryz.ntmps22
 go_wp2_with (first | (rw [← HV.out]) | (refine jm_load S.out.z rfl _ rfl rfl S.out.j ?_))
 refine C.out.mono ?_
 rintro e w1 ⟨rfl, hb1⟩
 have S1 := Lib.hid (S.out.up hb1)
 obtain ⟨⟨c0, c1, c2, c3, c4⟩, ⟨c37, c38, c39, c40, c41, c76, c77⟩, fz⟩ := S1.out.j.cells S1.out.z
 go_wp2_with (first | (refine jm_load S1.out.z rfl _ rfl rfl S1.out.j ?_) | (refine jm_store S1.out.z jmZ_z rfl _ _ rfl rfl rfl S1.out.o ?_; intro X zX qX bX nX))
 refine bodyPost_ret (dresults_cell_tmp Tryz.results22 _ _ (w.heap.size + 1) 36 _ (0, 0) _ rfl qX Tryz.underlying36 rfl (jm_info S1.out.z)) rfl ?_
 have bF := S1.out.b.trans (bX w.heap.size (by omega))
 exact ⟨m, rfl, HI.out.below bF, bF⟩
set_option maxRecDepth 100000 in
theorem jrnSave_busy (P : Nat → Prop) (m : Jm) (wl jl : List Jb) (A : Option Addr) (n cp : Nat) (st : List UInt8) (w : World) (hv : JIn P w m (m.of wl jl)) (hP : ∀ j, P j → j < w.heap.size) (hr : RdB w A n cp st) (hg : jnGoing (m.of wl jl) = 0) (hb : ¬ m.ph = 0 ∨ ¬ m.done = m.next) :
  Calls Tryz.prog 22 #[.agg (jmV m).toArray, .slice A n cp] w (RetJ P w (m.of wl jl) (8)) := by
 obtain ⟨V, hV⟩ : ∃ V, V = (w.alloc (.cells (jmV m).toArray 36)).alloc (.cells Tryz.zeroCells36 36) := ⟨_, rfl⟩
 have S := Lib.hid (js_new hv hV)
 have HV := Lib.hid hV
 have zV : V.heap.size = w.heap.size + 2 := by rw [hV]; simp
 have ZV := Lib.hid zV
 have C := Lib.hid (jrnGoing_any P m (m.of wl jl) V (hv.below S.out.b))
 have hn63 := hr.n63
 rw [hg] at C
 have hb2 : (m.ph != 0) = true ∨ ((m.ph != 0) = false ∧ ((m.done : Int) != (m.next : Int)) = true ∧ (m.done != m.next) = true) := by
  by_cases h : m.ph = 0
  ·right
   have := hb.resolve_left (fun e => e h)
   exact ⟨by simp [h], by simp; omega, by simp; omega⟩
  ·left; simp [h]
 have HB2 := Lib.hid hb2
 clear hg hb hb2
 have HI := Lib.hid hv
 have HP := Lib.hid hP
 have HR := Lib.hid hr
 clear hV zV hv hP hr
 go_enter Tryz.func22, Tryz.ntmps22
 go_wp2_with (first | (rw [← HV.out]) | (refine jm_load S.out.z rfl _ rfl rfl S.out.j ?_))
 refine C.out.mono ?_
 rintro e w1 ⟨rfl, hb1⟩
 have S1 := Lib.hid (S.out.up hb1)
 obtain ⟨⟨c0, c1, c2, c3, c4⟩, ⟨c37, c38, c39, c40, c41, c76, c77⟩, fz⟩ := S1.out.j.cells S1.out.z
 rcases HB2.out with p0 | ⟨p0, p1, p2⟩
 ·go_wp2_with (first | (refine jm_load S1.out.z rfl _ rfl rfl S1.out.j ?_) | (refine jm_store S1.out.z jmZ_z rfl _ _ rfl rfl rfl S1.out.o ?_; intro X zX qX bX nX))
  refine bodyPost_ret (dresults_cell_tmp Tryz.results22 _ _ (w.heap.size + 1) 36 _ (0, 0) _ rfl qX Tryz.underlying36 rfl (jm_info S1.out.z)) rfl ?_
  have bF := S1.out.b.trans (bX w.heap.size (by omega))
  exact ⟨m, rfl, HI.out.below bF, bF⟩
 ·go_wp2_with (first | (refine jm_load S1.out.z rfl _ rfl rfl S1.out.j ?_) | (refine jm_store S1.out.z jmZ_z rfl _ _ rfl rfl rfl S1.out.o ?_; intro X zX qX bX nX))
  refine bodyPost_ret (dresults_cell_tmp Tryz.results22 _ _ (w.heap.size + 1) 36 _ (0, 0) _ rfl qX Tryz.underlying36 rfl (jm_info S1.out.z)) rfl ?_
  have bF := S1.out.b.trans (bX w.heap.size (by omega))
  exact ⟨m, rfl, HI.out.below bF, bF⟩
set_option maxRecDepth 100000 in
theorem jrnSave_full (P : Nat → Prop) (m : Jm) (wl jl : List Jb) (A : Option Addr) (n cp : Nat) (st : List UInt8) (w : World) (hv : JIn P w m (m.of wl jl)) (hP : ∀ j, P j → j < w.heap.size) (hr : RdB w A n cp st) (hg : jnGoing (m.of wl jl) = 0) (h0 : m.ph = 0) (hd : m.done = m.next) (hf : 12288 < n ∨ m.g = 4294967295) :
  Calls Tryz.prog 22 #[.agg (jmV m).toArray, .slice A n cp] w (RetJ P w (m.of wl jl) (4)) := by
 obtain ⟨V, hV⟩ : ∃ V, V = (w.alloc (.cells (jmV m).toArray 36)).alloc (.cells Tryz.zeroCells36 36) := ⟨_, rfl⟩
 have S := Lib.hid (js_new hv hV)
 have HV := Lib.hid hV
 have zV : V.heap.size = w.heap.size + 2 := by rw [hV]; simp
 have ZV := Lib.hid zV
 have C := Lib.hid (jrnGoing_any P m (m.of wl jl) V (hv.below S.out.b))
 have hn63 := hr.n63
 rw [hg] at C
 have hb2 : decide ((12288 : Int) < (n : Int)) = true ∨ (decide ((12288 : Int) < (n : Int)) = false ∧ (m.g : Int) = 4294967295 ∧ m.g = 4294967295) := by
  by_cases h : 12288 < n
  ·left; exact decide_eq_true (by omega)
  ·right
   have := hf.resolve_left h
   exact ⟨decide_eq_false (by omega), by omega, this⟩
 have HB2 := Lib.hid hb2
 have H0 := Lib.hid h0
 have HD := Lib.hid hd
 clear hg hf hb2 h0 hd
 have HI := Lib.hid hv
 have HP := Lib.hid hP
 have HR := Lib.hid hr
 clear hV zV hv hP hr
 go_enter Tryz.func22, Tryz.ntmps22
 go_wp2_with (first | (rw [← HV.out]) | (refine jm_load S.out.z rfl _ rfl rfl S.out.j ?_))
 refine C.out.mono ?_
 rintro e w1 ⟨rfl, hb1⟩
 have S1 := Lib.hid (S.out.up hb1)
 obtain ⟨⟨c0, c1, c2, c3, c4⟩, ⟨c37, c38, c39, c40, c41, c76, c77⟩, fz⟩ := S1.out.j.cells S1.out.z
 rw [show m.ph = 0 from H0.out] at c38
 rw [show m.done = m.next from HD.out] at c3
 rcases HB2.out with p0 | ⟨p0, p1, p2⟩
 ·go_wp2_with (first | (refine jm_load S1.out.z rfl _ rfl rfl S1.out.j ?_) | (refine jm_store S1.out.z jmZ_z rfl _ _ rfl rfl rfl S1.out.o ?_; intro X zX qX bX nX))
  refine bodyPost_ret (dresults_cell_tmp Tryz.results22 _ _ (w.heap.size + 1) 36 _ (0, 0) _ rfl qX Tryz.underlying36 rfl (jm_info S1.out.z)) rfl ?_
  have bF := S1.out.b.trans (bX w.heap.size (by omega))
  exact ⟨m, rfl, HI.out.below bF, bF⟩
 ·rw [p2] at c0
  clear p1 p2
  go_wp2_with (first | (refine jm_load S1.out.z rfl _ rfl rfl S1.out.j ?_) | (refine jm_store S1.out.z jmZ_z rfl _ _ rfl rfl rfl S1.out.o ?_; intro X zX qX bX nX))
  refine bodyPost_ret (dresults_cell_tmp Tryz.results22 _ _ (w.heap.size + 1) 36 _ (0, 0) _ rfl qX Tryz.underlying36 rfl (jm_info S1.out.z)) rfl ?_
  have bF := S1.out.b.trans (bX w.heap.size (by omega))
  exact ⟨m, rfl, HI.out.below bF, bF⟩
set_option maxRecDepth 100000 in
theorem jrnSave_yes (P : Nat → Prop) (m : Jm) (wl jl : List Jb) (A : Option Addr) (n cp : Nat) (st : List UInt8) (w : World) (hv : JIn P w m (m.of wl jl)) (hP : ∀ j, P j → j < w.heap.size) (hr : RdB w A n cp st) (hg : jnGoing (m.of wl jl) = 0) (h0 : m.ph = 0) (hd : m.done = m.next) (hf : n ≤ 12288) (hgn : m.g < 4294967295) :
  Calls Tryz.prog 22 #[.agg (jmV m).toArray, .slice A n cp] w (RetJ P w (jnSaved (m.of wl jl) st) (0)) := by
 obtain ⟨V, hV⟩ : ∃ V, V = (w.alloc (.cells (jmV m).toArray 36)).alloc (.cells Tryz.zeroCells36 36) := ⟨_, rfl⟩
 have S := Lib.hid (js_new hv hV)
 have HV := Lib.hid hV
 have zV : V.heap.size = w.heap.size + 2 := by rw [hV]; simp
 have ZV := Lib.hid zV
 have C := Lib.hid (jrnGoing_any P m (m.of wl jl) V (hv.below S.out.b))
 have hn63 := hr.n63
 rw [hg] at C
 have p0 : decide ((12288 : Int) < (n : Int)) = false := decide_eq_false (by omega)
 have p1 : ((m.g : Int) == 4294967295) = false := beq_eq_false_iff_ne.2 (by omega)
 have p2 : (m.g == 4294967295) = false := beq_eq_false_iff_ne.2 (by omega)
 obtain ⟨GX, hGX⟩ : ∃ q, q = m.g + 1 := ⟨_, rfl⟩
 obtain ⟨SX, hSX⟩ : ∃ q, q = 1 - m.slot := ⟨_, rfl⟩
 have hsl := hv.1.slot
 have e1 : IntKind.u32.wrap ((m.g : Int) + 1) = (GX : Int) := by rw [IntKind.wrap_u32]; omega
 have hs01 : m.slot = 0 ∨ m.slot = 1 := by
  have hchk : jnChk (m.of wl jl) = true := by
   cases h : jnChk (m.of wl jl) with
   | true => rfl
   | false => unfold jnGoing at hg; rw [h] at hg; simp at hg
  unfold jnChk at hchk
  simp only [Bool.and_eq_true, decide_eq_true_eq] at hchk
  exact hchk.1
 have e2 : IntKind.i64.wrap (1 - m.slot) = SX := by rw [IntWalk.i64_in _ (by omega)]; omega
 have hSr : SX = 0 ∨ SX = 1 := by omega
 obtain ⟨DG, hDG⟩ : ∃ q, jnBase st = q := ⟨jnBase st, rfl⟩
 have hDl : DG.length = 32 := by rw [← hDG]; exact shOf_len _
 have C2 := Lib.hid (fun W (h : RdB W A n cp st) => jrnBase_any A n cp st W h (by omega))
 rw [hDG] at C2
 have C3 := Lib.hid (fun W (h : RdB W A n cp st) => jrnSplit_any A n cp st SX W h (by omega))
 obtain ⟨m5, hm5⟩ : ∃ q : Jm, { jmZ with g := GX, slot := SX, ch := DG, ph := 3, out := m.out, room := m.room } = q := ⟨_, rfl⟩
 have BL := Lib.hid (jmSaveB GX SX m.out m.room DG hDl)
 rw [hm5] at BL
 have hz5 : m5.z := by rw [← hm5]; exact ⟨hDl, jmZ_z.2⟩
 have HZ5 := Lib.hid hz5
 have HM5 := Lib.hid hm5
 have BS := Lib.hid (suB4 GX SX (n : Int) DG hDl)
 have HDG := Lib.hid hDG
 have HDL := Lib.hid hDl
 have HGX := Lib.hid hGX
 have HSX := Lib.hid hSX
 have HSR := Lib.hid hSr
 have HGR := Lib.hid (show GX < 4294967296 by omega)
 have H0 := Lib.hid h0
 have HD := Lib.hid hd
 have HN := Lib.hid hr.2.1
 obtain ⟨DV, hDV⟩ : ∃ z, z = dgA DG := ⟨_, rfl⟩
 obtain ⟨MV, hMV⟩ : ∃ z, z = (jmV m5).toArray := ⟨_, rfl⟩
 have HDV := Lib.hid hDV
 have HMV := Lib.hid hMV
 clear hg h0 hd hGX hSX hDG hDl hm5 hz5 hDV hMV
 have HI := Lib.hid hv
 have HP := Lib.hid hP
 have HR := Lib.hid hr
 clear hV zV hv hP hr
 go_enter Tryz.func22, Tryz.ntmps22
 go_wp2_with (first | (rw [← HV.out]) | (refine jm_load S.out.z rfl _ rfl rfl S.out.j ?_))
 refine C.out.mono ?_
 rintro e w1 ⟨rfl, hb1⟩
 have S1 := Lib.hid (S.out.up hb1)
 obtain ⟨⟨c0, c1, c2, c3, c4⟩, ⟨c37, c38, c39, c40, c41, c76, c77⟩, fz⟩ := S1.out.j.cells S1.out.z
 rw [show m.ph = 0 from H0.out] at c38
 rw [show m.done = m.next from HD.out] at c3
 have lq := S1.out.j.lt
 have HRD := Lib.hid (HR.out.below (below_then S.out.b hb1))
 go_wp2_with fail
 refine wp_region_seg (S := fun w' => Below w1.heap.size w1 w') 4 (brw9 15 3967) [(0, true), (1, true), (2, true), (3, true), (4, true), (5, true), (6, true), (8, true), (9, true), (10, true), (11, true)] (by kernel_rfl) (by kernel_rfl) (fun _ _ d _ _ h => by first | (cases d <;> exact h) | cases h.1) ((Below.refl w1.heap.size w1).drew) ?_
 have HB := (Below.refl w1.heap.size w1).drew
 iterate 11 (refine seg_take (v := ?_) rfl (Or.inl ⟨by rfl, ?_⟩) ?_; rotate_left; (focus (intro w' hw'; have j0 := (hw'.cell (p := ⟨w.heap.size, 0, none⟩) lq).trans c0; have j1 := (hw'.cell (p := ⟨w.heap.size, 1, none⟩) lq).trans c1; have j2 := (hw'.cell (p := ⟨w.heap.size, 40, none⟩) lq).trans c40; have j3 := (hw'.cell (p := ⟨w.heap.size, 76, none⟩) lq).trans c76; go_simp <;> with_reducible rfl)); try simp only [Act.put, pst3])
 refine seg_done (fun _ => ?_)
 refine wpAnyH_two (i := 7) (j := 13) (f := 3) (by kernel_rfl) ?_ ?_
 ·skip
  refine op_run rfl (fun K hK => ?_)
  go_simp
  refine (C2.out _ (HRD.out.below HB)).mono ?_
  rintro e_ wA ⟨rfl, hbA⟩
  rw [← HDV.out]
  have HB := below_then HB hbA
  refine hK.out _ _ (HB) ?_
  clear hK
  try simp only [Act.put, pst3]
  refine wpAnyH_seg (by kernel_rfl) (fun _ _ d _ _ h => by first | (cases d <;> exact h) | cases h.1) 0 (brw9 15 32767) [(12, true), (13, false), (14, false)] _ _ _ (by kernel_rfl) (HB) ?_
  refine seg_take (v := .agg MV) rfl (Or.inl ⟨by rfl, fun w' hw' => ?_⟩) ?_
  focus (rw [HMV.out]; exact rex_build rfl #[(0, .int .u32 (GX : Int)), (1, .int .i64 SX), (5, .agg DV), (7, .int .i64 3), (9, .int .i64 m.out), (11, .int .i64 m.room)] rfl (by rw [HDV.out]; exact BL.out w'))
  try simp only [Act.put, pst3]
  refine seg_run rfl (fun K hK => ?_)
  rw [if_pos (by rfl)]
  refine op_new Tryz.zeroCells36 36 (fun w => by go_simp) ?_
  intro gL wL eL hL HBl hLsz
  have hLJ : JmAt wL gL jmZ := by unfold JmAt; rw [← jmZ_zero]; exact hL
  have hgL : w1.heap.size ≤ gL := by have := HB.size; omega
  have HB := below_then HB HBl
  refine hK.out _ _ (HB) ?_
  clear hK
  try simp only [Act.put, pst3]
  refine seg_run rfl (fun K hK => ?_)
  rw [if_pos (by rfl)]
  refine op_jmst (h := gL) HZ5.out jmZ_z _ _ rfl rfl (congrArg Value.agg HMV.out) (by first | exact hLJ | exact hLJ.up hbA) ?_
  intro X5 zX5 qX5 bX5 nX5
  have HB := HB.trans (bX5 _ hgL)
  refine hK.out _ _ (HB) ?_
  clear hK
  try simp only [Act.put, pst3]
  refine seg_done (fun _ => ?_)
  refine wpAnyH_done (by kernel_rfl) ?_ _
  have lo := S1.out.o.lt
  have S5 := Lib.hid (show JS w gL (w.heap.size + 1) m5 X5 from ⟨qX5, S1.out.o.up HB, below_then S1.out.b HB, ⟨by omega, by omega, by omega⟩, HZ5.out⟩)
  have HCH := Lib.hid (congrArg Jm.ch HM5.out).symm
  have EG := Lib.hid (congrArg Jm.g HM5.out).symm
  have ESL := Lib.hid (congrArg Jm.slot HM5.out).symm
  have HGL := Lib.hid hgL
  have k0 : X5.cell? ⟨gL, 0, none⟩ = some (.int .u32 (GX : Int)) := by have := S5.out.j.c0; rw [EG.out] at this; exact this
  have k1 : X5.cell? ⟨gL, 1, none⟩ = some (.int .i64 SX) := by have := S5.out.j.c1; rw [ESL.out] at this; exact this
  clear c0 c1 c2 c3 c4 c37 c38 c39 c40 c41 c76 c77 fz hLJ hL hLsz eL hgL lo lq
  go_wp2_with (first
   | (refine jm_dig S5.out.z rfl _ rfl rfl S5.out.j ?_; rw [HCH.out])
   | (refine wpList_of_exec rfl (rex_build rfl #[(0, .int .u32 (GX : Int)), (1, .int .i64 SX), (2, .int .i64 (n : Int)), (3, .agg (dgA DG))] rfl (BS.out _)) ?_)
   | (refine jm_sset S5.out.z rfl _ _ rfl rfl S5.out.j ⟨GX, SX, n, DG⟩ rfl HDL.out ?_; intro X6 zX6 q6 b6 n6; have S6 := Lib.hid (S5.out.other q6 ⟨S5.out.z.1, HDL.out⟩ n6 (b6 _ S5.out.n.1)); have k1 : X6.cell? ⟨gL, 1, none⟩ = some (.int .i64 SX) := (by have := S6.out.j.c1; rw [show ({ m5 with su := ⟨GX, SX, n, DG⟩ } : Jm).slot = m5.slot from rfl, ESL.out] at this; exact this)))
  refine (C3.out X6 (HR.out.below S6.out.b)).mono ?_
  rintro e w7 ⟨A7, n7, c7, rfl, o7, b7⟩
  have S7 := Lib.hid (S6.out.up b7)
  have O7 := Lib.hid o7
  have B7 := Lib.hid b7
  have f39 := S7.out.j.fr 39
  have d39 := S7.out.j.c39 S7.out.z
  obtain ⟨m8, Y8, HM8, HY8, S8⟩ := (S7.out.s39 A7 n7 c7).named
  clear k0 k1 o7 b7
  go_wp2_with (first | (rw [← HY8.out]; refine jm_load S8.out.z rfl _ rfl rfl S8.out.j ?_) | (refine jm_store S8.out.z jmZ_z rfl _ _ rfl rfl rfl S8.out.o ?_; intro X zX qX bX nX))
  refine bodyPost_ret (dresults_cell_tmp Tryz.results22 _ _ (w.heap.size + 1) 36 _ (0, 0) _ rfl qX Tryz.underlying36 rfl (jm_info S8.out.z)) rfl ?_
  have bF := S8.out.b.trans (bX w.heap.size (by omega))
  have l6 := S6.out.j.lt
  have l6o := S6.out.o.lt
  have l6b := S6.out.b.size
  have hag0 : AgrP (fun j => j = gL ∨ j = w.heap.size + 1) w7 Y8 := by rw [HY8.out]; exact (AgrP.refl _ w7).set (.inl rfl) _
  have hag : AgrP (fun j => j = gL ∨ j = w.heap.size + 1) w7 X := hag0.one (.inr rfl) zX nX
  have hwx : WsIn P X A7 n7 c7 (jnSplit st SX) := (O7.out.agr hag (fun j hj => by rcases hj with h | h <;> omega)).inn (fun j hj => by have := HP.out j hj; omega)
  refine ⟨m8, rfl, ?_, bF⟩
  have hok := HI.out.1
  have hn := HN.out
  have eS : jnSaved (m.of wl jl) st = ({ m5 with ja := A7, jn := n7, jc := c7, su := ⟨GX, SX, n, DG⟩ } : Jm).of [] (jnSplit st SX) := by
   rw [← HM5.out, HSX.out, HGX.out, ← HDG.out, ← hn]; rfl
  rw [eS, ← HM8.out]
  have hgo := HGR.out
  refine ⟨⟨?_, ?_, ?_, ?_, ?_, ?_, ?_, ?_, ?_, ?_, ?_, ?_, ?_, ?_⟩, rfl, (by rw [← HM5.out]; exact ws_nil _ _), hwx⟩
  ·show m5.g < _; rw [EG.out]; omega
  ·show _ ≤ m5.slot ∧ m5.slot ≤ _; rw [ESL.out]; have := HSR.out; omega
  ·show m5.next < _; rw [← HM5.out]; show (0 : Nat) < _; omega
  ·show m5.done < _; rw [← HM5.out]; show (0 : Nat) < _; omega
  ·show m5.will < _; rw [← HM5.out]; show (0 : Nat) < _; omega
  ·show m5.ch.length = 32; rw [HCH.out]; exact HDL.out
  ·show _ ≤ m5.ph ∧ m5.ph ≤ _; rw [← HM5.out]; show _ ≤ (3 : Int) ∧ (3 : Int) ≤ _; omega
  ·show _ ≤ m5.out ∧ m5.out ≤ _; rw [← HM5.out]; exact hok.out
  ·show GX < _; omega
  ·show _ ≤ SX ∧ SX ≤ _; have := HSR.out; omega
  ·show _ ≤ (n : Int) ∧ (n : Int) ≤ _; omega
  ·exact HDL.out
  ·show _ ≤ m5.room ∧ m5.room ≤ _; rw [← HM5.out]; exact hok.room
  ·show _ ≤ m5.err ∧ m5.err ≤ _; rw [← HM5.out]; show _ ≤ (0 : Int) ∧ (0 : Int) ≤ _; omega
 ·skip
  refine op_run rfl (fun K hK => ?_)
  rw [if_pos (by rfl)]
  refine op_new Tryz.zeroCells36 36 (fun w => by go_simp) ?_
  intro gL wL eL hL HBl hLsz
  have hLJ : JmAt wL gL jmZ := by unfold JmAt; rw [← jmZ_zero]; exact hL
  have hgL : w1.heap.size ≤ gL := by have := HB.size; omega
  have HB := below_then HB HBl
  refine hK.out _ _ (HB) ?_
  clear hK
  try simp only [Act.put, pst3]
  refine wpAnyH_seg (by kernel_rfl) (fun _ _ d _ _ h => by first | (cases d <;> exact h) | cases h.1) 0 (brw9 15 32767) [(7, false), (12, true), (14, false)] _ _ _ (by kernel_rfl) (HB) ?_
  refine seg_run rfl (fun K hK => ?_)
  go_simp
  refine (C2.out _ (HRD.out.below HB)).mono ?_
  rintro e_ wA ⟨rfl, hbA⟩
  rw [← HDV.out]
  have HB := below_then HB hbA
  refine hK.out _ _ (HB) ?_
  clear hK
  try simp only [Act.put, pst3]
  refine seg_take (v := .agg MV) rfl (Or.inl ⟨by rfl, fun w' hw' => ?_⟩) ?_
  focus (rw [HMV.out]; exact rex_build rfl #[(0, .int .u32 (GX : Int)), (1, .int .i64 SX), (5, .agg DV), (7, .int .i64 3), (9, .int .i64 m.out), (11, .int .i64 m.room)] rfl (by rw [HDV.out]; exact BL.out w'))
  try simp only [Act.put, pst3]
  refine seg_run rfl (fun K hK => ?_)
  rw [if_pos (by rfl)]
  refine op_jmst (h := gL) HZ5.out jmZ_z _ _ rfl rfl (congrArg Value.agg HMV.out) (by first | exact hLJ | exact hLJ.up hbA) ?_
  intro X5 zX5 qX5 bX5 nX5
  have HB := HB.trans (bX5 _ hgL)
  refine hK.out _ _ (HB) ?_
  clear hK
  try simp only [Act.put, pst3]
  refine seg_done (fun _ => ?_)
  refine wpAnyH_done (by kernel_rfl) ?_ _
  have lo := S1.out.o.lt
  have S5 := Lib.hid (show JS w gL (w.heap.size + 1) m5 X5 from ⟨qX5, S1.out.o.up HB, below_then S1.out.b HB, ⟨by omega, by omega, by omega⟩, HZ5.out⟩)
  have HCH := Lib.hid (congrArg Jm.ch HM5.out).symm
  have EG := Lib.hid (congrArg Jm.g HM5.out).symm
  have ESL := Lib.hid (congrArg Jm.slot HM5.out).symm
  have HGL := Lib.hid hgL
  have k0 : X5.cell? ⟨gL, 0, none⟩ = some (.int .u32 (GX : Int)) := by have := S5.out.j.c0; rw [EG.out] at this; exact this
  have k1 : X5.cell? ⟨gL, 1, none⟩ = some (.int .i64 SX) := by have := S5.out.j.c1; rw [ESL.out] at this; exact this
  clear c0 c1 c2 c3 c4 c37 c38 c39 c40 c41 c76 c77 fz hLJ hL hLsz eL hgL lo lq
  go_wp2_with (first
   | (refine jm_dig S5.out.z rfl _ rfl rfl S5.out.j ?_; rw [HCH.out])
   | (refine wpList_of_exec rfl (rex_build rfl #[(0, .int .u32 (GX : Int)), (1, .int .i64 SX), (2, .int .i64 (n : Int)), (3, .agg (dgA DG))] rfl (BS.out _)) ?_)
   | (refine jm_sset S5.out.z rfl _ _ rfl rfl S5.out.j ⟨GX, SX, n, DG⟩ rfl HDL.out ?_; intro X6 zX6 q6 b6 n6; have S6 := Lib.hid (S5.out.other q6 ⟨S5.out.z.1, HDL.out⟩ n6 (b6 _ S5.out.n.1)); have k1 : X6.cell? ⟨gL, 1, none⟩ = some (.int .i64 SX) := (by have := S6.out.j.c1; rw [show ({ m5 with su := ⟨GX, SX, n, DG⟩ } : Jm).slot = m5.slot from rfl, ESL.out] at this; exact this)))
  refine (C3.out X6 (HR.out.below S6.out.b)).mono ?_
  rintro e w7 ⟨A7, n7, c7, rfl, o7, b7⟩
  have S7 := Lib.hid (S6.out.up b7)
  have O7 := Lib.hid o7
  have B7 := Lib.hid b7
  have f39 := S7.out.j.fr 39
  have d39 := S7.out.j.c39 S7.out.z
  obtain ⟨m8, Y8, HM8, HY8, S8⟩ := (S7.out.s39 A7 n7 c7).named
  clear k0 k1 o7 b7
  go_wp2_with (first | (rw [← HY8.out]; refine jm_load S8.out.z rfl _ rfl rfl S8.out.j ?_) | (refine jm_store S8.out.z jmZ_z rfl _ _ rfl rfl rfl S8.out.o ?_; intro X zX qX bX nX))
  refine bodyPost_ret (dresults_cell_tmp Tryz.results22 _ _ (w.heap.size + 1) 36 _ (0, 0) _ rfl qX Tryz.underlying36 rfl (jm_info S8.out.z)) rfl ?_
  have bF := S8.out.b.trans (bX w.heap.size (by omega))
  have l6 := S6.out.j.lt
  have l6o := S6.out.o.lt
  have l6b := S6.out.b.size
  have hag0 : AgrP (fun j => j = gL ∨ j = w.heap.size + 1) w7 Y8 := by rw [HY8.out]; exact (AgrP.refl _ w7).set (.inl rfl) _
  have hag : AgrP (fun j => j = gL ∨ j = w.heap.size + 1) w7 X := hag0.one (.inr rfl) zX nX
  have hwx : WsIn P X A7 n7 c7 (jnSplit st SX) := (O7.out.agr hag (fun j hj => by rcases hj with h | h <;> omega)).inn (fun j hj => by have := HP.out j hj; omega)
  refine ⟨m8, rfl, ?_, bF⟩
  have hok := HI.out.1
  have hn := HN.out
  have eS : jnSaved (m.of wl jl) st = ({ m5 with ja := A7, jn := n7, jc := c7, su := ⟨GX, SX, n, DG⟩ } : Jm).of [] (jnSplit st SX) := by
   rw [← HM5.out, HSX.out, HGX.out, ← HDG.out, ← hn]; rfl
  rw [eS, ← HM8.out]
  have hgo := HGR.out
  refine ⟨⟨?_, ?_, ?_, ?_, ?_, ?_, ?_, ?_, ?_, ?_, ?_, ?_, ?_, ?_⟩, rfl, (by rw [← HM5.out]; exact ws_nil _ _), hwx⟩
  ·show m5.g < _; rw [EG.out]; omega
  ·show _ ≤ m5.slot ∧ m5.slot ≤ _; rw [ESL.out]; have := HSR.out; omega
  ·show m5.next < _; rw [← HM5.out]; show (0 : Nat) < _; omega
  ·show m5.done < _; rw [← HM5.out]; show (0 : Nat) < _; omega
  ·show m5.will < _; rw [← HM5.out]; show (0 : Nat) < _; omega
  ·show m5.ch.length = 32; rw [HCH.out]; exact HDL.out
  ·show _ ≤ m5.ph ∧ m5.ph ≤ _; rw [← HM5.out]; show _ ≤ (3 : Int) ∧ (3 : Int) ≤ _; omega
  ·show _ ≤ m5.out ∧ m5.out ≤ _; rw [← HM5.out]; exact hok.out
  ·show GX < _; omega
  ·show _ ≤ SX ∧ SX ≤ _; have := HSR.out; omega
  ·show _ ≤ (n : Int) ∧ (n : Int) ≤ _; omega
  ·exact HDL.out
  ·show _ ≤ m5.room ∧ m5.room ≤ _; rw [← HM5.out]; exact hok.room
  ·show _ ≤ m5.err ∧ m5.err ≤ _; rw [← HM5.out]; show _ ≤ (0 : Int) ∧ (0 : Int) ≤ _; omega
theorem jrnSave_any (P : Nat → Prop) (m : Jm) (J : Jn) (A : Option Addr) (n cp : Nat) (st : List UInt8) (w : World) (hv : JIn P w m J) (hP : ∀ j, P j → j < w.heap.size) (hr : RdB w A n cp st) :
  Calls Tryz.prog 22 #[.agg (jmV m).toArray, .slice A n cp] w (RetJ P w (jnSave J st) (jnSaveE J st)) := by
 obtain ⟨wl, jl, rfl⟩ : ∃ wl jl, J = m.of wl jl := ⟨_, _, jof hv⟩
 have hl : st.length = n := hr.2.1
 by_cases hg : jnGoing (m.of wl jl) = 0
 ·by_cases hb : ¬ m.ph = 0 ∨ ¬ m.done = m.next
  ·have e : jnSaveE (m.of wl jl) st = 8 := by unfold jnSaveE; rw [if_neg (fun h => h hg), if_pos (show (m.of wl jl).ph ≠ 0 ∨ (m.of wl jl).done ≠ (m.of wl jl).next from hb)]
   have e2 : jnSave (m.of wl jl) st = m.of wl jl := by unfold jnSave; rw [e]; rfl
   rw [e, e2]; exact jrnSave_busy P m wl jl A n cp st w hv hP hr hg hb
  ·have h0 : m.ph = 0 := by by_cases h : m.ph = 0; exact h; exact absurd (.inl h) hb
   have hd : m.done = m.next := by by_cases h : m.done = m.next; exact h; exact absurd (.inr h) hb
   by_cases hf : 12288 < n ∨ m.g = 4294967295
   ·have e : jnSaveE (m.of wl jl) st = 4 := by unfold jnSaveE; rw [if_neg (fun h => h hg), if_neg (show ¬ ((m.of wl jl).ph ≠ 0 ∨ (m.of wl jl).done ≠ (m.of wl jl).next) from hb), if_pos (show 12288 < st.length ∨ (m.of wl jl).g = 4294967295 by rw [hl]; exact hf)]
    have e2 : jnSave (m.of wl jl) st = m.of wl jl := by unfold jnSave; rw [e]; rfl
    rw [e, e2]; exact jrnSave_full P m wl jl A n cp st w hv hP hr hg h0 hd hf
   ·have e : jnSaveE (m.of wl jl) st = 0 := by unfold jnSaveE; rw [if_neg (fun h => h hg), if_neg (show ¬ ((m.of wl jl).ph ≠ 0 ∨ (m.of wl jl).done ≠ (m.of wl jl).next) from hb), if_neg (show ¬ (12288 < st.length ∨ (m.of wl jl).g = 4294967295) by rw [hl]; exact hf)]
    have e2 : jnSave (m.of wl jl) st = jnSaved (m.of wl jl) st := by unfold jnSave; rw [if_pos e]
    have := hv.1.g
    rw [e, e2]; exact jrnSave_yes P m wl jl A n cp st w hv hP hr hg h0 hd (by omega) (by have : m.g < 4294967296 := hv.1.g; omega)
 ·have e : jnSaveE (m.of wl jl) st = jnGoing (m.of wl jl) := by unfold jnSaveE; rw [if_pos hg]
  have e2 : jnSave (m.of wl jl) st = m.of wl jl := by unfold jnSave; rw [e, if_neg hg]
  rw [e, e2]; exact jrnSave_stop P m wl jl A n cp st w hv hP hr hg
set_option maxHeartbeats 8000000
theorem SecsI.agr {w0 w W : World} {g n i : Nat} {f : Nat → List UInt8} (h : SecsI w0 g n f i w) (ha : ∀ j, w0.heap.size ≤ j → j < w.heap.size → W.heap[j]? = w.heap[j]?) : SecsI w0 g n f i W := by
 obtain ⟨vs, h1, h2⟩ := h
 refine ⟨vs, own_agr h1 ha, fun j hj => ?_⟩
 obtain ⟨A, m, c, h3, h4⟩ := h2 j hj
 exact ⟨A, m, c, h3, own_agr h4 ha⟩
set_option maxHeartbeats 8000000
theorem dkFlush_ok {D : Dk} (h : dkOk D = true) : dkFlush D = dkLeft D (fun _ => true) ∧ dkOk (dkFlush D) = true ∧ dkE D = 0 ∧ (dkFlush D).k = [] := by
 have e : dkFlush D = dkLeft D (fun _ => true) := by unfold dkFlush; rw [if_pos h]
 exact ⟨e, by rw [e]; exact dkLeft_ok D _ h, by unfold dkE; rw [if_pos h], by rw [e]; rfl⟩
set_option maxHeartbeats 8000000
def RetDkN (w : World) (D : Dk) (er : Int) (e : Ending) (w' : World) : Prop :=
 ∃ S sn sc K kn kc, e = .returned (.tuple #[.agg #[.slice S sn sc, .slice K kn kc], .int .i64 er]) ∧ Below w.heap.size w w' ∧ ∀ W, (∀ j, w.heap.size ≤ j → j < w'.heap.size → W.heap[j]? = w'.heap[j]?) → RdDk W S sn sc K kn kc D
theorem dskFlushN_any (S : Option Addr) (sn sc : Nat) (K : Option Addr) (kn kc : Nat) (D : Dk) (w : World) (hr : RdDk w S sn sc K kn kc D) (hok : dkOk D = true) :
  Calls Tryz.prog 80 #[.agg #[.slice S sn sc, .slice K kn kc]] w (RetDkN w (dkFlush D) (dkE D)) := by
 obtain ⟨V, hV⟩ : ∃ V, V = (w.alloc (.cells #[.slice S sn sc, .slice K kn kc] 40)).alloc (.cells #[.slice none 0 0, .slice none 0 0] 40) := ⟨_, rfl⟩
 have bV : Below w.heap.size w V := by rw [hV]; exact ((below_self w).alloc (Nat.le_refl _) _).alloc (by simp) _
 have qV : Hid (DkAt V w.heap.size S sn sc K kn kc) := by rw [hV]; exact Lib.hid (drw_old _ (drw_at _ rfl))
 have rV : Hid (DkAt V (w.heap.size + 1) none 0 0 none 0 0) := by rw [hV]; exact Lib.hid (drw_at _ (by simp))
 have HV := Lib.hid hV
 have H1 := Lib.hid (dskCheck_any S sn sc K kn kc D V (hr.below bV))
 clear hV
 unfold dkFlush dkE
 rw [hok] at H1
 rw [if_pos hok, if_pos hok]
 have H2 := Lib.hid (fun W (hb : Below V.heap.size V W) => dskLeft_any 121 #[] S sn sc K kn kc D W (fun _ => true) (hr.below (below_then bV hb)) hok (fun args W => by go_simp) (fun W i _ _ => dskFlush1_any i W))
 have HOK := Lib.hid hok
 clear hok
 go_enter Tryz.func80, Tryz.ntmps80
 go_wp2_with fail
 rw [← HV.out]
 refine H1.out.mono ?_
 rintro e w2 ⟨rfl, hb2⟩
 have q2 := qV.out.up hb2
 have x0 := q2.c0
 have x1 := q2.c1
 have B2 := below_then bV hb2
 clear q2
 go_wp2_with fail
 refine (H2.out w2 hb2).mono ?_
 rintro e w3 ⟨g3, rfl, hr3, hb3⟩
 have r3 := (rV.out.up hb2).up hb3
 have y0 := r3.c0
 have y1 := r3.c1
 have f0 := r3.fr 0
 have f1 := r3.fr 1
 have QS := Lib.hid (r3.s01 (some ⟨g3, 0, none⟩) sn sn none 0 0)
 have B3 := below_then B2 hb3
 have HR := Lib.hid hr3
 have R3 := Lib.hid r3
 clear r3 hr3 x0 x1
 go_wp2_with fail
 refine bodyPost_ret (dresults_cell_tmp Tryz.results80 _ _ (w.heap.size + 1) 40 _ (0, 0) _ rfl QS.out Tryz.underlying40 rfl (dkInfo ..)) rfl ?_
 exact ⟨_, sn, sn, none, 0, 0, rfl, below2 B3 (by omega) _ _, fun W hag => SecsI.disk (SecsI.agr ((HR.out.far R3.out (by decide) (by decide) 0 _).far (R3.out.s0 (some ⟨g3, 0, none⟩) sn sn) (by decide) (by decide) 1 _) (fun j hj hj2 => hag j (by have := B2.size; omega) hj2)) hr.sl (by have := ((dkOk_iff D).1 HOK.out).1; have := hr.sl; omega)⟩
theorem vFlushN {P : Nat → Prop} {w : World} {AV : Array Value} {D : Dk} (v : DkVal AV w D) (hok : dkOk D = true) (hP : ∀ j, P j → j < w.heap.size) : Calls Tryz.prog 80 #[.agg AV] w (fun e w' => ∃ AV', e = .returned (.tuple #[.agg AV', .int .i64 0]) ∧ DkIn P w' AV' (dkFlush D) ∧ Below w.heap.size w w') := by
 obtain ⟨S, sn, sc, K, kn, kc, rfl, r⟩ := v
 refine (dskFlushN_any S sn sc K kn kc D w r hok).mono ?_
 rintro e w' ⟨S2, sn2, sc2, K2, kn2, kc2, h1, h2, h3⟩
 have e0 : dkE D = 0 := by unfold dkE; rw [if_pos hok]
 rw [e0] at h1
 have hk : (dkFlush D).k = [] := (dkFlush_ok hok).2.2.2
 refine ⟨_, h1, ⟨S2, sn2, sc2, K2, kn2, kc2, rfl, h3 w' (fun _ _ _ => rfl), fun W hW => ?_⟩, h2⟩
 have hd := h3 W (fun j hj hj2 => hW.2.2.2.2 j hj2 (fun hp => by have := hP j hp; omega))
 refine ⟨hd.1, fun us hus => ?_⟩
 obtain ⟨us2, hu2⟩ := hd.2
 have e1 : us = us2 := by
  have a := hus.2.2.2.2.length
  have b := hu2.2.2.2.2.length
  rw [hk] at a b
  have a' : us = [] := List.eq_nil_of_length_eq_zero (by simpa using a)
  have b' : us2 = [] := List.eq_nil_of_length_eq_zero (by simpa using b)
  rw [a', b']
 rw [e1]; exact hu2
end Go.Proofs.YtpahicfnhhhifaaGreat
namespace Go.Proofs.YtpahicfnhhhifaaGreat
set_option maxRecDepth 20000
set_option maxHeartbeats 1000000
theorem dkAsk_in (D : Dk) (h : dkOk D = true) (i : Nat) (hi : i < D.s.length) : dkAsk D (i : Int) = 0 := by
 unfold dkAsk dkHas
 rw [if_neg (by simp [h]), if_neg (by simp; omega)]
theorem dkRead_eq (D : Dk) (h : dkOk D = true) (i : Nat) (hi : i < D.s.length) : dkRead D (i : Int) = dkAt D (fun _ => true) i := by
 unfold dkRead
 rw [if_pos (dkAsk_in D h i hi)]
 simp
theorem dkLast_app (l : List (Int × List UInt8)) (x : Int × List UInt8) (kept : Nat → Bool) (i : Int) : ∀ n, n ≤ l.length → dkLast (l ++ [x]) kept i n = dkLast l kept i n
 | 0, _ => rfl
 | n + 1, h => by
  unfold dkLast
  have e : (l ++ [x]).getD n (0, []) = l.getD n (0, []) := by simp [List.getD, List.getElem?_append_left (show n < l.length by omega)]
  rw [e, dkLast_app l x kept i n (by omega)]
theorem dkLast_snoc (l : List (Int × List UInt8)) (x : Int × List UInt8) (kept : Nat → Bool) (i : Int) : dkLast (l ++ [x]) kept i (l.length + 1) = if kept l.length = true ∧ x.1 = i then some x.2 else dkLast l kept i l.length := by
 conv => lhs; unfold dkLast
 have e : (l ++ [x]).getD l.length (0, []) = x := by simp [List.getD]
 rw [e, dkLast_app l x kept i l.length (Nat.le_refl _)]
theorem dkAt_snoc (s : List (List UInt8)) (l : List (Int × List UInt8)) (x : Int × List UInt8) (kept : Nat → Bool) (i : Nat) : dkAt ⟨s, l ++ [x]⟩ kept i = if kept l.length = true ∧ x.1 = (i : Int) then x.2 else dkAt ⟨s, l⟩ kept i := by
 unfold dkAt
 simp only [List.length_append, List.length_singleton, dkLast_snoc]
 split <;> rfl
theorem dkWrite_in (D : Dk) (h : dkOk D = true) (a : Nat) (ha : a < D.s.length) (b : List UInt8) (hb : b.length = 256) (hk : D.k.length < 512) :
  dkWriteE D (a : Int) b = 0 ∧ dkWrite D (a : Int) b = ⟨D.s, D.k ++ [((a : Int), b)]⟩ ∧ dkOk (dkWrite D (a : Int) b) = true := by
 have e : dkWriteE D (a : Int) b = 0 := by
  unfold dkWriteE
  rw [if_neg (by rw [dkAsk_in D h a ha]; simp), if_neg (by omega), if_neg (by omega)]
 have e2 : dkWrite D (a : Int) b = ⟨D.s, D.k ++ [((a : Int), b)]⟩ := by unfold dkWrite; rw [if_pos e]
 refine ⟨e, e2, ?_⟩
 rw [e2]
 obtain ⟨h1, h2, h3, h4⟩ := (dkOk_iff D).1 h
 refine (dkOk_iff _).2 ⟨h1, by simp; omega, h3, fun p hp => ?_⟩
 rcases List.mem_append.1 hp with hp | hp
 ·exact h4 p hp
 ·obtain rfl : p = ((a : Int), b) := by simpa using hp
  exact ⟨by unfold dkHas; simp; omega, hb⟩
theorem dkRead_write (D : Dk) (h : dkOk D = true) (a : Nat) (ha : a < D.s.length) (b : List UInt8) (hb : b.length = 256) (hk : D.k.length < 512) (i : Nat) (hi : i < D.s.length) :
  dkRead (dkWrite D (a : Int) b) (i : Int) = if a = i then b else dkRead D (i : Int) := by
 obtain ⟨_, e2, h2⟩ := dkWrite_in D h a ha b hb hk
 rw [dkRead_eq _ h2 i (by rw [e2]; exact hi), dkRead_eq D h i hi, e2, dkAt_snoc]
 by_cases e : a = i
 ·rw [if_pos ⟨rfl, by simp [e]⟩, if_pos e]
 ·rw [if_neg (by simp; omega), if_neg e]
theorem dkLeft_read (D : Dk) (h : dkOk D = true) (kept : Nat → Bool) (i : Nat) (hi : i < D.s.length) : dkRead (dkLeft D kept) (i : Int) = dkAt D kept i := by
 rw [dkRead_eq _ (dkLeft_ok D kept h) i (by rw [dkLeft_len]; exact hi)]
 unfold dkAt
 rw [show (dkLeft D kept).k = [] from rfl]
 have e : (dkLeft D kept).s.getD i [] = dkAt D kept i := dkLeft_s D kept i hi
 rw [e]
 rfl
theorem dkFlush_eq (D : Dk) (h : dkOk D = true) : dkFlush D = dkLeft D (fun _ => true) := by unfold dkFlush; rw [if_pos h]
theorem jnWrites_in : ∀ (l : List Jb) (D : Dk), dkOk D = true → D.k.length + l.length ≤ 512 → (∀ j ∈ l, 0 ≤ j.1 ∧ j.1 < (D.s.length : Int) ∧ j.2.length = 256) → jnWrites D l = ⟨D.s, D.k ++ l⟩ ∧ dkOk (jnWrites D l) = true
 | [], D, h, _, _ => ⟨by unfold jnWrites; simp, h⟩
 | (a, b) :: l, D, h, hk, hl => by
  obtain ⟨h1, h2, h3⟩ := hl (a, b) (by simp)
  simp only at h1 h2 h3
  simp only [List.length_cons] at hk
  obtain ⟨k, rfl⟩ : ∃ k : Nat, a = (k : Int) := ⟨a.toNat, by omega⟩
  obtain ⟨e1, e2, e3⟩ := dkWrite_in D h k (by omega) b h3 (by omega)
  have r := jnWrites_in l (dkWrite D (k : Int) b) e3 (by rw [e2]; simp; omega) (by rw [e2]; exact fun j hj => hl j (by simp [hj]))
  have e : jnWrites D (((k : Int), b) :: l) = jnWrites (dkWrite D (k : Int) b) l := rfl
  rw [e]
  refine ⟨?_, r.2⟩
  rw [r.1, e2]
  simp
theorem jnSec_len (state : List UInt8) (i : Nat) : (jnSec state i).length = 256 := by unfold jnSec; simp
theorem jnSplitK_len (state : List UInt8) (at_ : Int) (n : Nat) : (jnSplitK state at_ n).length = n := by unfold jnSplitK; simp
theorem jnSplitK_snoc (state : List UInt8) (at_ : Int) (n : Nat) : jnSplitK state at_ (n + 1) = jnSplitK state at_ n ++ [(at_ + (n : Int), jnSec state n)] := by unfold jnSplitK; simp [List.range_succ]
theorem jnSplitK_mem (state : List UInt8) (at_ : Int) (n : Nat) (j : Jb) (h : j ∈ jnSplitK state at_ n) : ∃ i, i < n ∧ j = (at_ + (i : Int), jnSec state i) := by
 unfold jnSplitK at h
 obtain ⟨i, hi, rfl⟩ := List.mem_map.1 h
 exact ⟨i, by simpa using hi, rfl⟩
theorem dkAt_split (s : List (List UInt8)) (state : List UInt8) (p i : Nat) : ∀ n, dkAt ⟨s, jnSplitK state (p : Int) n⟩ (fun _ => true) i = if p ≤ i ∧ i < p + n then jnSec state (i - p) else s.getD i []
 | 0 => by rw [if_neg (by omega)]; rfl
 | n + 1 => by
  rw [jnSplitK_snoc, dkAt_snoc, dkAt_split s state p i n]
  by_cases e : i = p + n
  ·subst e
   rw [if_pos ⟨rfl, by simp⟩, if_pos (by omega)]
   simp
  ·rw [if_neg (by simp; omega)]
   by_cases h : p ≤ i ∧ i < p + n
   ·rw [if_pos h, if_pos (by omega)]
   ·rw [if_neg h, if_neg (by omega)]
theorem jnSec_eq (state : List UInt8) (i : Nat) (h : 256 * i < state.length) : jnSec state i = ((state ++ List.replicate 256 0).drop (256 * i)).take 256 := by
 unfold jnSec
 rw [List.drop_append_of_le_length (by omega), List.take_append, List.take_append, List.take_take, Nat.min_self]
 simp
 omega
theorem jnHadK_of (D : Dk) (state : List UInt8) (at_ : Int) : ∀ k, k ≤ (state.length + 255) / 256 → (∀ i : Nat, i < k → dkRead D (at_ + (i : Int)) = jnSec state i) → jnHadK D at_ k = (state ++ List.replicate 256 0).take (256 * k)
 | 0, _, _ => by simp [jnHadK]
 | k + 1, hk, h => by
  unfold jnHadK
  rw [jnHadK_of D state at_ k (by omega) (fun i hi => h i (by omega)), h k (by omega), jnSec_eq state k (by omega), show 256 * (k + 1) = 256 * k + 256 by omega, List.take_add]
theorem jnHad_of (D : Dk) (state : List UInt8) (s : Su) (hl : s.l = (state.length : Int)) (h : ∀ i : Nat, i < (state.length + 255) / 256 → dkRead D ((if s.s = 0 then 2 else 50) + (i : Int)) = jnSec state i) : jnHad D s = state := by
 unfold jnHad
 have e : s.l.toNat = state.length := by omega
 rw [e, jnHadK_of D state _ _ (Nat.le_refl _) h, List.take_take, Nat.min_eq_left (by omega), List.take_append_of_le_length (Nat.le_refl _), List.take_length]
theorem suGood_zeros (h : Nat) : suGood (List.replicate 256 0) h = false := by
 unfold suGood
 rw [decide_eq_false]
 rintro ⟨h1, _⟩
 obtain ⟨_, _, _, hc, hp⟩ := suGet_ok _ h1
 have := congrArg (fun l => l.getD 0 0) hp
 simp only [suPutL, hc, if_true, suL, suB, crcClosed] at this
 exact absurd this (by decide)
theorem rcFol_zeros (P : List UInt8) (g s : Nat) : rcFolE P g s (List.replicate 256 0) ≠ 0 := by
 have h1 : rcGetE (List.replicate 256 0) ≠ 0 := fun h => by
  obtain ⟨e, _, _, hc, _⟩ := rcGet_ok _ h
  rw [e] at hc
  exact absurd hc (by decide)
 unfold rcFolE
 rw [if_neg h1]
 exact h1
theorem jnFmt_ok (state : List UInt8) (n : Nat) (hn : 98 ≤ n ∧ n ≤ 256) (hs : state.length ≤ 12288) :
  jnFmtE state (n : Int) = 0 ∧ dkOk (jnFmt state (n : Int)) = true ∧ (jnFmt state (n : Int)).s.length = n ∧ (jnFmt state (n : Int)).k = [] ∧
  ∀ i : Nat, i < n → dkRead (jnFmt state (n : Int)) (i : Int) = if i = 1 then suPutL 1 0 (state.length : Int) (jnBase state) else if 2 ≤ i ∧ i < 2 + (state.length + 255) / 256 then jnSec state (i - 2) else List.replicate 256 0 := by
 have e1 : jnFmtE state (n : Int) = 0 := by unfold jnFmtE; rw [if_neg (by omega), if_neg (by omega)]
 have eN : dkNew (n : Int) = ⟨List.replicate n (List.replicate 256 0), []⟩ := by unfold dkNew dkNewE; rw [if_pos (by rw [if_neg (by omega)])]; simp
 have hok : dkOk (dkNew (n : Int)) = true := by
  rw [eN]
  refine (dkOk_iff _).2 ⟨by simp; omega, by simp, fun b hb => ?_, by simp⟩
  rw [(List.mem_replicate.1 hb).2]; simp
 have hcs : suCheck 0 (state.length : Int) = true := by unfold suCheck; simp; omega
 have hsl : (suPutL 1 0 (state.length : Int) (jnBase state)).length = 256 := by
  unfold suPutL; rw [if_pos hcs]; exact suL_len _ _ _ _ (by unfold jnBase; exact shOf_len _)
 have hjobs : jnFmtJobs state = jnSplitK state ((2 : Nat) : Int) ((state.length + 255) / 256) ++ [(1, suPutL 1 0 (state.length : Int) (jnBase state))] := by unfold jnFmtJobs jnSplit; rw [if_pos rfl]; rfl
 obtain ⟨w1, w2⟩ := jnWrites_in (jnFmtJobs state) (dkNew (n : Int)) hok (by rw [eN, hjobs]; simp [jnSplitK_len]; omega) (fun j hj => by
  rw [eN]
  simp only [List.length_replicate]
  rw [hjobs] at hj
  rcases List.mem_append.1 hj with h | h
  ·obtain ⟨i, hi, rfl⟩ := jnSplitK_mem _ _ _ _ h
   exact ⟨by simp only; omega, by simp only; omega, jnSec_len _ _⟩
  ·obtain rfl : j = (1, suPutL 1 0 (state.length : Int) (jnBase state)) := by simpa using h
   exact ⟨by simp, by simp only; omega, hsl⟩)
 have eF : jnFmt state (n : Int) = dkLeft ⟨List.replicate n (List.replicate 256 0), jnFmtJobs state⟩ (fun _ => true) := by
  unfold jnFmt
  rw [if_pos e1, dkFlush_eq _ w2, w1, eN]
  simp
 rw [w1, eN] at w2
 simp only [List.nil_append] at w2
 refine ⟨e1, by rw [eF]; exact dkLeft_ok _ _ w2, by rw [eF, dkLeft_len]; simp, by rw [eF]; rfl, fun i hi => ?_⟩
 rw [eF, dkLeft_read _ w2 _ i (by simpa using hi), hjobs, dkAt_snoc]
 by_cases h1 : i = 1
 ·subst h1
  rw [if_pos ⟨rfl, rfl⟩, if_pos rfl]
 ·rw [if_neg (by simp; omega), if_neg h1, dkAt_split]
  have e0 : (List.replicate n (List.replicate 256 (0 : UInt8))).getD i [] = List.replicate 256 0 := by simp [List.getD, hi]
  rw [e0]
def RcChain : List UInt8 → Nat → Nat → List Rc → Prop
 | _, _, _, [] => True
 | P, g, i, r :: l => (r.ok ∧ r.chk = true ∧ r.g = g ∧ r.s = i ∧ r.D = shLink P (rcBody r)) ∧ RcChain r.D g (i + 1) l
def rcEnd : List UInt8 → List Rc → List UInt8
 | P, [] => P
 | _, r :: l => rcEnd r.D l
theorem rcFol_chain (P : List UInt8) (g i : Nat) (r : Rc) (h : r.ok ∧ r.chk = true ∧ r.g = g ∧ r.s = i ∧ r.D = shLink P (rcBody r)) : rcFolE P g i (rcPutL r) = 0 ∧ rcGet (rcPutL r) = r := by
 obtain ⟨h1, h2, h3, h4, h5⟩ := h
 obtain ⟨e1, e2⟩ := rcGet_put r h1 h2
 refine ⟨?_, e2⟩
 unfold rcFolE
 rw [if_pos e1, e2, if_neg (by simp [h3]), if_neg (by simp [h4]), if_neg (by rw [← h5]; simp)]
theorem jnRecs_end (D : Dk) (g k i : Nat) (P : List UInt8) (h : rcFolE P g i (dkRead D (98 + (i : Int))) ≠ 0) : jnRecs D g k i P = [] := by
 cases k with
 | zero => rfl
 | succ k => unfold jnRecs; rw [if_neg h]
theorem jnRecs_chain (D : Dk) (g : Nat) : ∀ (l : List Rc) (k i : Nat) (P : List UInt8), RcChain P g i l → l.length ≤ k → (∀ j : Nat, j < l.length → dkRead D (98 + ((i + j : Nat) : Int)) = rcPutL (l.getD j rcZ)) → jnRecs D g k i P = l ++ jnRecs D g (k - l.length) (i + l.length) (rcEnd P l)
 | [], k, i, P, _, _, _ => by simp [rcEnd]
 | r :: l, 0, i, P, _, hk, _ => by simp at hk
 | r :: l, k + 1, i, P, ⟨h1, h2⟩, hk, h => by
  obtain ⟨e1, e2⟩ := rcFol_chain P g i r h1
  have e0 : dkRead D (98 + (i : Int)) = rcPutL r := h 0 (by simp)
  simp only [List.length_cons] at hk
  have e3 : jnRecs D g (k + 1) i P = if rcFolE P g i (dkRead D (98 + (i : Int))) = 0 then rcGet (dkRead D (98 + (i : Int))) :: jnRecs D g k (i + 1) (rcGet (dkRead D (98 + (i : Int)))).D else [] := rfl
  rw [e3, e0, if_pos e1, e2, jnRecs_chain D g l k (i + 1) r.D h2 (by omega) (fun j hj => by
   have := h (j + 1) (by simpa using hj)
   rw [show i + 1 + j = i + (j + 1) by omega, this]; rfl)]
  simp only [List.length_cons, List.cons_append, rcEnd]
  rw [show k - l.length = k + 1 - (l.length + 1) by omega, show i + 1 + l.length = i + (l.length + 1) by omega]
end Go.Proofs.YtpahicfnhhhifaaGreat
