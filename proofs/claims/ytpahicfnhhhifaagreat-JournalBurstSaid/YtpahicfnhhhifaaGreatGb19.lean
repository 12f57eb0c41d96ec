/-
 Proved here, for the statement JournalBurst:
 Layer 14: journal: Save.
 Layer 5: disks: the document's Tamper.
-/
import Derived.Test.YtpahicfnhhhifaaGreatGb18
set_option linter.unusedVariables false
set_option linter.unusedSimpArgs false
namespace Go.Proofs.YtpahicfnhhhifaaGreat
set_option maxRecDepth 20000
open Go.RowKit
set_option maxHeartbeats 8000000
theorem jmSaveB (g : Nat) (slot out room : Int) (D : List UInt8) (hD : D.length = 32) (w : World) : (Instr.build 36 #[(0, .int .u32 (g : Int)), (1, .int .i64 slot), (5, .agg (dgA D)), (7, .int .i64 3), (9, .int .i64 out), (11, .int .i64 room)]).run Tryz.prog w = .ok (.agg (jmV { jmZ with g := g, slot := slot, ch := D, ph := 3, out := out, room := room }).toArray) w := by
 obtain ⟨d0, d1, d2, d3, d4, d5, d6, d7, d8, d9, d10, d11, d12, d13, d14, d15, d16, d17, d18, d19, d20, d21, d22, d23, d24, d25, d26, d27, d28, d29, d30, d31, rfl⟩ := list32 D hD
 exact run_build w _ _ _ (by show Tryz.prog.built _ _ = some _; kernel_rfl)
theorem suB4 (g : Nat) (s l : Int) (D : List UInt8) (hD : D.length = 32) (w : World) : (Instr.build 33 #[(0, .int .u32 (g : Int)), (1, .int .i64 s), (2, .int .i64 l), (3, .agg (dgA D))]).run Tryz.prog w = .ok (.agg (suV g s l D)) w := by
 obtain ⟨d0, d1, d2, d3, d4, d5, d6, d7, d8, d9, d10, d11, d12, d13, d14, d15, d16, d17, d18, d19, d20, d21, d22, d23, d24, d25, d26, d27, d28, d29, d30, d31, rfl⟩ := list32 D hD
 exact run_build w _ _ _ (by show Tryz.prog.built _ _ = some _; kernel_rfl)
theorem JmAt.s41 {w : World} {g : Nat} {m : Jm} (q : JmAt w g m) (h : m.z) (s : Su) (hD : s.D.length = 32) : JmAt (w.setCells g 41 (suV s.g s.s s.l s.D).toList) g { m with su := s } := by
 unfold JmAt jmV at q ⊢
 have e : ∀ (u : Su) (X : List Value), [Value.int .u32 (m.g : Int), .int .i64 m.slot, .int .u32 (m.next : Int), .int .u32 (m.done : Int), .int .u32 (m.will : Int)] ++ (m.ch.map vB ++ ([Value.slice m.wa m.wn m.wc, .int .i64 m.ph, .slice m.ja m.jn m.jc, .int .i64 m.out, .int .u32 (u.g : Int), .int .i64 u.s, .int .i64 u.l] ++ (u.D.map vB ++ X))) =
   ([Value.int .u32 (m.g : Int), .int .i64 m.slot, .int .u32 (m.next : Int), .int .u32 (m.done : Int), .int .u32 (m.will : Int)] ++ (m.ch.map vB ++ [Value.slice m.wa m.wn m.wc, .int .i64 m.ph, .slice m.ja m.jn m.jc, .int .i64 m.out])) ++ ((suV u.g u.s u.l u.D).toList ++ X) := fun u X => by simp [suV]
 rw [e m.su] at q
 show _ = some (Obj.cells ([Value.int .u32 (m.g : Int), .int .i64 m.slot, .int .u32 (m.next : Int), .int .u32 (m.done : Int), .int .u32 (m.will : Int)] ++ (m.ch.map vB ++ ([Value.slice m.wa m.wn m.wc, .int .i64 m.ph, .slice m.ja m.jn m.jc, .int .i64 m.out, .int .u32 (s.g : Int), .int .i64 s.s, .int .i64 s.l] ++ (s.D.map vB ++ [Value.int .i64 m.room, .int .i64 m.err])))).toArray 36 (0, 0))
 rw [e s]
 exact setcs_row _ 41 w _ _ _ (by simp [h.1]) (by simp [suV, h.2, hD]) q
theorem JmAt.there41 {w : World} {g : Nat} {m : Jm} (q : JmAt w g m) (h : m.z) (k : Nat) (hk : k ≤ 35) : w.there g 41 k := fun j hj => ⟨by rw [q.cell, List.getElem?_eq_getElem (by rw [jmV_len h]; omega)]; rfl, q.fr _⟩
theorem jm_sset {ops : Array Oper} {rest : List Oper} {o : Oper} {a : Act} {w : World} {Q : Exit → Act → World → Prop} {h : Nat} {m : Jm} (hz : m.z) (hgd : o.guard = none) (x z : Operand) (ho : o.op = .store 33 x z) (hx : a.eval x = .pointer (some ⟨h, 41, none⟩)) (q : JmAt w h m) (s : Su) (hy : a.eval z = .agg (suV s.g s.s s.l s.D)) (hD : s.D.length = 32)
  (hK : ∀ X, X.heap.size = w.heap.size → JmAt X h { m with su := s } → (∀ B, B ≤ h → Below B w X) → (∀ j, j ≠ h → X.heap[j]? = w.heap[j]?) → wpList Tryz.prog ops Q rest (a.put o.dst undef) X) : wpList Tryz.prog ops Q (o :: rest) a w :=
 wpList_store_mid hgd 33 x z ho h 41 (suV s.g s.s s.l s.D) hx hy (q.there41 hz _ (by rw [suVn, hD]; omega)) (suInfo _ _ _ _ hD) (suV_one _ _ _ _) (hK _ (setCells_size _ _ _ _) (q.s41 hz s hD) (fun B hB => setCells_below hB _ _ _ _ (Below.refl _ _)) (fun j hj => setCells_other (fun e => hj e.symm) _ _ _))
set_option maxRecDepth 100000 in
theorem jrnSave_stop (P : Nat → Prop) (m : Jm) (wl jl : List Jb) (A : Option Addr) (n cp : Nat) (st : List UInt8) (w : World) (hv : JIn P w m (m.of wl jl)) (hP : ∀ j, P j → j < w.heap.size) (hr : RdB w A n cp st) (hg : jnGoing (m.of wl jl) ≠ 0) :
  Calls Tryz.prog 22 #[.agg (jmV m).toArray, .slice A n cp] w (RetJ P w (m.of wl jl) (jnGoing (m.of wl jl))) := by
 obtain ⟨V, hV⟩ : ∃ V, V = (w.alloc (.cells (jmV m).toArray 36)).alloc (.cells Tryz.zeroCells36 36) := ⟨_, rfl⟩
 have S := Lib.hid (js_new hv hV)
 have HV := Lib.hid hV
 have zV : V.heap.size = w.heap.size + 2 := by rw [hV]; simp
 have ZV := Lib.hid zV
 have C := Lib.hid (jrnGoing_any P m (m.of wl jl) V (hv.below S.out.b))
 have hn63 := hr.n63
 obtain ⟨G, hG⟩ : ∃ G, jnGoing (m.of wl jl) = G := ⟨_, rfl⟩
 rw [hG] at C hg ⊢
 have g0 : (G != 0) = true := by simpa using hg
 clear hg hG
 have HI := Lib.hid hv
 have HP := Lib.hid hP
 have HR := Lib.hid hr
 clear hV zV hv hP hr
 go_enter Tryz.func22, Tryz.ntmps22
 go_wp2_with (first | (rw [← HV.out]) | (refine jm_load S.out.z rfl _ rfl rfl S.out.j ?_))
 refine C.out.mono ?_
 rintro e w1 ⟨rfl, hb1⟩
 have S1 := Lib.hid (S.out.up hb1)
 obtain ⟨⟨c0, c1, c2, c3, c4⟩, ⟨c37, c38, c39, c40, c41, c76, c77⟩, fz⟩ := S1.out.j.cells S1.out.z
 go_wp2_with (first | (refine jm_load S1.out.z rfl _ rfl rfl S1.out.j ?_) | (refine jm_store S1.out.z jmZ_z rfl _ _ rfl rfl rfl S1.out.o ?_; intro X zX qX bX nX))
 refine bodyPost_ret (dresults_cell_tmp Tryz.results22 _ _ (w.heap.size + 1) 36 _ (0, 0) _ rfl qX Tryz.underlying36 rfl (jm_info S1.out.z)) rfl ?_
 have bF := S1.out.b.trans (bX w.heap.size (by omega))
 exact ⟨m, rfl, HI.out.below bF, bF⟩
set_option maxRecDepth 100000 in
theorem jrnSave_busy (P : Nat → Prop) (m : Jm) (wl jl : List Jb) (A : Option Addr) (n cp : Nat) (st : List UInt8) (w : World) (hv : JIn P w m (m.of wl jl)) (hP : ∀ j, P j → j < w.heap.size) (hr : RdB w A n cp st) (hg : jnGoing (m.of wl jl) = 0) (hb : ¬ m.ph = 0 ∨ ¬ m.done = m.next) :
  Calls Tryz.prog 22 #[.agg (jmV m).toArray, .slice A n cp] w (RetJ P w (m.of wl jl) (8)) := by
 obtain ⟨V, hV⟩ : ∃ V, V = (w.alloc (.cells (jmV m).toArray 36)).alloc (.cells Tryz.zeroCells36 36) := ⟨_, rfl⟩
 have S := Lib.hid (js_new hv hV)
 have HV := Lib.hid hV
 have zV : V.heap.size = w.heap.size + 2 := by rw [hV]; simp
 have ZV := Lib.hid zV
 have C := Lib.hid (jrnGoing_any P m (m.of wl jl) V (hv.below S.out.b))
 have hn63 := hr.n63
 rw [hg] at C
 have hb2 : (m.ph != 0) = true ∨ ((m.ph != 0) = false ∧ ((m.done : Int) != (m.next : Int)) = true ∧ (m.done != m.next) = true) := by
  by_cases h : m.ph = 0
  ·right
   have := hb.resolve_left (fun e => e h)
   exact ⟨by simp [h], by simp; omega, by simp; omega⟩
  ·left; simp [h]
 have HB2 := Lib.hid hb2
 clear hg hb hb2
 have HI := Lib.hid hv
 have HP := Lib.hid hP
 have HR := Lib.hid hr
 clear hV zV hv hP hr
 go_enter Tryz.func22, Tryz.ntmps22
 go_wp2_with (first | (rw [← HV.out]) | (refine jm_load S.out.z rfl _ rfl rfl S.out.j ?_))
 refine C.out.mono ?_
 rintro e w1 ⟨rfl, hb1⟩
 have S1 := Lib.hid (S.out.up hb1)
 obtain ⟨⟨c0, c1, c2, c3, c4⟩, ⟨c37, c38, c39, c40, c41, c76, c77⟩, fz⟩ := S1.out.j.cells S1.out.z
 rcases HB2.out with p0 | ⟨p0, p1, p2⟩
 ·go_wp2_with (first | (refine jm_load S1.out.z rfl _ rfl rfl S1.out.j ?_) | (refine jm_store S1.out.z jmZ_z rfl _ _ rfl rfl rfl S1.out.o ?_; intro X zX qX bX nX))
  refine bodyPost_ret (dresults_cell_tmp Tryz.results22 _ _ (w.heap.size + 1) 36 _ (0, 0) _ rfl qX Tryz.underlying36 rfl (jm_info S1.out.z)) rfl ?_
  have bF := S1.out.b.trans (bX w.heap.size (by omega))
  exact ⟨m, rfl, HI.out.below bF, bF⟩
 ·go_wp2_with (first | (refine jm_load S1.out.z rfl _ rfl rfl S1.out.j ?_) | (refine jm_store S1.out.z jmZ_z rfl _ _ rfl rfl rfl S1.out.o ?_; intro X zX qX bX nX))
  refine bodyPost_ret (dresults_cell_tmp Tryz.results22 _ _ (w.heap.size + 1) 36 _ (0, 0) _ rfl qX Tryz.underlying36 rfl (jm_info S1.out.z)) rfl ?_
  have bF := S1.out.b.trans (bX w.heap.size (by omega))
  exact ⟨m, rfl, HI.out.below bF, bF⟩
set_option maxRecDepth 100000 in
theorem jrnSave_full (P : Nat → Prop) (m : Jm) (wl jl : List Jb) (A : Option Addr) (n cp : Nat) (st : List UInt8) (w : World) (hv : JIn P w m (m.of wl jl)) (hP : ∀ j, P j → j < w.heap.size) (hr : RdB w A n cp st) (hg : jnGoing (m.of wl jl) = 0) (h0 : m.ph = 0) (hd : m.done = m.next) (hf : 12288 < n ∨ m.g = 4294967295) :
  Calls Tryz.prog 22 #[.agg (jmV m).toArray, .slice A n cp] w (RetJ P w (m.of wl jl) (4)) := by
 obtain ⟨V, hV⟩ : ∃ V, V = (w.alloc (.cells (jmV m).toArray 36)).alloc (.cells Tryz.zeroCells36 36) := ⟨_, rfl⟩
 have S := Lib.hid (js_new hv hV)
 have HV := Lib.hid hV
 have zV : V.heap.size = w.heap.size + 2 := by rw [hV]; simp
 have ZV := Lib.hid zV
 have C := Lib.hid (jrnGoing_any P m (m.of wl jl) V (hv.below S.out.b))
 have hn63 := hr.n63
 rw [hg] at C
 have hb2 : decide ((12288 : Int) < (n : Int)) = true ∨ (decide ((12288 : Int) < (n : Int)) = false ∧ (m.g : Int) = 4294967295 ∧ m.g = 4294967295) := by
  by_cases h : 12288 < n
  ·left; exact decide_eq_true (by omega)
  ·right
   have := hf.resolve_left h
   exact ⟨decide_eq_false (by omega), by omega, this⟩
 have HB2 := Lib.hid hb2
 have H0 := Lib.hid h0
 have HD := Lib.hid hd
 clear hg hf hb2 h0 hd
 have HI := Lib.hid hv
 have HP := Lib.hid hP
 have HR := Lib.hid hr
 clear hV zV hv hP hr
 go_enter Tryz.func22, Tryz.ntmps22
 go_wp2_with (first | (rw [← HV.out]) | (refine jm_load S.out.z rfl _ rfl rfl S.out.j ?_))
 refine C.out.mono ?_
 rintro e w1 ⟨rfl, hb1⟩
 have S1 := Lib.hid (S.out.up hb1)
 obtain ⟨⟨c0, c1, c2, c3, c4⟩, ⟨c37, c38, c39, c40, c41, c76, c77⟩, fz⟩ := S1.out.j.cells S1.out.z
 rw [show m.ph = 0 from H0.out] at c38
 rw [show m.done = m.next from HD.out] at c3
 rcases HB2.out with p0 | ⟨p0, p1, p2⟩
 ·go_wp2_with (first | (refine jm_load S1.out.z rfl _ rfl rfl S1.out.j ?_) | (refine jm_store S1.out.z jmZ_z rfl _ _ rfl rfl rfl S1.out.o ?_; intro X zX qX bX nX))
  refine bodyPost_ret (dresults_cell_tmp Tryz.results22 _ _ (w.heap.size + 1) 36 _ (0, 0) _ rfl qX Tryz.underlying36 rfl (jm_info S1.out.z)) rfl ?_
  have bF := S1.out.b.trans (bX w.heap.size (by omega))
  exact ⟨m, rfl, HI.out.below bF, bF⟩
 ·rw [p2] at c0
  clear p1 p2
  go_wp2_with (first | (refine jm_load S1.out.z rfl _ rfl rfl S1.out.j ?_) | (refine jm_store S1.out.z jmZ_z rfl _ _ rfl rfl rfl S1.out.o ?_; intro X zX qX bX nX))
  refine bodyPost_ret (dresults_cell_tmp Tryz.results22 _ _ (w.heap.size + 1) 36 _ (0, 0) _ rfl qX Tryz.underlying36 rfl (jm_info S1.out.z)) rfl ?_
  have bF := S1.out.b.trans (bX w.heap.size (by omega))
  exact ⟨m, rfl, HI.out.below bF, bF⟩
set_option maxRecDepth 100000 in
theorem jrnSave_yes (P : Nat → Prop) (m : Jm) (wl jl : List Jb) (A : Option Addr) (n cp : Nat) (st : List UInt8) (w : World) (hv : JIn P w m (m.of wl jl)) (hP : ∀ j, P j → j < w.heap.size) (hr : RdB w A n cp st) (hg : jnGoing (m.of wl jl) = 0) (h0 : m.ph = 0) (hd : m.done = m.next) (hf : n ≤ 12288) (hgn : m.g < 4294967295) :
  Calls Tryz.prog 22 #[.agg (jmV m).toArray, .slice A n cp] w (RetJ P w (jnSaved (m.of wl jl) st) (0)) := by
 obtain ⟨V, hV⟩ : ∃ V, V = (w.alloc (.cells (jmV m).toArray 36)).alloc (.cells Tryz.zeroCells36 36) := ⟨_, rfl⟩
 have S := Lib.hid (js_new hv hV)
 have HV := Lib.hid hV
 have zV : V.heap.size = w.heap.size + 2 := by rw [hV]; simp
 have ZV := Lib.hid zV
 have C := Lib.hid (jrnGoing_any P m (m.of wl jl) V (hv.below S.out.b))
 have hn63 := hr.n63
 rw [hg] at C
 have p0 : decide ((12288 : Int) < (n : Int)) = false := decide_eq_false (by omega)
 have p1 : ((m.g : Int) == 4294967295) = false := beq_eq_false_iff_ne.2 (by omega)
 have p2 : (m.g == 4294967295) = false := beq_eq_false_iff_ne.2 (by omega)
 obtain ⟨GX, hGX⟩ : ∃ q, q = m.g + 1 := ⟨_, rfl⟩
 obtain ⟨SX, hSX⟩ : ∃ q, q = 1 - m.slot := ⟨_, rfl⟩
 have hsl := hv.1.slot
 have e1 : IntKind.u32.wrap ((m.g : Int) + 1) = (GX : Int) := by rw [IntKind.wrap_u32]; omega
 have hs01 : m.slot = 0 ∨ m.slot = 1 := by
  have hchk : jnChk (m.of wl jl) = true := by
   cases h : jnChk (m.of wl jl) with
   | true => rfl
   | false => unfold jnGoing at hg; rw [h] at hg; simp at hg
  unfold jnChk at hchk
  simp only [Bool.and_eq_true, decide_eq_true_eq] at hchk
  exact hchk.1
 have e2 : IntKind.i64.wrap (1 - m.slot) = SX := by rw [IntWalk.i64_in _ (by omega)]; omega
 have hSr : SX = 0 ∨ SX = 1 := by omega
 obtain ⟨DG, hDG⟩ : ∃ q, jnBase st = q := ⟨jnBase st, rfl⟩
 have hDl : DG.length = 32 := by rw [← hDG]; exact shOf_len _
 have C2 := Lib.hid (fun W (h : RdB W A n cp st) => jrnBase_any A n cp st W h (by omega))
 rw [hDG] at C2
 have C3 := Lib.hid (fun W (h : RdB W A n cp st) => jrnSplit_any A n cp st SX W h (by omega))
 obtain ⟨m5, hm5⟩ : ∃ q : Jm, { jmZ with g := GX, slot := SX, ch := DG, ph := 3, out := m.out, room := m.room } = q := ⟨_, rfl⟩
 have BL := Lib.hid (jmSaveB GX SX m.out m.room DG hDl)
 rw [hm5] at BL
 have hz5 : m5.z := by rw [← hm5]; exact ⟨hDl, jmZ_z.2⟩
 have HZ5 := Lib.hid hz5
 have HM5 := Lib.hid hm5
 have BS := Lib.hid (suB4 GX SX (n : Int) DG hDl)
 have HDG := Lib.hid hDG
 have HDL := Lib.hid hDl
 have HGX := Lib.hid hGX
 have HSX := Lib.hid hSX
 have HSR := Lib.hid hSr
 have HGR := Lib.hid (show GX < 4294967296 by omega)
 have H0 := Lib.hid h0
 have HD := Lib.hid hd
 have HN := Lib.hid hr.2.1
 obtain ⟨DV, hDV⟩ : ∃ z, z = dgA DG := ⟨_, rfl⟩
 obtain ⟨MV, hMV⟩ : ∃ z, z = (jmV m5).toArray := ⟨_, rfl⟩
 have HDV := Lib.hid hDV
 have HMV := Lib.hid hMV
 clear hg h0 hd hGX hSX hDG hDl hm5 hz5 hDV hMV
 have HI := Lib.hid hv
 have HP := Lib.hid hP
 have HR := Lib.hid hr
 clear hV zV hv hP hr
 go_enter Tryz.func22, Tryz.ntmps22
 go_wp2_with (first | (rw [← HV.out]) | (refine jm_load S.out.z rfl _ rfl rfl S.out.j ?_))
 refine C.out.mono ?_
 rintro e w1 ⟨rfl, hb1⟩
 have S1 := Lib.hid (S.out.up hb1)
 obtain ⟨⟨c0, c1, c2, c3, c4⟩, ⟨c37, c38, c39, c40, c41, c76, c77⟩, fz⟩ := S1.out.j.cells S1.out.z
 rw [show m.ph = 0 from H0.out] at c38
 rw [show m.done = m.next from HD.out] at c3
 have lq := S1.out.j.lt
 have HRD := Lib.hid (HR.out.below (below_then S.out.b hb1))
 go_wp2_with fail
 refine wp_region_seg (S := fun w' => Below w1.heap.size w1 w') 4 (brw9 15 3967) [(0, true), (1, true), (2, true), (3, true), (4, true), (5, true), (6, true), (8, true), (9, true), (10, true), (11, true)] (by kernel_rfl) (by kernel_rfl) (fun _ _ d _ _ h => by first | (cases d <;> exact h) | cases h.1) ((Below.refl w1.heap.size w1).drew) ?_
 have HB := (Below.refl w1.heap.size w1).drew
 iterate 11 (refine seg_take (v := ?_) rfl (Or.inl ⟨by rfl, ?_⟩) ?_; rotate_left; (focus (intro w' hw'; have j0 := (hw'.cell (p := ⟨w.heap.size, 0, none⟩) lq).trans c0; have j1 := (hw'.cell (p := ⟨w.heap.size, 1, none⟩) lq).trans c1; have j2 := (hw'.cell (p := ⟨w.heap.size, 40, none⟩) lq).trans c40; have j3 := (hw'.cell (p := ⟨w.heap.size, 76, none⟩) lq).trans c76; go_simp <;> with_reducible rfl)); try simp only [Act.put, pst3])
 refine seg_done (fun _ => ?_)
 refine wpAnyH_two (i := 7) (j := 13) (f := 3) (by kernel_rfl) ?_ ?_
 ·skip
  refine op_run rfl (fun K hK => ?_)
  go_simp
  refine (C2.out _ (HRD.out.below HB)).mono ?_
  rintro e_ wA ⟨rfl, hbA⟩
  rw [← HDV.out]
  have HB := below_then HB hbA
  refine hK.out _ _ (HB) ?_
  clear hK
  try simp only [Act.put, pst3]
  refine wpAnyH_seg (by kernel_rfl) (fun _ _ d _ _ h => by first | (cases d <;> exact h) | cases h.1) 0 (brw9 15 32767) [(12, true), (13, false), (14, false)] _ _ _ (by kernel_rfl) (HB) ?_
  refine seg_take (v := .agg MV) rfl (Or.inl ⟨by rfl, fun w' hw' => ?_⟩) ?_
  focus (rw [HMV.out]; exact rex_build rfl #[(0, .int .u32 (GX : Int)), (1, .int .i64 SX), (5, .agg DV), (7, .int .i64 3), (9, .int .i64 m.out), (11, .int .i64 m.room)] rfl (by rw [HDV.out]; exact BL.out w'))
  try simp only [Act.put, pst3]
  refine seg_run rfl (fun K hK => ?_)
  rw [if_pos (by rfl)]
  refine op_new Tryz.zeroCells36 36 (fun w => by go_simp) ?_
  intro gL wL eL hL HBl hLsz
  have hLJ : JmAt wL gL jmZ := by unfold JmAt; rw [← jmZ_zero]; exact hL
  have hgL : w1.heap.size ≤ gL := by have := HB.size; omega
  have HB := below_then HB HBl
  refine hK.out _ _ (HB) ?_
  clear hK
  try simp only [Act.put, pst3]
  refine seg_run rfl (fun K hK => ?_)
  rw [if_pos (by rfl)]
  refine op_jmst (h := gL) HZ5.out jmZ_z _ _ rfl rfl (congrArg Value.agg HMV.out) (by first | exact hLJ | exact hLJ.up hbA) ?_
  intro X5 zX5 qX5 bX5 nX5
  have HB := HB.trans (bX5 _ hgL)
  refine hK.out _ _ (HB) ?_
  clear hK
  try simp only [Act.put, pst3]
  refine seg_done (fun _ => ?_)
  refine wpAnyH_done (by kernel_rfl) ?_ _
  have lo := S1.out.o.lt
  have S5 := Lib.hid (show JS w gL (w.heap.size + 1) m5 X5 from ⟨qX5, S1.out.o.up HB, below_then S1.out.b HB, ⟨by omega, by omega, by omega⟩, HZ5.out⟩)
  have HCH := Lib.hid (congrArg Jm.ch HM5.out).symm
  have EG := Lib.hid (congrArg Jm.g HM5.out).symm
  have ESL := Lib.hid (congrArg Jm.slot HM5.out).symm
  have HGL := Lib.hid hgL
  have k0 : X5.cell? ⟨gL, 0, none⟩ = some (.int .u32 (GX : Int)) := by have := S5.out.j.c0; rw [EG.out] at this; exact this
  have k1 : X5.cell? ⟨gL, 1, none⟩ = some (.int .i64 SX) := by have := S5.out.j.c1; rw [ESL.out] at this; exact this
  clear c0 c1 c2 c3 c4 c37 c38 c39 c40 c41 c76 c77 fz hLJ hL hLsz eL hgL lo lq
  go_wp2_with (first
   | (refine jm_dig S5.out.z rfl _ rfl rfl S5.out.j ?_; rw [HCH.out])
   | (refine wpList_of_exec rfl (rex_build rfl #[(0, .int .u32 (GX : Int)), (1, .int .i64 SX), (2, .int .i64 (n : Int)), (3, .agg (dgA DG))] rfl (BS.out _)) ?_)
   | (refine jm_sset S5.out.z rfl _ _ rfl rfl S5.out.j ⟨GX, SX, n, DG⟩ rfl HDL.out ?_; intro X6 zX6 q6 b6 n6; have S6 := Lib.hid (S5.out.other q6 ⟨S5.out.z.1, HDL.out⟩ n6 (b6 _ S5.out.n.1)); have k1 : X6.cell? ⟨gL, 1, none⟩ = some (.int .i64 SX) := (by have := S6.out.j.c1; rw [show ({ m5 with su := ⟨GX, SX, n, DG⟩ } : Jm).slot = m5.slot from rfl, ESL.out] at this; exact this)))
  refine (C3.out X6 (HR.out.below S6.out.b)).mono ?_
  rintro e w7 ⟨A7, n7, c7, rfl, o7, b7⟩
  have S7 := Lib.hid (S6.out.up b7)
  have O7 := Lib.hid o7
  have B7 := Lib.hid b7
  have f39 := S7.out.j.fr 39
  have d39 := S7.out.j.c39 S7.out.z
  obtain ⟨m8, Y8, HM8, HY8, S8⟩ := (S7.out.s39 A7 n7 c7).named
  clear k0 k1 o7 b7
  go_wp2_with (first | (rw [← HY8.out]; refine jm_load S8.out.z rfl _ rfl rfl S8.out.j ?_) | (refine jm_store S8.out.z jmZ_z rfl _ _ rfl rfl rfl S8.out.o ?_; intro X zX qX bX nX))
  refine bodyPost_ret (dresults_cell_tmp Tryz.results22 _ _ (w.heap.size + 1) 36 _ (0, 0) _ rfl qX Tryz.underlying36 rfl (jm_info S8.out.z)) rfl ?_
  have bF := S8.out.b.trans (bX w.heap.size (by omega))
  have l6 := S6.out.j.lt
  have l6o := S6.out.o.lt
  have l6b := S6.out.b.size
  have hag0 : AgrP (fun j => j = gL ∨ j = w.heap.size + 1) w7 Y8 := by rw [HY8.out]; exact (AgrP.refl _ w7).set (.inl rfl) _
  have hag : AgrP (fun j => j = gL ∨ j = w.heap.size + 1) w7 X := hag0.one (.inr rfl) zX nX
  have hwx : WsIn P X A7 n7 c7 (jnSplit st SX) := (O7.out.agr hag (fun j hj => by rcases hj with h | h <;> omega)).inn (fun j hj => by have := HP.out j hj; omega)
  refine ⟨m8, rfl, ?_, bF⟩
  have hok := HI.out.1
  have hn := HN.out
  have eS : jnSaved (m.of wl jl) st = ({ m5 with ja := A7, jn := n7, jc := c7, su := ⟨GX, SX, n, DG⟩ } : Jm).of [] (jnSplit st SX) := by
   rw [← HM5.out, HSX.out, HGX.out, ← HDG.out, ← hn]; rfl
  rw [eS, ← HM8.out]
  have hgo := HGR.out
  refine ⟨⟨?_, ?_, ?_, ?_, ?_, ?_, ?_, ?_, ?_, ?_, ?_, ?_, ?_, ?_⟩, rfl, (by rw [← HM5.out]; exact ws_nil _ _), hwx⟩
  ·show m5.g < _; rw [EG.out]; omega
  ·show _ ≤ m5.slot ∧ m5.slot ≤ _; rw [ESL.out]; have := HSR.out; omega
  ·show m5.next < _; rw [← HM5.out]; show (0 : Nat) < _; omega
  ·show m5.done < _; rw [← HM5.out]; show (0 : Nat) < _; omega
  ·show m5.will < _; rw [← HM5.out]; show (0 : Nat) < _; omega
  ·show m5.ch.length = 32; rw [HCH.out]; exact HDL.out
  ·show _ ≤ m5.ph ∧ m5.ph ≤ _; rw [← HM5.out]; show _ ≤ (3 : Int) ∧ (3 : Int) ≤ _; omega
  ·show _ ≤ m5.out ∧ m5.out ≤ _; rw [← HM5.out]; exact hok.out
  ·show GX < _; omega
  ·show _ ≤ SX ∧ SX ≤ _; have := HSR.out; omega
  ·show _ ≤ (n : Int) ∧ (n : Int) ≤ _; omega
  ·exact HDL.out
  ·show _ ≤ m5.room ∧ m5.room ≤ _; rw [← HM5.out]; exact hok.room
  ·show _ ≤ m5.err ∧ m5.err ≤ _; rw [← HM5.out]; show _ ≤ (0 : Int) ∧ (0 : Int) ≤ _; omega
 ·skip
  refine op_run rfl (fun K hK => ?_)
  rw [if_pos (by rfl)]
  refine op_new Tryz.zeroCells36 36 (fun w => by go_simp) ?_
  intro gL wL eL hL HBl hLsz
  have hLJ : JmAt wL gL jmZ := by unfold JmAt; rw [← jmZ_zero]; exact hL
  have hgL : w1.heap.size ≤ gL := by have := HB.size; omega
  have HB := below_then HB HBl
  refine hK.out _ _ (HB) ?_
  clear hK
  try simp only [Act.put, pst3]
  refine wpAnyH_seg (by kernel_rfl) (fun _ _ d _ _ h => by first | (cases d <;> exact h) | cases h.1) 0 (brw9 15 32767) [(7, false), (12, true), (14, false)] _ _ _ (by kernel_rfl) (HB) ?_
  refine seg_run rfl (fun K hK => ?_)
  go_simp
  refine (C2.out _ (HRD.out.below HB)).mono ?_
  rintro e_ wA ⟨rfl, hbA⟩
  rw [← HDV.out]
  have HB := below_then HB hbA
  refine hK.out _ _ (HB) ?_
  clear hK
  try simp only [Act.put, pst3]
  refine seg_take (v := .agg MV) rfl (Or.inl ⟨by rfl, fun w' hw' => ?_⟩) ?_
  focus (rw [HMV.out]; exact rex_build rfl #[(0, .int .u32 (GX : Int)), (1, .int .i64 SX), (5, .agg DV), (7, .int .i64 3), (9, .int .i64 m.out), (11, .int .i64 m.room)] rfl (by rw [HDV.out]; exact BL.out w'))
  try simp only [Act.put, pst3]
  refine seg_run rfl (fun K hK => ?_)
  rw [if_pos (by rfl)]
  refine op_jmst (h := gL) HZ5.out jmZ_z _ _ rfl rfl (congrArg Value.agg HMV.out) (by first | exact hLJ | exact hLJ.up hbA) ?_
  intro X5 zX5 qX5 bX5 nX5
  have HB := HB.trans (bX5 _ hgL)
  refine hK.out _ _ (HB) ?_
  clear hK
  try simp only [Act.put, pst3]
  refine seg_done (fun _ => ?_)
  refine wpAnyH_done (by kernel_rfl) ?_ _
  have lo := S1.out.o.lt
  have S5 := Lib.hid (show JS w gL (w.heap.size + 1) m5 X5 from ⟨qX5, S1.out.o.up HB, below_then S1.out.b HB, ⟨by omega, by omega, by omega⟩, HZ5.out⟩)
  have HCH := Lib.hid (congrArg Jm.ch HM5.out).symm
  have EG := Lib.hid (congrArg Jm.g HM5.out).symm
  have ESL := Lib.hid (congrArg Jm.slot HM5.out).symm
  have HGL := Lib.hid hgL
  have k0 : X5.cell? ⟨gL, 0, none⟩ = some (.int .u32 (GX : Int)) := by have := S5.out.j.c0; rw [EG.out] at this; exact this
  have k1 : X5.cell? ⟨gL, 1, none⟩ = some (.int .i64 SX) := by have := S5.out.j.c1; rw [ESL.out] at this; exact this
  clear c0 c1 c2 c3 c4 c37 c38 c39 c40 c41 c76 c77 fz hLJ hL hLsz eL hgL lo lq
  go_wp2_with (first
   | (refine jm_dig S5.out.z rfl _ rfl rfl S5.out.j ?_; rw [HCH.out])
   | (refine wpList_of_exec rfl (rex_build rfl #[(0, .int .u32 (GX : Int)), (1, .int .i64 SX), (2, .int .i64 (n : Int)), (3, .agg (dgA DG))] rfl (BS.out _)) ?_)
   | (refine jm_sset S5.out.z rfl _ _ rfl rfl S5.out.j ⟨GX, SX, n, DG⟩ rfl HDL.out ?_; intro X6 zX6 q6 b6 n6; have S6 := Lib.hid (S5.out.other q6 ⟨S5.out.z.1, HDL.out⟩ n6 (b6 _ S5.out.n.1)); have k1 : X6.cell? ⟨gL, 1, none⟩ = some (.int .i64 SX) := (by have := S6.out.j.c1; rw [show ({ m5 with su := ⟨GX, SX, n, DG⟩ } : Jm).slot = m5.slot from rfl, ESL.out] at this; exact this)))
  refine (C3.out X6 (HR.out.below S6.out.b)).mono ?_
  rintro e w7 ⟨A7, n7, c7, rfl, o7, b7⟩
  have S7 := Lib.hid (S6.out.up b7)
  have O7 := Lib.hid o7
  have B7 := Lib.hid b7
  have f39 := S7.out.j.fr 39
  have d39 := S7.out.j.c39 S7.out.z
  obtain ⟨m8, Y8, HM8, HY8, S8⟩ := (S7.out.s39 A7 n7 c7).named
  clear k0 k1 o7 b7
  go_wp2_with (first | (rw [← HY8.out]; refine jm_load S8.out.z rfl _ rfl rfl S8.out.j ?_) | (refine jm_store S8.out.z jmZ_z rfl _ _ rfl rfl rfl S8.out.o ?_; intro X zX qX bX nX))
  refine bodyPost_ret (dresults_cell_tmp Tryz.results22 _ _ (w.heap.size + 1) 36 _ (0, 0) _ rfl qX Tryz.underlying36 rfl (jm_info S8.out.z)) rfl ?_
  have bF := S8.out.b.trans (bX w.heap.size (by omega))
  have l6 := S6.out.j.lt
  have l6o := S6.out.o.lt
  have l6b := S6.out.b.size
  have hag0 : AgrP (fun j => j = gL ∨ j = w.heap.size + 1) w7 Y8 := by rw [HY8.out]; exact (AgrP.refl _ w7).set (.inl rfl) _
  have hag : AgrP (fun j => j = gL ∨ j = w.heap.size + 1) w7 X := hag0.one (.inr rfl) zX nX
  have hwx : WsIn P X A7 n7 c7 (jnSplit st SX) := (O7.out.agr hag (fun j hj => by rcases hj with h | h <;> omega)).inn (fun j hj => by have := HP.out j hj; omega)
  refine ⟨m8, rfl, ?_, bF⟩
  have hok := HI.out.1
  have hn := HN.out
  have eS : jnSaved (m.of wl jl) st = ({ m5 with ja := A7, jn := n7, jc := c7, su := ⟨GX, SX, n, DG⟩ } : Jm).of [] (jnSplit st SX) := by
   rw [← HM5.out, HSX.out, HGX.out, ← HDG.out, ← hn]; rfl
  rw [eS, ← HM8.out]
  have hgo := HGR.out
  refine ⟨⟨?_, ?_, ?_, ?_, ?_, ?_, ?_, ?_, ?_, ?_, ?_, ?_, ?_, ?_⟩, rfl, (by rw [← HM5.out]; exact ws_nil _ _), hwx⟩
  ·show m5.g < _; rw [EG.out]; omega
  ·show _ ≤ m5.slot ∧ m5.slot ≤ _; rw [ESL.out]; have := HSR.out; omega
  ·show m5.next < _; rw [← HM5.out]; show (0 : Nat) < _; omega
  ·show m5.done < _; rw [← HM5.out]; show (0 : Nat) < _; omega
  ·show m5.will < _; rw [← HM5.out]; show (0 : Nat) < _; omega
  ·show m5.ch.length = 32; rw [HCH.out]; exact HDL.out
  ·show _ ≤ m5.ph ∧ m5.ph ≤ _; rw [← HM5.out]; show _ ≤ (3 : Int) ∧ (3 : Int) ≤ _; omega
  ·show _ ≤ m5.out ∧ m5.out ≤ _; rw [← HM5.out]; exact hok.out
  ·show GX < _; omega
  ·show _ ≤ SX ∧ SX ≤ _; have := HSR.out; omega
  ·show _ ≤ (n : Int) ∧ (n : Int) ≤ _; omega
  ·exact HDL.out
  ·show _ ≤ m5.room ∧ m5.room ≤ _; rw [← HM5.out]; exact hok.room
  ·show _ ≤ m5.err ∧ m5.err ≤ _; rw [← HM5.out]; show _ ≤ (0 : Int) ∧ (0 : Int) ≤ _; omega
theorem jrnSave_any (P : Nat → Prop) (m : Jm) (J : Jn) (A : Option Addr) (n cp : Nat) (st : List UInt8) (w : World) (hv : JIn P w m J) (hP : ∀ j, P j → j < w.heap.size) (hr : RdB w A n cp st) :
  Calls Tryz.prog 22 #[.agg (jmV m).toArray, .slice A n cp] w (RetJ P w (jnSave J st) (jnSaveE J st)) := by
 obtain ⟨wl, jl, rfl⟩ : ∃ wl jl, J = m.of wl jl := ⟨_, _, jof hv⟩
 have hl : st.length = n := hr.2.1
 by_cases hg : jnGoing (m.of wl jl) = 0
 ·by_cases hb : ¬ m.ph = 0 ∨ ¬ m.done = m.next
  ·have e : jnSaveE (m.of wl jl) st = 8 := by unfold jnSaveE; rw [if_neg (fun h => h hg), if_pos (show (m.of wl jl).ph ≠ 0 ∨ (m.of wl jl).done ≠ (m.of wl jl).next from hb)]
   have e2 : jnSave (m.of wl jl) st = m.of wl jl := by unfold jnSave; rw [e]; rfl
   rw [e, e2]; exact jrnSave_busy P m wl jl A n cp st w hv hP hr hg hb
  ·have h0 : m.ph = 0 := by by_cases h : m.ph = 0; exact h; exact absurd (.inl h) hb
   have hd : m.done = m.next := by by_cases h : m.done = m.next; exact h; exact absurd (.inr h) hb
   by_cases hf : 12288 < n ∨ m.g = 4294967295
   ·have e : jnSaveE (m.of wl jl) st = 4 := by unfold jnSaveE; rw [if_neg (fun h => h hg), if_neg (show ¬ ((m.of wl jl).ph ≠ 0 ∨ (m.of wl jl).done ≠ (m.of wl jl).next) from hb), if_pos (show 12288 < st.length ∨ (m.of wl jl).g = 4294967295 by rw [hl]; exact hf)]
    have e2 : jnSave (m.of wl jl) st = m.of wl jl := by unfold jnSave; rw [e]; rfl
    rw [e, e2]; exact jrnSave_full P m wl jl A n cp st w hv hP hr hg h0 hd hf
   ·have e : jnSaveE (m.of wl jl) st = 0 := by unfold jnSaveE; rw [if_neg (fun h => h hg), if_neg (show ¬ ((m.of wl jl).ph ≠ 0 ∨ (m.of wl jl).done ≠ (m.of wl jl).next) from hb), if_neg (show ¬ (12288 < st.length ∨ (m.of wl jl).g = 4294967295) by rw [hl]; exact hf)]
    have e2 : jnSave (m.of wl jl) st = jnSaved (m.of wl jl) st := by unfold jnSave; rw [if_pos e]
    have := hv.1.g
    rw [e, e2]; exact jrnSave_yes P m wl jl A n cp st w hv hP hr hg h0 hd (by omega) (by have : m.g < 4294967296 := hv.1.g; omega)
 ·have e : jnSaveE (m.of wl jl) st = jnGoing (m.of wl jl) := by unfold jnSaveE; rw [if_pos hg]
  have e2 : jnSave (m.of wl jl) st = m.of wl jl := by unfold jnSave; rw [e, if_neg hg]
  rw [e, e2]; exact jrnSave_stop P m wl jl A n cp st w hv hP hr hg
set_option maxHeartbeats 8000000
theorem ref_Tamper_any (S : Option Addr) (sn sc : Nat) (K : Option Addr) (kn kc : Nat) (D : Dk) (a p : Int) (u : UInt8) (w : World) (hr : RdDk w S sn sc K kn kc D) (ha : -9223372036854775808 ≤ a ∧ a ≤ 9223372036854775807) (hp : -9223372036854775808 ≤ p ∧ p ≤ 9223372036854775807) :
  Calls Tryz.prog 42 #[.agg #[.slice S sn sc, .slice K kn kc], .int .i64 a, .int .i64 p, .int .u8 (u.toNat : Int)] w (RetDk w (dkTamper D a p u) (dkTamperE D a p)) := by
 obtain ⟨hn1, hn2, _, _, _, _⟩ := hr.n63
 have hsl := hr.sl
 have hkl := hr.kl
 obtain ⟨V, hV⟩ : ∃ V, V = (w.alloc (.cells #[.slice S sn sc, .slice K kn kc] 40)).alloc (.cells #[.slice none 0 0, .slice none 0 0] 40) := ⟨_, rfl⟩
 have bV : Below w.heap.size w V := by rw [hV]; exact ((below_self w).alloc (Nat.le_refl _) _).alloc (by simp) _
 have qV : Hid (DkAt V w.heap.size S sn sc K kn kc) := by rw [hV]; exact Lib.hid (drw_old _ (drw_at _ rfl))
 have rV : Hid (DkAt V (w.heap.size + 1) none 0 0 none 0 0) := by rw [hV]; exact Lib.hid (drw_at _ (by simp))
 have HV := Lib.hid hV
 have C1 := Lib.hid (refDskCheck_any S sn sc K kn kc D V (hr.below bV))
 have C2 := Lib.hid (fun W => refDskHas_any S sn sc K kn kc a W hn1 ha)
 have hno : ¬ dkTamperE D a p = 0 → dkTamper D a p u = D := fun h => by unfold dkTamper; rw [if_neg h]
 clear hV
 rcases dkAsk_cases hsl a with ⟨h1, h2⟩ | ⟨h1, h2, h3⟩ | ⟨h1, h0, h2, h3, h4⟩
 ·have e : dkTamperE D a p = 3 := by unfold dkTamperE; rw [if_pos (by rw [h2]; decide), h2]
  rw [hno (by rw [e]; decide), e]
  rw [h1] at C1
  clear h1 h2 hno e
  go_enter Tryz.func42, Tryz.ntmps42
  go_wp2_with fail
  rw [← HV.out]
  refine C1.out.mono ?_
  rintro e w1 ⟨rfl, hb1⟩
  have B1 := below_then bV hb1
  have q := Lib.hid (qV.out.up hb1)
  have r := Lib.hid (rV.out.up hb1)
  have x0 := q.out.c0
  have x1 := q.out.c1
  have y0 := r.out.c0
  have y1 := r.out.c1
  have f0 := r.out.fr 0
  have f1 := r.out.fr 1
  have QS := Lib.hid (r.out.s01 S sn sc K kn kc)
  go_wp2_with fail
  refine bodyPost_ret (dresults_cell_tmp Tryz.results42 _ _ (w.heap.size + 1) 40 _ (0, 0) _ rfl QS.out Tryz.underlying40 rfl (dkInfo ..)) rfl ?_
  exact ⟨S, sn, sc, K, kn, kc, rfl, hr.far2 B1 (by omega) _ _, below2 B1 (by omega) _ _⟩
 ·have e : dkTamperE D a p = 50 := by unfold dkTamperE; rw [if_pos (by rw [h3]; decide), h3]
  rw [hno (by rw [e]; decide), e]
  rw [h1] at C1
  rw [h2] at C2
  clear h1 h2 h3 hno e
  go_enter Tryz.func42, Tryz.ntmps42
  go_wp2_with fail
  rw [← HV.out]
  refine C1.out.mono ?_
  rintro e w1 ⟨rfl, hb1⟩
  have B1 := below_then bV hb1
  have q := Lib.hid (qV.out.up hb1)
  have r := Lib.hid (rV.out.up hb1)
  have x0 := q.out.c0
  have x1 := q.out.c1
  go_wp2_with fail
  refine (C2.out w1).mono ?_
  rintro e w2 ⟨rfl, hb2⟩
  have B2 := below_then B1 hb2
  have q := Lib.hid (q.out.up hb2)
  have r := Lib.hid (r.out.up hb2)
  have x0 := q.out.c0
  have x1 := q.out.c1
  have y0 := r.out.c0
  have y1 := r.out.c1
  have f0 := r.out.fr 0
  have f1 := r.out.fr 1
  have QS := Lib.hid (r.out.s01 S sn sc K kn kc)
  go_wp2_with fail
  refine bodyPost_ret (dresults_cell_tmp Tryz.results42 _ _ (w.heap.size + 1) 40 _ (0, 0) _ rfl QS.out Tryz.underlying40 rfl (dkInfo ..)) rfl ?_
  exact ⟨S, sn, sc, K, kn, kc, rfl, hr.far2 B2 (by omega) _ _, below2 B2 (by omega) _ _⟩
 ·have hok := h1
  rw [h1] at C1
  rw [h3] at C2
  have hs5 : sn ≤ 256 := by rw [← hsl]; exact ((dkOk_iff D).1 hok).1
  clear h1 h3
  by_cases hp0 : p < 0
  ·have e : dkTamperE D a p = 2 := by unfold dkTamperE; rw [if_neg (by simp [h4]), if_pos (.inl hp0)]
   rw [hno (by rw [e]; decide), e]
   have d1 : decide (p < 0) = true := decide_eq_true hp0
   clear hno e h4 hok hp0
   go_enter Tryz.func42, Tryz.ntmps42
   go_wp2_with fail
   rw [← HV.out]
   refine C1.out.mono ?_
   rintro e w1 ⟨rfl, hb1⟩
   have B1 := below_then bV hb1
   have q := Lib.hid (qV.out.up hb1)
   have r := Lib.hid (rV.out.up hb1)
   have x0 := q.out.c0
   have x1 := q.out.c1
   go_wp2_with fail
   refine (C2.out w1).mono ?_
   rintro e w2 ⟨rfl, hb2⟩
   have B2 := below_then B1 hb2
   have q := Lib.hid (q.out.up hb2)
   have r := Lib.hid (r.out.up hb2)
   have x0 := q.out.c0
   have x1 := q.out.c1
   have y0 := r.out.c0
   have y1 := r.out.c1
   have f0 := r.out.fr 0
   have f1 := r.out.fr 1
   have QS := Lib.hid (r.out.s01 S sn sc K kn kc)
   go_wp2_with fail
   refine bodyPost_ret (dresults_cell_tmp Tryz.results42 _ _ (w.heap.size + 1) 40 _ (0, 0) _ rfl QS.out Tryz.underlying40 rfl (dkInfo ..)) rfl ?_
   exact ⟨S, sn, sc, K, kn, kc, rfl, hr.far2 B2 (by omega) _ _, below2 B2 (by omega) _ _⟩
  ·have d1 : decide (p < 0) = false := decide_eq_false hp0
   by_cases hp1 : 256 ≤ p
   ·have e : dkTamperE D a p = 2 := by unfold dkTamperE; rw [if_neg (by simp [h4]), if_pos (.inr hp1)]
    rw [hno (by rw [e]; decide), e]
    have d2 : decide (256 ≤ p) = true := decide_eq_true hp1
    clear hno e h4 hok hp0 hp1
    go_enter Tryz.func42, Tryz.ntmps42
    go_wp2_with fail
    rw [← HV.out]
    refine C1.out.mono ?_
    rintro e w1 ⟨rfl, hb1⟩
    have B1 := below_then bV hb1
    have q := Lib.hid (qV.out.up hb1)
    have r := Lib.hid (rV.out.up hb1)
    have x0 := q.out.c0
    have x1 := q.out.c1
    go_wp2_with fail
    refine (C2.out w1).mono ?_
    rintro e w2 ⟨rfl, hb2⟩
    have B2 := below_then B1 hb2
    have q := Lib.hid (q.out.up hb2)
    have r := Lib.hid (r.out.up hb2)
    have x0 := q.out.c0
    have x1 := q.out.c1
    have y0 := r.out.c0
    have y1 := r.out.c1
    have f0 := r.out.fr 0
    have f1 := r.out.fr 1
    have QS := Lib.hid (r.out.s01 S sn sc K kn kc)
    go_wp2_with fail
    refine bodyPost_ret (dresults_cell_tmp Tryz.results42 _ _ (w.heap.size + 1) 40 _ (0, 0) _ rfl QS.out Tryz.underlying40 rfl (dkInfo ..)) rfl ?_
    exact ⟨S, sn, sc, K, kn, kc, rfl, hr.far2 B2 (by omega) _ _, below2 B2 (by omega) _ _⟩
   ·have e : dkTamperE D a p = 0 := by unfold dkTamperE; rw [if_neg (by simp [h4]), if_neg (by omega)]
    rw [e, show dkTamper D a p u = ⟨D.s.set a.toNat (dkTampered (D.s.getD a.toNat []) p.toNat u), D.k⟩ by unfold dkTamper; rw [if_pos e]]
    have d2 : decide (256 ≤ p) = false := decide_eq_false hp1
    obtain ⟨i, rfl⟩ : ∃ i : Nat, a = (i : Int) := ⟨a.toNat, by omega⟩
    obtain ⟨j, rfl⟩ : ∃ j : Nat, p = (j : Int) := ⟨p.toNat, by omega⟩
    rw [Int.toNat_natCast, Int.toNat_natCast]
    have hi : i < sn := by omega
    have hj : j < 256 := by omega
    have hl9 := dkOk_slen hok i (by omega)
    have l1 : (i : Int) < (sn : Int) := by omega
    have l2 : (j : Int) < 256 := by omega
    obtain ⟨⟨vs, hs⟩, us, hus⟩ := id hr
    obtain ⟨b5, o5, B, m, d, hSe, hb5, hc5, hy⟩ := hs.at_ i hi
    obtain ⟨Y, hY⟩ : ∃ Y, D.s.getD i [] = Y := ⟨_, rfl⟩
    rw [hY] at hl9 hy ⊢
    have hm : m = 256 := by rw [← hy.2.1]; exact hl9
    subst hm
    have HUS := Lib.hid hus
    have HS := Lib.hid hs
    have HYY := Lib.hid hy
    have HHL := Lib.hid hl9
    have H1c := Lib.hid (parts_one hs.2.2.2.2)
    subst hSe
    clear hno e h4 hok hp0 hp1 hus hs hy hl9 hY hsl
    go_enter Tryz.func42, Tryz.ntmps42
    go_wp2_with fail
    rw [← HV.out]
    refine C1.out.mono ?_
    rintro e w1 ⟨rfl, hb1⟩
    have B1 := below_then bV hb1
    have q := Lib.hid (qV.out.up hb1)
    have r := Lib.hid (rV.out.up hb1)
    have x0 := q.out.c0
    have x1 := q.out.c1
    go_wp2_with fail
    refine (C2.out w1).mono ?_
    rintro e w2 ⟨rfl, hb2⟩
    have B2 := below_then B1 hb2
    have q := Lib.hid (q.out.up hb2)
    have r := Lib.hid (r.out.up hb2)
    have x0 := q.out.c0
    have x1 := q.out.c1
    have bA := (below_self w2).alloc (Nat.le_refl _) (.cells #[] 5)
    have HO2 := Lib.hid (OwnB.lit w2 #[] [] 0 rfl rfl (by simp [maxLen]))
    have x0a : (w2.alloc (.cells #[] 5)).cell? ⟨w.heap.size, 0, none⟩ = some (.slice (some ⟨b5, o5, none⟩) sn sc) := (q.out.up bA).c0
    have x5a : (w2.alloc (.cells #[] 5)).cell? ⟨b5, o5 + i, none⟩ = some (.slice B 256 d) := ((below_then B2 bA).cell (p := ⟨b5, o5 + i, none⟩) hb5).trans hc5
    have Q2 := q
    have R2 := r
    have lq2 := q.out.lt
    have lr2 := r.out.lt
    go_wp2_with (first
     | (
      at_builtin
      refine wp_appB rfl _ _ rfl ((below_self w2).alloc (Nat.le_refl _) _) (Nat.le_refl _) (by simp) (some ⟨w2.heap.size, 0, none⟩) 0 0 [] rfl HO2.out B 256 d Y rfl ((HYY.out.below B2).alloc _) (by omega) 256 Y (by omega) rfl ?_
      intro A5 c5 w5 ho5 hb5g hg5
      obtain ⟨g5, e5, h51, h52⟩ := ho5.addr (by omega)
      subst e5
      obtain ⟨u9, hu9, hc9⟩ := ho5.cell_ j hj
      have hf9 := ho5.free j
      have ex := du8_xor u9 u
      have HD7 := Lib.hid (ho5.set_ j (u9 ^^^ u))
      have HU9 := Lib.hid hu9
      obtain ⟨bv, hbv⟩ : ∃ bv : Int, bv = (((u9 ^^^ u).toNat : Nat) : Int) := ⟨_, rfl⟩
      rw [← hbv] at ex HD7
      obtain ⟨U6, hU6⟩ : ∃ U, U = w5.setCell ⟨g5, j, none⟩ (.int .u8 bv) := ⟨_, rfl⟩
      have HU6 := Lib.hid hU6
      rw [← hU6] at HD7
      have b6 : Below w2.heap.size w2 U6 := (by rw [hU6]; exact hb5g.setCell (p := ⟨g5, j, none⟩) h51 _)
      have Q6 := Lib.hid (Q2.out.up b6)
      have x0b : ((w5.setCell ⟨g5, j, none⟩ (.int .u8 bv)).alloc (.cells #[] 47)).cell? ⟨w.heap.size, 0, none⟩ = some (.slice (some ⟨b5, o5, none⟩) sn sc) := (by rw [← hU6]; exact (Q6.out.up ((below_self U6).alloc (Nat.le_refl _) _)).c0)
      have zU : U6.heap.size = w5.heap.size := (by rw [hU6]; simp)
      have hown := World.ownsRow_lit (size := 1) (e := 47) U6 #[] 0 (Nat.le_refl _) (by simp [maxLen]) rfl
      rw [zU] at hown
      have HO6 := Lib.hid hown
      have ZU := Lib.hid zU
      have l52 : w2.heap.size ≤ w5.heap.size := hb5g.size
      clear hu9 hbv hU6 hown ho5 hg5 x0 x1 x0a x5a zU
      )
     | (
      at_builtin
      rw [← HU6.out]
      refine wp_app rfl _ _ 37 47 rfl delemSS _ _ 0 _ rfl HO6.out _ sn sc vs rfl (((HS.out.below (below_then B2 b6)).1).alloc _) (by simpa using HS.out.2.1) H1c.out (by unfold maxLen; omega) (by omega) (by simp; have := ZU.out; omega) ?_
      intro A7 c7 w7 ho7 hg7
      have hb7 : Below U6.heap.size U6 w7 := ((Below.refl _ _).alloc (Nat.le_refl _) _).grown hg7 (by simp) (fun q hq => by have := (HO6.out.lt q hq).1; have := ZU.out; omega)
      have HO7 := Lib.hid (show w7.ownsRow w5.heap.size 47 1 (.slice A7 sn c7) sn vs by simpa using ho7)
      obtain ⟨g7, cap7, hv7, hbg7, hlg7⟩ := World.ownsRow.form HO7.out (by omega)
      injection hv7 with hv7 hv8 hv9
      subst hv7 hv9
      have Q7 := Lib.hid (Q6.out.up hb7)
      have R7 := Lib.hid ((R2.out.up b6).up hb7)
      have D7 := Lib.hid (HD7.out.below hb7)
      have z0 := Q7.out.c0
      have z1 := Q7.out.c1
      have z2 := Q7.out.fr 0
      have n7 : ¬ (g7 = w.heap.size) := (by omega)
      have n8 : ¬ (w.heap.size = g7) := (by omega)
      obtain ⟨W8, hW8⟩ : ∃ W, W = w7.setCell ⟨w.heap.size, 0, none⟩ (.slice (some ⟨g7, 0, none⟩) sn c7) := ⟨_, rfl⟩
      have Q8 : Hid (DkAt W8 w.heap.size (some ⟨g7, 0, none⟩) sn c7 K kn kc) := (by rw [hW8]; exact Lib.hid (Q7.out.s0 _ _ _))
      have R8 : Hid (DkAt W8 (w.heap.size + 1) none 0 0 none 0 0) := (by rw [hW8]; exact Lib.hid ((heap_setCell_other _ _ _ _ (by show w.heap.size + 1 ≠ w.heap.size; omega)).trans R7.out))
      have O8 : Hid (W8.ownsRow w5.heap.size 47 1 (.slice (some ⟨g7, 0, none⟩) sn c7) sn vs) := (by rw [hW8]; exact Lib.hid (own_far HO7.out Q7.out (by decide) 0 _))
      have D8 : Hid (OwnB W8 w2.heap.size (some ⟨g5, 0, none⟩) 256 c5 (Y.set j (u9 ^^^ u))) := (by rw [hW8]; exact Lib.hid (own_far D7.out Q7.out (by decide) 0 _))
      have k0 := Q8.out.c0
      have k1 := World.ownsRow.cellAt O8.out i (by omega)
      have k2 := World.ownsRow.frozenAt O8.out i
      rw [List.getElem?_eq_getElem (by rw [HS.out.2.1]; exact hi)] at k1
      obtain ⟨v1, hv1⟩ : ∃ v, vs[i]'(by rw [HS.out.2.1]; exact hi) = v := ⟨_, rfl⟩
      rw [hv1] at k1
      obtain ⟨cur8, hc8⟩ := own_rowOf O8.out
      obtain ⟨W9, hW9⟩ : ∃ W, W = W8.setCell ⟨g7, i, none⟩ (.slice (some ⟨g5, 0, none⟩) 256 c5) := ⟨_, rfl⟩
      have Q9 : Hid (DkAt W9 w.heap.size (some ⟨g7, 0, none⟩) sn c7 K kn kc) := (by rw [hW9]; exact Lib.hid ((heap_setCell_other _ _ _ _ (by show w.heap.size ≠ g7; omega)).trans Q8.out))
      have R9 : Hid (DkAt W9 (w.heap.size + 1) none 0 0 none 0 0) := (by rw [hW9]; exact Lib.hid ((heap_setCell_other _ _ _ _ (by show w.heap.size + 1 ≠ g7; omega)).trans R8.out))
      have O9 : Hid (W9.ownsRow w5.heap.size 47 1 (.slice (some ⟨g7, 0, none⟩) sn c7) sn (vs.set i (.slice (some ⟨g5, 0, none⟩) 256 c5))) := (by rw [hW9]; exact Lib.hid (World.ownsRow.stored O8.out i _).1)
      have D9 : Hid (OwnB W9 w2.heap.size (some ⟨g5, 0, none⟩) 256 c5 (Y.set j (u9 ^^^ u))) := (by rw [hW9]; exact Lib.hid (own_far D8.out hc8 (by decide) i _))
      have B9 : Below w.heap.size w W9 := (by rw [hW9, hW8]; exact ((below_then (below_then B2 b6) hb7).setCell (p := ⟨w.heap.size, 0, none⟩) (Nat.le_refl _) _).setCell (p := ⟨g7, i, none⟩) (by show w.heap.size ≤ g7; omega) _)
      have t1 : (w7.setCell ⟨w.heap.size, 0, none⟩ (.slice (some ⟨g7, 0, none⟩) sn c7)).cell? ⟨w.heap.size, 0, none⟩ = some (.slice (some ⟨g7, 0, none⟩) sn c7) := (by rw [← hW8]; exact k0)
      have t2 : (w7.setCell ⟨w.heap.size, 0, none⟩ (.slice (some ⟨g7, 0, none⟩) sn c7)).cell? ⟨g7, i, none⟩ = some v1 := (by rw [← hW8]; exact k1)
      have t3 : (w7.setCell ⟨w.heap.size, 0, none⟩ (.slice (some ⟨g7, 0, none⟩) sn c7)).frozen? ⟨g7, i, none⟩ = false := (by rw [← hW8]; exact k2)
      have t4 : ((w7.setCell ⟨w.heap.size, 0, none⟩ (.slice (some ⟨g7, 0, none⟩) sn c7)).setCell ⟨g7, i, none⟩ (.slice (some ⟨g5, 0, none⟩) 256 c5)).cell? ⟨w.heap.size, 0, none⟩ = some (.slice (some ⟨g7, 0, none⟩) sn c7) := (by rw [← hW8, ← hW9]; exact Q9.out.c0)
      have t5 : ((w7.setCell ⟨w.heap.size, 0, none⟩ (.slice (some ⟨g7, 0, none⟩) sn c7)).setCell ⟨g7, i, none⟩ (.slice (some ⟨g5, 0, none⟩) 256 c5)).cell? ⟨w.heap.size, 1, none⟩ = some (.slice K kn kc) := (by rw [← hW8, ← hW9]; exact Q9.out.c1)
      have t6 : ((w7.setCell ⟨w.heap.size, 0, none⟩ (.slice (some ⟨g7, 0, none⟩) sn c7)).setCell ⟨g7, i, none⟩ (.slice (some ⟨g5, 0, none⟩) 256 c5)).cell? ⟨w.heap.size + 1, 0, none⟩ = some (.slice none 0 0) := (by rw [← hW8, ← hW9]; exact R9.out.c0)
      have t7 : ((w7.setCell ⟨w.heap.size, 0, none⟩ (.slice (some ⟨g7, 0, none⟩) sn c7)).setCell ⟨g7, i, none⟩ (.slice (some ⟨g5, 0, none⟩) 256 c5)).cell? ⟨w.heap.size + 1, 1, none⟩ = some (.slice none 0 0) := (by rw [← hW8, ← hW9]; exact R9.out.c1)
      have t8 : ((w7.setCell ⟨w.heap.size, 0, none⟩ (.slice (some ⟨g7, 0, none⟩) sn c7)).setCell ⟨g7, i, none⟩ (.slice (some ⟨g5, 0, none⟩) 256 c5)).frozen? ⟨w.heap.size + 1, 0, none⟩ = false := (by rw [← hW8, ← hW9]; exact R9.out.fr 0)
      have t9 : ((w7.setCell ⟨w.heap.size, 0, none⟩ (.slice (some ⟨g7, 0, none⟩) sn c7)).setCell ⟨g7, i, none⟩ (.slice (some ⟨g5, 0, none⟩) 256 c5)).frozen? ⟨w.heap.size + 1, 1, none⟩ = false := (by rw [← hW8, ← hW9]; exact R9.out.fr 1)
      have HW9 := Lib.hid (show W9 = (w7.setCell ⟨w.heap.size, 0, none⟩ (.slice (some ⟨g7, 0, none⟩) sn c7)).setCell ⟨g7, i, none⟩ (.slice (some ⟨g5, 0, none⟩) 256 c5) by rw [hW9, hW8])
      clear ho7 hg7 hbg7 hlg7 k0 k1 k2 hv1 hc8 hW8 hW9 x0b hc9 hf9 ex
      ))
    have QS := Lib.hid (R9.out.s01 (some ⟨g7, 0, none⟩) sn c7 K kn kc)
    have BF := below2 B9 (q := w.heap.size + 1) (by omega) (.slice (some ⟨g7, 0, none⟩) sn c7) (.slice K kn kc)
    have oF := own_far (own_far O9.out R9.out (by decide) 0 (.slice (some ⟨g7, 0, none⟩) sn c7)) (R9.out.s0 (some ⟨g7, 0, none⟩) sn c7) (by decide) 1 (.slice K kn kc)
    have dF : OwnB _ _ (some ⟨g5, 0, none⟩) 256 c5 (Y.set j (u9 ^^^ u)) := own_far (own_far D9.out R9.out (by decide) 0 (.slice (some ⟨g7, 0, none⟩) sn c7)) (R9.out.s0 (some ⟨g7, 0, none⟩) sn c7) (by decide) 1 (.slice K kn kc)
    rw [← HW9.out]
    refine bodyPost_ret (dresults_cell_tmp Tryz.results42 _ _ (w.heap.size + 1) 40 _ (0, 0) _ rfl QS.out Tryz.underlying40 rfl (dkInfo ..)) rfl ?_
    obtain ⟨A9, c9, hv9, e3, e4, _⟩ := own_form oF
    injection hv9 with _ _ hv9
    subst hv9
    refine ⟨some ⟨g7, 0, none⟩, sn, c7, K, kn, kc, rfl, ⟨⟨_, Rd.of_own oF, by rw [List.length_set]; exact HS.out.2.1, e3, e4, parts_get (by rw [List.length_set, List.length_set]; exact HS.out.2.2.2.2.length) (fun k hk => ?_)⟩, us, HUS.out.below BF⟩, BF⟩
    rw [List.length_set] at hk
    by_cases hki : k = i
    ·subst hki
     refine ⟨_, _, _, List.getElem?_set_self hk, ?_⟩
     have e : (D.s.set k (dkTampered Y j u)).getD k [] = Y.set j (u9 ^^^ u) := by
      rw [List.getD, List.getElem?_set_self (by rw [← HS.out.2.2.2.2.length]; exact hk)]
      unfold dkTampered
      rw [List.getD, HU9.out]; rfl
     rw [e]; exact dF.rd
    ·obtain ⟨A8, m8, c8, e8, r8⟩ := HS.out.2.2.2.2.at_ k hk (by rw [← HS.out.2.2.2.2.length]; exact hk)
     refine ⟨A8, m8, c8, by rw [List.getElem?_set_ne (by omega), List.getElem?_eq_getElem hk, e8], ?_⟩
     rw [List.getD, List.getElem?_set_ne (by omega), List.getElem?_eq_getElem (by rw [← HS.out.2.2.2.2.length]; exact hk)]
     exact r8.below BF
set_option maxHeartbeats 8000000
theorem SecsI.agr {w0 w W : World} {g n i : Nat} {f : Nat → List UInt8} (h : SecsI w0 g n f i w) (ha : ∀ j, w0.heap.size ≤ j → j < w.heap.size → W.heap[j]? = w.heap[j]?) : SecsI w0 g n f i W := by
 obtain ⟨vs, h1, h2⟩ := h
 refine ⟨vs, own_agr h1 ha, fun j hj => ?_⟩
 obtain ⟨A, m, c, h3, h4⟩ := h2 j hj
 exact ⟨A, m, c, h3, own_agr h4 ha⟩
set_option maxHeartbeats 8000000
theorem dkFlush_ok {D : Dk} (h : dkOk D = true) : dkFlush D = dkLeft D (fun _ => true) ∧ dkOk (dkFlush D) = true ∧ dkE D = 0 ∧ (dkFlush D).k = [] := by
 have e : dkFlush D = dkLeft D (fun _ => true) := by unfold dkFlush; rw [if_pos h]
 exact ⟨e, by rw [e]; exact dkLeft_ok D _ h, by unfold dkE; rw [if_pos h], by rw [e]; rfl⟩
set_option maxHeartbeats 8000000
def RetDkN (w : World) (D : Dk) (er : Int) (e : Ending) (w' : World) : Prop :=
 ∃ S sn sc K kn kc, e = .returned (.tuple #[.agg #[.slice S sn sc, .slice K kn kc], .int .i64 er]) ∧ Below w.heap.size w w' ∧ ∀ W, (∀ j, w.heap.size ≤ j → j < w'.heap.size → W.heap[j]? = w'.heap[j]?) → RdDk W S sn sc K kn kc D
theorem dskFlushN_any (S : Option Addr) (sn sc : Nat) (K : Option Addr) (kn kc : Nat) (D : Dk) (w : World) (hr : RdDk w S sn sc K kn kc D) (hok : dkOk D = true) :
  Calls Tryz.prog 80 #[.agg #[.slice S sn sc, .slice K kn kc]] w (RetDkN w (dkFlush D) (dkE D)) := by
 obtain ⟨V, hV⟩ : ∃ V, V = (w.alloc (.cells #[.slice S sn sc, .slice K kn kc] 40)).alloc (.cells #[.slice none 0 0, .slice none 0 0] 40) := ⟨_, rfl⟩
 have bV : Below w.heap.size w V := by rw [hV]; exact ((below_self w).alloc (Nat.le_refl _) _).alloc (by simp) _
 have qV : Hid (DkAt V w.heap.size S sn sc K kn kc) := by rw [hV]; exact Lib.hid (drw_old _ (drw_at _ rfl))
 have rV : Hid (DkAt V (w.heap.size + 1) none 0 0 none 0 0) := by rw [hV]; exact Lib.hid (drw_at _ (by simp))
 have HV := Lib.hid hV
 have H1 := Lib.hid (dskCheck_any S sn sc K kn kc D V (hr.below bV))
 clear hV
 unfold dkFlush dkE
 rw [hok] at H1
 rw [if_pos hok, if_pos hok]
 have H2 := Lib.hid (fun W (hb : Below V.heap.size V W) => dskLeft_any 121 #[] S sn sc K kn kc D W (fun _ => true) (hr.below (below_then bV hb)) hok (fun args W => by go_simp) (fun W i _ _ => dskFlush1_any i W))
 have HOK := Lib.hid hok
 clear hok
 go_enter Tryz.func80, Tryz.ntmps80
 go_wp2_with fail
 rw [← HV.out]
 refine H1.out.mono ?_
 rintro e w2 ⟨rfl, hb2⟩
 have q2 := qV.out.up hb2
 have x0 := q2.c0
 have x1 := q2.c1
 have B2 := below_then bV hb2
 clear q2
 go_wp2_with fail
 refine (H2.out w2 hb2).mono ?_
 rintro e w3 ⟨g3, rfl, hr3, hb3⟩
 have r3 := (rV.out.up hb2).up hb3
 have y0 := r3.c0
 have y1 := r3.c1
 have f0 := r3.fr 0
 have f1 := r3.fr 1
 have QS := Lib.hid (r3.s01 (some ⟨g3, 0, none⟩) sn sn none 0 0)
 have B3 := below_then B2 hb3
 have HR := Lib.hid hr3
 have R3 := Lib.hid r3
 clear r3 hr3 x0 x1
 go_wp2_with fail
 refine bodyPost_ret (dresults_cell_tmp Tryz.results80 _ _ (w.heap.size + 1) 40 _ (0, 0) _ rfl QS.out Tryz.underlying40 rfl (dkInfo ..)) rfl ?_
 exact ⟨_, sn, sn, none, 0, 0, rfl, below2 B3 (by omega) _ _, fun W hag => SecsI.disk (SecsI.agr ((HR.out.far R3.out (by decide) (by decide) 0 _).far (R3.out.s0 (some ⟨g3, 0, none⟩) sn sn) (by decide) (by decide) 1 _) (fun j hj hj2 => hag j (by have := B2.size; omega) hj2)) hr.sl (by have := ((dkOk_iff D).1 HOK.out).1; have := hr.sl; omega)⟩
theorem vFlushN {P : Nat → Prop} {w : World} {AV : Array Value} {D : Dk} (v : DkVal AV w D) (hok : dkOk D = true) (hP : ∀ j, P j → j < w.heap.size) : Calls Tryz.prog 80 #[.agg AV] w (fun e w' => ∃ AV', e = .returned (.tuple #[.agg AV', .int .i64 0]) ∧ DkIn P w' AV' (dkFlush D) ∧ Below w.heap.size w w') := by
 obtain ⟨S, sn, sc, K, kn, kc, rfl, r⟩ := v
 refine (dskFlushN_any S sn sc K kn kc D w r hok).mono ?_
 rintro e w' ⟨S2, sn2, sc2, K2, kn2, kc2, h1, h2, h3⟩
 have e0 : dkE D = 0 := by unfold dkE; rw [if_pos hok]
 rw [e0] at h1
 have hk : (dkFlush D).k = [] := (dkFlush_ok hok).2.2.2
 refine ⟨_, h1, ⟨S2, sn2, sc2, K2, kn2, kc2, rfl, h3 w' (fun _ _ _ => rfl), fun W hW => ?_⟩, h2⟩
 have hd := h3 W (fun j hj hj2 => hW.2.2.2.2 j hj2 (fun hp => by have := hP j hp; omega))
 refine ⟨hd.1, fun us hus => ?_⟩
 obtain ⟨us2, hu2⟩ := hd.2
 have e1 : us = us2 := by
  have a := hus.2.2.2.2.length
  have b := hu2.2.2.2.2.length
  rw [hk] at a b
  have a' : us = [] := List.eq_nil_of_length_eq_zero (by simpa using a)
  have b' : us2 = [] := List.eq_nil_of_length_eq_zero (by simpa using b)
  rw [a', b']
 rw [e1]; exact hu2
end Go.Proofs.YtpahicfnhhhifaaGreat
