/-
 Proved here, for the statement JournalTells:
 Layer 14 (the document): Ask (printed by genjrg.py).
 Layer 14 (the document): Few of any journal.
-/
import Derived.Test.YtpahicfnhhhifaaGreatGt28
set_option linter.unusedVariables false
set_option linter.unusedSimpArgs false
namespace Go.Proofs.YtpahicfnhhhifaaGreat
set_option maxRecDepth 20000
open Go.RowKit
set_option maxHeartbeats 8000000
theorem ws_tail {P : Nat → Prop} {w : World} {b o n c : Nat} {x : Jb} {l : List Jb} {us : List Value} (h : ∀ W, AgrP P w W → RdWs W (some ⟨b, o, none⟩) n c us (x :: l)) : ∀ W, AgrP P w W → RdWs W (some ⟨b, o + 2, none⟩) l.length (c - 1) (us.drop 2) l := fun W hW => by
 obtain ⟨b', o', B, k, d, hA, _, _, _, _, _, _, _, _, _, hr⟩ := ws_first (P := P) (w := W) (fun W' hW' => h W' ⟨Nat.le_trans hW.1 hW'.1, fun j hj hP => (hW'.2 j (Nat.lt_of_lt_of_le hj hW.1) hP).trans (hW.2 j hj hP)⟩)
 injection hA with hA
 injection hA with e1 e2
 subst e1 e2
 exact hr
theorem ws_nilA (w : World) (P : Nat → Prop) (A : Option Addr) : WsIn P w A 0 0 [] := ⟨[], fun W _ => ⟨.inl rfl, rfl, Nat.le_refl _, by simp [maxLen], trivial⟩⟩
def AkN (m : Jm) : Prop := (m.ph != 1) = false ∨ ((m.ph != 1) = true ∧ (m.ph != 3) = false) ∨ ((m.ph != 1) = true ∧ (m.ph != 3) = true ∧ (m.ph != 5) = false)
theorem akn {m : Jm} (h : m.ph = 1 ∨ m.ph = 3 ∨ m.ph = 5) : AkN m := by
 unfold AkN
 rcases h with h | h | h <;> rw [h] <;> decide
set_option maxRecDepth 100000 in
theorem refAsk14_bad (P : Nat → Prop) (m : Jm) (wl jl : List Jb) (w : World) (hv : JIn P w m (m.of wl jl)) (hP : ∀ j, P j → j < w.heap.size) (hck : jnChk (m.of wl jl) = false)  :
  Calls Tryz.prog 18 #[.agg (jmV m).toArray] w (RetAk P w (m.of wl jl, (0, []), false, false)) := by
 obtain ⟨V0, hV0⟩ : ∃ V, V = (w.alloc (.cells (jmV m).toArray 36)).alloc (.cells Tryz.zeroCells36 36) := ⟨_, rfl⟩
 have s0 := js_new hv hV0
 obtain ⟨V, hV⟩ : ∃ V, V = V0.alloc (.cells #[.int .i64 0, .slice none 0 0] 60) := ⟨_, rfl⟩
 have bV0 : Below V0.heap.size V0 V := by rw [hV]; exact (below_self V0).alloc (Nat.le_refl _) _
 have zV0 : V0.heap.size = w.heap.size + 2 := by rw [hV0]; simp
 have S := Lib.hid (s0.up bV0)
 have Z : Hid (JbZ V (w.heap.size + 2)) := Lib.hid (by rw [hV]; exact drw_at _ zV0)
 have zV : V.heap.size = w.heap.size + 3 := by rw [hV]; simp [zV0]
 have ZV := Lib.hid zV
 have HV0 := Lib.hid hV0
 have HV := Lib.hid hV
 have C := Lib.hid (refCheck14_any P m (m.of wl jl) V (hv.below S.out.b))
 rw [hck] at C
 have HI := Lib.hid hv
 have HP := Lib.hid hP
 clear hV0 hV zV zV0 bV0 s0 hv hP hck
 go_enter Tryz.func18, Tryz.ntmps18
 go_wp2_with (first | (rw [← HV0.out, ← HV.out]) | (refine jm_load S.out.z rfl _ rfl rfl S.out.j ?_))
 refine C.out.mono ?_
 rintro e w1 ⟨rfl, hb1⟩
 have S1 := Lib.hid (S.out.up hb1)
 have Z1 := Lib.hid (Z.out.up hb1)
 obtain ⟨⟨c0, c1, c2, c3, c4⟩, ⟨c37, c38, c39, c40, c41, c76, c77⟩, fz⟩ := S1.out.j.cells S1.out.z
 go_wp2_with (first | (refine jm_load S1.out.z rfl _ rfl rfl S1.out.j ?_) | (refine jm_store S1.out.z jmZ_z rfl _ _ rfl rfl rfl S1.out.o ?_; intro X zX qX bX nX; have z0 : Hid (JbZ X (w.heap.size + 1 + 1)) := Lib.hid ((nX _ (by omega)).trans Z1.out)) | (refine jb_store rfl _ _ rfl rfl 0 none 0 0 rfl z0.out ?_; intro X2 zX2 qZ bX2 nX2))
 try rw [Exit.noGoto_ret]
 have qX2 : JmAt X2 (w.heap.size + 1) m := (nX2 _ (by omega)).trans qX
 refine bodyPost_ret (dresults4 Tryz.results18 _ _ (w.heap.size + 1) (w.heap.size + 2) 36 60 _ _ (0, 0) (0, 0) _ _ rfl qX2 Tryz.underlying36 rfl (jm_info S1.out.z) rfl qZ Tryz.underlying60 rfl (jb_info _ _ _ _)) rfl ?_
 have bF := (S1.out.b.trans (bX w.heap.size (by omega))).trans (bX2 w.heap.size (by omega))
 exact ask_end (x := (0, [])) rfl (HI.out.below bF) (bin_nil P _) (by decide) bF
set_option maxRecDepth 100000 in
theorem refAsk14_rest (P : Nat → Prop) (m : Jm) (wl jl : List Jb) (w : World) (hv : JIn P w m (m.of wl jl)) (hP : ∀ j, P j → j < w.heap.size) (hck : jnChk (m.of wl jl) = true) (h0 : ¬ m.ph = 0) (h1 : ¬ (m.ph = 1 ∨ m.ph = 3 ∨ m.ph = 5)) :
  Calls Tryz.prog 18 #[.agg (jmV m).toArray] w (RetAk P w (m.of wl jl, (0, []), false, false)) := by
 obtain ⟨V0, hV0⟩ : ∃ V, V = (w.alloc (.cells (jmV m).toArray 36)).alloc (.cells Tryz.zeroCells36 36) := ⟨_, rfl⟩
 have s0 := js_new hv hV0
 obtain ⟨V, hV⟩ : ∃ V, V = V0.alloc (.cells #[.int .i64 0, .slice none 0 0] 60) := ⟨_, rfl⟩
 have bV0 : Below V0.heap.size V0 V := by rw [hV]; exact (below_self V0).alloc (Nat.le_refl _) _
 have zV0 : V0.heap.size = w.heap.size + 2 := by rw [hV0]; simp
 have S := Lib.hid (s0.up bV0)
 have Z : Hid (JbZ V (w.heap.size + 2)) := Lib.hid (by rw [hV]; exact drw_at _ zV0)
 have zV : V.heap.size = w.heap.size + 3 := by rw [hV]; simp [zV0]
 have ZV := Lib.hid zV
 have HV0 := Lib.hid hV0
 have HV := Lib.hid hV
 have C := Lib.hid (refCheck14_any P m (m.of wl jl) V (hv.below S.out.b))
 rw [hck] at C
 have HI := Lib.hid hv
 have HP := Lib.hid hP
 have p0 : (m.ph == 0) = false := beq_eq_false_iff_ne.2 h0
 have n1 : (m.ph != 1) = true := by simp; exact fun h => h1 (.inl h)
 have n3 : (m.ph != 3) = true := by simp; exact fun h => h1 (.inr (.inl h))
 have n5 : (m.ph != 5) = true := by simp; exact fun h => h1 (.inr (.inr h))
 clear h0 h1
 clear hV0 hV zV zV0 bV0 s0 hv hP hck
 go_enter Tryz.func18, Tryz.ntmps18
 go_wp2_with (first | (rw [← HV0.out, ← HV.out]) | (refine jm_load S.out.z rfl _ rfl rfl S.out.j ?_))
 refine C.out.mono ?_
 rintro e w1 ⟨rfl, hb1⟩
 have S1 := Lib.hid (S.out.up hb1)
 have Z1 := Lib.hid (Z.out.up hb1)
 obtain ⟨⟨c0, c1, c2, c3, c4⟩, ⟨c37, c38, c39, c40, c41, c76, c77⟩, fz⟩ := S1.out.j.cells S1.out.z
 go_wp2_with (first | (refine jm_load S1.out.z rfl _ rfl rfl S1.out.j ?_) | (refine jm_store S1.out.z jmZ_z rfl _ _ rfl rfl rfl S1.out.o ?_; intro X zX qX bX nX; have z0 : Hid (JbZ X (w.heap.size + 1 + 1)) := Lib.hid ((nX _ (by omega)).trans Z1.out)) | (refine jb_store rfl _ _ rfl rfl 0 none 0 0 rfl z0.out ?_; intro X2 zX2 qZ bX2 nX2))
 try rw [Exit.noGoto_ret]
 have qX2 : JmAt X2 (w.heap.size + 1) m := (nX2 _ (by omega)).trans qX
 refine bodyPost_ret (dresults4 Tryz.results18 _ _ (w.heap.size + 1) (w.heap.size + 2) 36 60 _ _ (0, 0) (0, 0) _ _ rfl qX2 Tryz.underlying36 rfl (jm_info S1.out.z) rfl qZ Tryz.underlying60 rfl (jb_info _ _ _ _)) rfl ?_
 have bF := (S1.out.b.trans (bX w.heap.size (by omega))).trans (bX2 w.heap.size (by omega))
 exact ask_end (x := (0, [])) rfl (HI.out.below bF) (bin_nil P _) (by decide) bF
set_option maxRecDepth 100000 in
theorem refAsk14_idle (P : Nat → Prop) (m : Jm) (jl : List Jb) (w : World) (hv : JIn P w m (m.of [] jl)) (hP : ∀ j, P j → j < w.heap.size) (hck : jnChk (m.of [] jl) = true) (h0 : m.ph = 0) :
  Calls Tryz.prog 18 #[.agg (jmV m).toArray] w (RetAk P w (m.of [] jl, (0, []), false, false)) := by
 obtain ⟨V0, hV0⟩ : ∃ V, V = (w.alloc (.cells (jmV m).toArray 36)).alloc (.cells Tryz.zeroCells36 36) := ⟨_, rfl⟩
 have s0 := js_new hv hV0
 obtain ⟨V, hV⟩ : ∃ V, V = V0.alloc (.cells #[.int .i64 0, .slice none 0 0] 60) := ⟨_, rfl⟩
 have bV0 : Below V0.heap.size V0 V := by rw [hV]; exact (below_self V0).alloc (Nat.le_refl _) _
 have zV0 : V0.heap.size = w.heap.size + 2 := by rw [hV0]; simp
 have S := Lib.hid (s0.up bV0)
 have Z : Hid (JbZ V (w.heap.size + 2)) := Lib.hid (by rw [hV]; exact drw_at _ zV0)
 have zV : V.heap.size = w.heap.size + 3 := by rw [hV]; simp [zV0]
 have ZV := Lib.hid zV
 have HV0 := Lib.hid hV0
 have HV := Lib.hid hV
 have C := Lib.hid (refCheck14_any P m (m.of [] jl) V (hv.below S.out.b))
 rw [hck] at C
 have HI := Lib.hid hv
 have HP := Lib.hid hP
 have H0 := Lib.hid h0
 clear h0
 clear hV0 hV zV zV0 bV0 s0 hv hP hck
 go_enter Tryz.func18, Tryz.ntmps18
 go_wp2_with (first | (rw [← HV0.out, ← HV.out]) | (refine jm_load S.out.z rfl _ rfl rfl S.out.j ?_))
 refine C.out.mono ?_
 rintro e w1 ⟨rfl, hb1⟩
 have S1 := Lib.hid (S.out.up hb1)
 have Z1 := Lib.hid (Z.out.up hb1)
 obtain ⟨⟨c0, c1, c2, c3, c4⟩, ⟨c37, c38, c39, c40, c41, c76, c77⟩, fz⟩ := S1.out.j.cells S1.out.z
 replace c37 := jn_c37 (HI.out.below (below_then S.out.b hb1)) c37
 rw [show m.ph = 0 from H0.out] at c38
 go_wp2_with (first | (refine jm_load S1.out.z rfl _ rfl rfl S1.out.j ?_) | (refine jm_store S1.out.z jmZ_z rfl _ _ rfl rfl rfl S1.out.o ?_; intro X zX qX bX nX; have z0 : Hid (JbZ X (w.heap.size + 1 + 1)) := Lib.hid ((nX _ (by omega)).trans Z1.out)) | (refine jb_store rfl _ _ rfl rfl 0 none 0 0 rfl z0.out ?_; intro X2 zX2 qZ bX2 nX2))
 try rw [Exit.noGoto_ret]
 have qX2 : JmAt X2 (w.heap.size + 1) m := (nX2 _ (by omega)).trans qX
 refine bodyPost_ret (dresults4 Tryz.results18 _ _ (w.heap.size + 1) (w.heap.size + 2) 36 60 _ _ (0, 0) (0, 0) _ _ rfl qX2 Tryz.underlying36 rfl (jm_info S1.out.z) rfl qZ Tryz.underlying60 rfl (jb_info _ _ _ _)) rfl ?_
 have bF := (S1.out.b.trans (bX w.heap.size (by omega))).trans (bX2 w.heap.size (by omega))
 exact ask_end (x := (0, [])) rfl (HI.out.below bF) (bin_nil P _) (by decide) bF
set_option maxRecDepth 100000 in
theorem refAsk14_out (P : Nat → Prop) (m : Jm) (wl : List Jb) (w : World) (hv : JIn P w m (m.of wl [])) (hP : ∀ j, P j → j < w.heap.size) (hck : jnChk (m.of wl []) = true) (h1 : m.ph = 1 ∨ m.ph = 3 ∨ m.ph = 5) (ho : 0 < m.out) :
  Calls Tryz.prog 18 #[.agg (jmV m).toArray] w (RetAk P w (m.of wl [], (0, []), false, false)) := by
 obtain ⟨V0, hV0⟩ : ∃ V, V = (w.alloc (.cells (jmV m).toArray 36)).alloc (.cells Tryz.zeroCells36 36) := ⟨_, rfl⟩
 have s0 := js_new hv hV0
 obtain ⟨V, hV⟩ : ∃ V, V = V0.alloc (.cells #[.int .i64 0, .slice none 0 0] 60) := ⟨_, rfl⟩
 have bV0 : Below V0.heap.size V0 V := by rw [hV]; exact (below_self V0).alloc (Nat.le_refl _) _
 have zV0 : V0.heap.size = w.heap.size + 2 := by rw [hV0]; simp
 have S := Lib.hid (s0.up bV0)
 have Z : Hid (JbZ V (w.heap.size + 2)) := Lib.hid (by rw [hV]; exact drw_at _ zV0)
 have zV : V.heap.size = w.heap.size + 3 := by rw [hV]; simp [zV0]
 have ZV := Lib.hid zV
 have HV0 := Lib.hid hV0
 have HV := Lib.hid hV
 have C := Lib.hid (refCheck14_any P m (m.of wl []) V (hv.below S.out.b))
 rw [hck] at C
 have HI := Lib.hid hv
 have HP := Lib.hid hP
 have p0 : (m.ph == 0) = false := beq_eq_false_iff_ne.2 (by omega)
 have AK := Lib.hid (akn h1)
 have d2 : decide ((0 : Int) < m.out) = true := decide_eq_true ho
 clear h1 ho
 clear hV0 hV zV zV0 bV0 s0 hv hP hck
 go_enter Tryz.func18, Tryz.ntmps18
 go_wp2_with (first | (rw [← HV0.out, ← HV.out]) | (refine jm_load S.out.z rfl _ rfl rfl S.out.j ?_))
 refine C.out.mono ?_
 rintro e w1 ⟨rfl, hb1⟩
 have S1 := Lib.hid (S.out.up hb1)
 have Z1 := Lib.hid (Z.out.up hb1)
 obtain ⟨⟨c0, c1, c2, c3, c4⟩, ⟨c37, c38, c39, c40, c41, c76, c77⟩, fz⟩ := S1.out.j.cells S1.out.z
 replace c39 := jn_c39 (HI.out.below (below_then S.out.b hb1)) c39
 have ak := AK.out
 unfold AkN at ak
 rcases ak with n1 | ⟨n1, n3⟩ | ⟨n1, n3, n5⟩
 all_goals
  go_wp2_with (first | (refine jm_load S1.out.z rfl _ rfl rfl S1.out.j ?_) | (refine jm_store S1.out.z jmZ_z rfl _ _ rfl rfl rfl S1.out.o ?_; intro X zX qX bX nX; have z0 : Hid (JbZ X (w.heap.size + 1 + 1)) := Lib.hid ((nX _ (by omega)).trans Z1.out)) | (refine jb_store rfl _ _ rfl rfl 0 none 0 0 rfl z0.out ?_; intro X2 zX2 qZ bX2 nX2))
  try rw [Exit.noGoto_ret]
  have qX2 : JmAt X2 (w.heap.size + 1) m := (nX2 _ (by omega)).trans qX
  refine bodyPost_ret (dresults4 Tryz.results18 _ _ (w.heap.size + 1) (w.heap.size + 2) 36 60 _ _ (0, 0) (0, 0) _ _ rfl qX2 Tryz.underlying36 rfl (jm_info S1.out.z) rfl qZ Tryz.underlying60 rfl (jb_info _ _ _ _)) rfl ?_
  have bF := (S1.out.b.trans (bX w.heap.size (by omega))).trans (bX2 w.heap.size (by omega))
  exact ask_end (x := (0, [])) rfl (HI.out.below bF) (bin_nil P _) (by decide) bF
set_option maxRecDepth 100000 in
theorem refAsk14_fl (P : Nat → Prop) (m : Jm) (wl : List Jb) (w : World) (hv : JIn P w m (m.of wl [])) (hP : ∀ j, P j → j < w.heap.size) (hck : jnChk (m.of wl []) = true) (h1 : m.ph = 1 ∨ m.ph = 3 ∨ m.ph = 5) (ho : m.out = 0) :
  Calls Tryz.prog 18 #[.agg (jmV m).toArray] w (RetAk P w (({ m with ph := m.ph + 1, out := 1 } : Jm).of wl [], (0, []), true, true)) := by
 obtain ⟨V0, hV0⟩ : ∃ V, V = (w.alloc (.cells (jmV m).toArray 36)).alloc (.cells Tryz.zeroCells36 36) := ⟨_, rfl⟩
 have s0 := js_new hv hV0
 obtain ⟨V, hV⟩ : ∃ V, V = V0.alloc (.cells #[.int .i64 0, .slice none 0 0] 60) := ⟨_, rfl⟩
 have bV0 : Below V0.heap.size V0 V := by rw [hV]; exact (below_self V0).alloc (Nat.le_refl _) _
 have zV0 : V0.heap.size = w.heap.size + 2 := by rw [hV0]; simp
 have S := Lib.hid (s0.up bV0)
 have Z : Hid (JbZ V (w.heap.size + 2)) := Lib.hid (by rw [hV]; exact drw_at _ zV0)
 have zV : V.heap.size = w.heap.size + 3 := by rw [hV]; simp [zV0]
 have ZV := Lib.hid zV
 have HV0 := Lib.hid hV0
 have HV := Lib.hid hV
 have C := Lib.hid (refCheck14_any P m (m.of wl []) V (hv.below S.out.b))
 rw [hck] at C
 have HI := Lib.hid hv
 have HP := Lib.hid hP
 have p0 : (m.ph == 0) = false := beq_eq_false_iff_ne.2 (by omega)
 have AK := Lib.hid (akn h1)
 have wk : IntKind.i64.wrap (m.ph + 1) = m.ph + 1 := IntWalk.i64_in _ (by omega)
 have HO := Lib.hid ho
 have HPH := Lib.hid h1
 clear h1 ho
 clear hV0 hV zV zV0 bV0 s0 hv hP hck
 go_enter Tryz.func18, Tryz.ntmps18
 go_wp2_with (first | (rw [← HV0.out, ← HV.out]) | (refine jm_load S.out.z rfl _ rfl rfl S.out.j ?_))
 refine C.out.mono ?_
 rintro e w1 ⟨rfl, hb1⟩
 have S1 := Lib.hid (S.out.up hb1)
 have Z1 := Lib.hid (Z.out.up hb1)
 obtain ⟨⟨c0, c1, c2, c3, c4⟩, ⟨c37, c38, c39, c40, c41, c76, c77⟩, fz⟩ := S1.out.j.cells S1.out.z
 replace c39 := jn_c39 (HI.out.below (below_then S.out.b hb1)) c39
 rw [show m.out = 0 from HO.out] at c40
 obtain ⟨m2, Y2, HM2, HY2, S2⟩ := ((S1.out.s38 (m.ph + 1)).s40 1).named
 have hz2 : JbZ Y2 (w.heap.size + 2) := by rw [HY2.out]; exact (Z1.out.far (by omega)).far (by omega)
 have Z2 := Lib.hid hz2
 clear hz2
 have ak := AK.out
 unfold AkN at ak
 rcases ak with n1 | ⟨n1, n3⟩ | ⟨n1, n3, n5⟩
 all_goals
  go_wp2_with (first | (rw [← HY2.out]; refine jm_load S2.out.z rfl _ rfl rfl S2.out.j ?_) | (refine jm_store S2.out.z jmZ_z rfl _ _ rfl rfl rfl S2.out.o ?_; intro X zX qX bX nX; have z0 : Hid (JbZ X (w.heap.size + 1 + 1)) := Lib.hid ((nX _ (by omega)).trans Z2.out)) | (refine jb_store rfl _ _ rfl rfl 0 none 0 0 rfl z0.out ?_; intro X2 zX2 qZ bX2 nX2))
  try rw [Exit.noGoto_ret]
  have qX2 : JmAt X2 (w.heap.size + 1) m2 := (nX2 _ (by omega)).trans qX
  refine bodyPost_ret (dresults4 Tryz.results18 _ _ (w.heap.size + 1) (w.heap.size + 2) 36 60 _ _ (0, 0) (0, 0) _ _ rfl qX2 Tryz.underlying36 rfl (jm_info S2.out.z) rfl qZ Tryz.underlying60 rfl (jb_info _ _ _ _)) rfl ?_
  have bF := (S2.out.b.trans (bX w.heap.size (by omega))).trans (bX2 w.heap.size (by omega))
  refine ask_end (x := (0, [])) rfl ?_ (bin_nil P _) (by decide) bF
  rw [← HM2.out]
  have hj2 := HI.out.below bF
  have hph := HPH.out
  exact JIn.num hj2 ⟨hj2.1.g, hj2.1.slot, hj2.1.next, hj2.1.done, hj2.1.will, hj2.1.ch, (show -9223372036854775808 ≤ m.ph + 1 ∧ m.ph + 1 ≤ 9223372036854775807 by omega), (show -9223372036854775808 ≤ (1 : Int) ∧ (1 : Int) ≤ 9223372036854775807 by omega), hj2.1.sg, hj2.1.ss, hj2.1.sl, hj2.1.sD, hj2.1.room, hj2.1.err⟩ ⟨rfl, rfl, rfl, rfl, rfl, rfl⟩
set_option maxRecDepth 100000 in
theorem refAsk14_job (P : Nat → Prop) (m : Jm) (wl l : List Jb) (x : Jb) (w : World) (hv : JIn P w m (m.of wl (x :: l))) (hP : ∀ j, P j → j < w.heap.size) (hck : jnChk (m.of wl (x :: l)) = true) (h1 : m.ph = 1 ∨ m.ph = 3 ∨ m.ph = 5) :
  Calls Tryz.prog 18 #[.agg (jmV m).toArray] w (RetAk P w (({ m with out := m.out + 1 } : Jm).of wl l, x, false, true)) := by
 obtain ⟨V0, hV0⟩ : ∃ V, V = (w.alloc (.cells (jmV m).toArray 36)).alloc (.cells Tryz.zeroCells36 36) := ⟨_, rfl⟩
 have s0 := js_new hv hV0
 obtain ⟨V, hV⟩ : ∃ V, V = V0.alloc (.cells #[.int .i64 0, .slice none 0 0] 60) := ⟨_, rfl⟩
 have bV0 : Below V0.heap.size V0 V := by rw [hV]; exact (below_self V0).alloc (Nat.le_refl _) _
 have zV0 : V0.heap.size = w.heap.size + 2 := by rw [hV0]; simp
 have S := Lib.hid (s0.up bV0)
 have Z : Hid (JbZ V (w.heap.size + 2)) := Lib.hid (by rw [hV]; exact drw_at _ zV0)
 have zV : V.heap.size = w.heap.size + 3 := by rw [hV]; simp [zV0]
 have ZV := Lib.hid zV
 have HV0 := Lib.hid hV0
 have HV := Lib.hid hV
 have C := Lib.hid (refCheck14_any P m (m.of wl (x :: l)) V (hv.below S.out.b))
 rw [hck] at C
 have HI := Lib.hid hv
 have HP := Lib.hid hP
 have p0 : (m.ph == 0) = false := beq_eq_false_iff_ne.2 (by omega)
 have AK := Lib.hid (akn h1)
 obtain ⟨us, hus⟩ := hv.2.2.2
 obtain ⟨b, o, B, kk, d, hA, k0, k1, hx, hbin, hn, hul, hnc, hcm, hbl, hrest⟩ := ws_first hus
 rw [hA] at hus
 have hws : WsIn P w (some ⟨b, o + 2, none⟩) l.length (m.jc - 1) l := ⟨us.drop 2, ws_tail hus⟩
 obtain ⟨q, hq⟩ : ∃ q, l.length = q := ⟨_, rfl⟩
 have hws0 : q = 0 → WsIn P w (some ⟨b, o, none⟩) q 0 l := fun h => by
  subst h
  obtain rfl : l = [] := List.eq_nil_of_length_eq_zero hq
  exact ws_nilA _ _ _
 rw [hq] at hn hws
 have hjc : q + 1 ≤ m.jc := by have : m.jn ≤ m.jc := hnc; omega
 have hjm : m.jc ≤ 9223372036854775807 := by have : m.jc ≤ maxLen := hcm; unfold maxLen at this; omega
 have wo : IntKind.i64.wrap (m.out + 1) = m.out + 1 := IntWalk.i64_in _ (by have := jn_bnd hck; have : 0 ≤ m.out ∧ m.out ≤ 200 := this.2.1; omega)
 have HOU := Lib.hid (show -9223372036854775808 ≤ m.out + 1 ∧ m.out + 1 ≤ 9223372036854775807 by have := jn_bnd hck; have : 0 ≤ m.out ∧ m.out ≤ 200 := this.2.1; omega)
 have HA := Lib.hid hA
 have HN := Lib.hid hn
 have HX := Lib.hid hx
 have HBIN := Lib.hid hbin
 have HWS := Lib.hid hws
 have HWS0 := Lib.hid hws0
 clear hA hn hx hbin hul hnc hcm hrest hus hws hws0 hq
 clear h1
 clear hV0 hV zV zV0 bV0 s0 hv hP hck
 go_enter Tryz.func18, Tryz.ntmps18
 go_wp2_with (first | (rw [← HV0.out, ← HV.out]) | (refine jm_load S.out.z rfl _ rfl rfl S.out.j ?_))
 refine C.out.mono ?_
 rintro e w1 ⟨rfl, hb1⟩
 have S1 := Lib.hid (S.out.up hb1)
 have Z1 := Lib.hid (Z.out.up hb1)
 obtain ⟨⟨c0, c1, c2, c3, c4⟩, ⟨c37, c38, c39, c40, c41, c76, c77⟩, fz⟩ := S1.out.j.cells S1.out.z
 have hbl1 : b < w1.heap.size := by have := S1.out.b.size; omega
 replace k0 := (World.cell?_of_block (S1.out.b.block _ hbl)).trans k0
 replace k1 := (World.cell?_of_block (S1.out.b.block _ hbl)).trans k1
 obtain ⟨W5, hW5⟩ : ∃ W, W = w1.alloc (.cells #[.int .i64 x.1, .slice B kk d] 60) := ⟨_, rfl⟩
 have b5 : Below w1.heap.size w1 W5 := by rw [hW5]; exact (below_self w1).alloc (Nat.le_refl _) _
 have q5 : Hid (W5.heap[w1.heap.size]? = some (.cells #[.int .i64 x.1, .slice B kk d] 60 (0, 0))) := by rw [hW5]; exact Lib.hid (drw_at _ rfl)
 have S5 := Lib.hid (S1.out.up b5)
 have Z5 := Lib.hid (Z1.out.up b5)
 obtain ⟨⟨d0, d1, d2, d3, d4⟩, ⟨d37, d38, d39, d40, d41, d76, d77⟩, gz⟩ := S5.out.j.cells S5.out.z
 have HW5 := Lib.hid hW5
 have HNE := Lib.hid (show w.heap.size + 3 ≤ w1.heap.size by have := ZV.out; have := hb1.size; omega)
 clear hW5 b5
 rw [show m.ja = some ⟨b, o, none⟩ from HA.out, show m.jn = q + 1 from HN.out] at c39 d39
 clear c0 c1 c2 c3 c4 c37 c41 c76 c77
 have ak := AK.out
 unfold AkN at ak
 rcases ak with n1 | ⟨n1, n3⟩ | ⟨n1, n3, n5⟩
 all_goals
  go_wp2_with (rw [← HW5.out])
  ·obtain ⟨m2, Y2, HM2, HY2, S2⟩ := ((S5.out.s39 (some ⟨b, o, none⟩) q 0).s40 (m.out + 1)).named
   have hne : w.heap.size ≠ w1.heap.size := by have := HNE.out; omega
   have hqY : Y2.heap[w1.heap.size]? = some (.cells #[.int .i64 x.1, .slice B kk d] 60 (0, 0)) := by rw [HY2.out]; exact (setc_rowO hne).trans ((setc_rowO hne).trans q5.out)
   have hz2 : JbZ Y2 (w.heap.size + 2) := by rw [HY2.out]; exact (Z5.out.far (by omega)).far (by omega)
   have HQY := Lib.hid hqY
   have Z2 := Lib.hid hz2
   have hwx := Lib.hid (HWS0.out (by omega))
   clear hqY hz2 hne d0 d1 d2 d3 d4 d37 d38 d39 d40 d41 d76 d77 gz
   rw [← HY2.out]
   refine wp_region_seg (S := fun w' => JmAt w' w.heap.size m2 ∧ w'.heap[w1.heap.size]? = some (.cells #[.int .i64 x.1, .slice B kk d] 60 (0, 0))) 0 (brw9 6 63) [(0, true), (1, true), (2, false), (3, false), (4, true), (5, true)] (by kernel_rfl) (by kernel_rfl) (fun _ _ d _ _ h => by first | (cases d <;> exact h) | cases h.1) (And.intro S2.out.j HQY.out) ?_
   have HB := And.intro S2.out.j HQY.out
   refine seg_take (v := .agg (jmV m2).toArray) rfl (Or.inl ⟨by rfl, fun w' hw' => ?_⟩) ?_
   focus (exact rex_load rfl rfl (jm_run hw'.1 S2.out.z))
   try simp only [Act.put, pst3]
   refine seg_take (v := .agg #[.int .i64 x.1, .slice B kk d]) rfl (Or.inl ⟨by rfl, fun w' hw' => ?_⟩) ?_
   focus (exact rex_load rfl rfl (jb_run hw'.2))
   try simp only [Act.put, pst3]
   refine seg_run rfl (fun K hK => ?_)
   rw [if_pos (by rfl)]
   refine op_jmst (h := w.heap.size + 1) S2.out.z jmZ_z _ _ rfl rfl rfl S2.out.o ?_
   intro X zX qX bX nX
   have HB := And.intro ((nX _ (by omega)).trans HB.1) ((nX _ (by have := HNE.out; omega)).trans HB.2)
   refine hK.out _ _ (HB) ?_
   clear hK
   try simp only [Act.put, pst3]
   refine seg_run rfl (fun K hK => ?_)
   rw [if_pos (by rfl)]
   have z0 : JbZ X (w.heap.size + 2) := (nX _ (by omega)).trans Z2.out
   refine op_jbst (g := w.heap.size + 2) _ _ rfl rfl x.1 B kk d rfl z0 ?_
   intro X2 zX2 qZ bX2 nX2
   have HB := And.intro ((nX2 _ (by omega)).trans HB.1) ((nX2 _ (by have := HNE.out; omega)).trans HB.2)
   refine hK.out _ _ (HB) ?_
   clear hK
   try simp only [Act.put, pst3]
   iterate 2 (refine seg_take (v := ?_) rfl (Or.inl ⟨by rfl, ?_⟩) ?_; rotate_left; (focus (intro w' hw'; go_simp <;> with_reducible rfl)); try simp only [Act.put, pst3])
   refine seg_done (fun _ => ?_)
   refine wpAnyH_done (by kernel_rfl) ?_ _
   skip
   go_wp2_with fail
   try rw [Exit.noGoto_ret]
   have qX2 : JmAt X2 (w.heap.size + 1) m2 := (nX2 _ (by omega)).trans qX
   refine bodyPost_ret (dresults4 Tryz.results18 _ _ (w.heap.size + 1) (w.heap.size + 2) 36 60 _ _ (0, 0) (0, 0) _ _ rfl qX2 Tryz.underlying36 rfl (jm_info S2.out.z) rfl qZ Tryz.underlying60 rfl (jb_info _ _ _ _)) rfl ?_
   have bF := (S2.out.b.drew.trans (bX w.heap.size (by omega))).trans (bX2 w.heap.size (by omega))
   refine ask_end (x := x) rfl ?_ (HBIN.out.below bF) HX.out bF
   rw [← HM2.out]
   have hj2 := HI.out.below bF
   exact JIn.jb hj2 ⟨hj2.1.g, hj2.1.slot, hj2.1.next, hj2.1.done, hj2.1.will, hj2.1.ch, hj2.1.ph, HOU.out, hj2.1.sg, hj2.1.ss, hj2.1.sl, hj2.1.sD, hj2.1.room, hj2.1.err⟩ ⟨rfl, rfl, rfl⟩ (hwx.out.below bF)
  ·obtain ⟨m2, Y2, HM2, HY2, S2⟩ := ((S5.out.s39 (some ⟨b, o + 2, none⟩) q (m.jc - 1)).s40 (m.out + 1)).named
   have hne : w.heap.size ≠ w1.heap.size := by have := HNE.out; omega
   have hqY : Y2.heap[w1.heap.size]? = some (.cells #[.int .i64 x.1, .slice B kk d] 60 (0, 0)) := by rw [HY2.out]; exact (setc_rowO hne).trans ((setc_rowO hne).trans q5.out)
   have hz2 : JbZ Y2 (w.heap.size + 2) := by rw [HY2.out]; exact (Z5.out.far (by omega)).far (by omega)
   have HQY := Lib.hid hqY
   have Z2 := Lib.hid hz2
   have hwx := Lib.hid HWS.out
   clear hqY hz2 hne d0 d1 d2 d3 d4 d37 d38 d39 d40 d41 d76 d77 gz
   rw [← HY2.out]
   refine wp_region_seg (S := fun w' => JmAt w' w.heap.size m2 ∧ w'.heap[w1.heap.size]? = some (.cells #[.int .i64 x.1, .slice B kk d] 60 (0, 0))) 0 (brw9 6 63) [(0, true), (1, true), (2, false), (3, false), (4, true), (5, true)] (by kernel_rfl) (by kernel_rfl) (fun _ _ d _ _ h => by first | (cases d <;> exact h) | cases h.1) (And.intro S2.out.j HQY.out) ?_
   have HB := And.intro S2.out.j HQY.out
   refine seg_take (v := .agg (jmV m2).toArray) rfl (Or.inl ⟨by rfl, fun w' hw' => ?_⟩) ?_
   focus (exact rex_load rfl rfl (jm_run hw'.1 S2.out.z))
   try simp only [Act.put, pst3]
   refine seg_take (v := .agg #[.int .i64 x.1, .slice B kk d]) rfl (Or.inl ⟨by rfl, fun w' hw' => ?_⟩) ?_
   focus (exact rex_load rfl rfl (jb_run hw'.2))
   try simp only [Act.put, pst3]
   refine seg_run rfl (fun K hK => ?_)
   rw [if_pos (by rfl)]
   refine op_jmst (h := w.heap.size + 1) S2.out.z jmZ_z _ _ rfl rfl rfl S2.out.o ?_
   intro X zX qX bX nX
   have HB := And.intro ((nX _ (by omega)).trans HB.1) ((nX _ (by have := HNE.out; omega)).trans HB.2)
   refine hK.out _ _ (HB) ?_
   clear hK
   try simp only [Act.put, pst3]
   refine seg_run rfl (fun K hK => ?_)
   rw [if_pos (by rfl)]
   have z0 : JbZ X (w.heap.size + 2) := (nX _ (by omega)).trans Z2.out
   refine op_jbst (g := w.heap.size + 2) _ _ rfl rfl x.1 B kk d rfl z0 ?_
   intro X2 zX2 qZ bX2 nX2
   have HB := And.intro ((nX2 _ (by omega)).trans HB.1) ((nX2 _ (by have := HNE.out; omega)).trans HB.2)
   refine hK.out _ _ (HB) ?_
   clear hK
   try simp only [Act.put, pst3]
   iterate 2 (refine seg_take (v := ?_) rfl (Or.inl ⟨by rfl, ?_⟩) ?_; rotate_left; (focus (intro w' hw'; go_simp <;> with_reducible rfl)); try simp only [Act.put, pst3])
   refine seg_done (fun _ => ?_)
   refine wpAnyH_done (by kernel_rfl) ?_ _
   skip
   go_wp2_with fail
   try rw [Exit.noGoto_ret]
   have qX2 : JmAt X2 (w.heap.size + 1) m2 := (nX2 _ (by omega)).trans qX
   refine bodyPost_ret (dresults4 Tryz.results18 _ _ (w.heap.size + 1) (w.heap.size + 2) 36 60 _ _ (0, 0) (0, 0) _ _ rfl qX2 Tryz.underlying36 rfl (jm_info S2.out.z) rfl qZ Tryz.underlying60 rfl (jb_info _ _ _ _)) rfl ?_
   have bF := (S2.out.b.drew.trans (bX w.heap.size (by omega))).trans (bX2 w.heap.size (by omega))
   refine ask_end (x := x) rfl ?_ (HBIN.out.below bF) HX.out bF
   rw [← HM2.out]
   have hj2 := HI.out.below bF
   exact JIn.jb hj2 ⟨hj2.1.g, hj2.1.slot, hj2.1.next, hj2.1.done, hj2.1.will, hj2.1.ch, hj2.1.ph, HOU.out, hj2.1.sg, hj2.1.ss, hj2.1.sl, hj2.1.sD, hj2.1.room, hj2.1.err⟩ ⟨rfl, rfl, rfl⟩ (hwx.out.below bF)
set_option maxRecDepth 100000 in
theorem refAsk14_wake (P : Nat → Prop) (m : Jm) (l jl : List Jb) (x : Jb) (w : World) (hv : JIn P w m (m.of (x :: l) jl)) (hP : ∀ j, P j → j < w.heap.size) (hck : jnChk (m.of (x :: l) jl) = true) (h0 : m.ph = 0) :
  Calls Tryz.prog 18 #[.agg (jmV m).toArray] w (RetAk P w (({ m with ph := 1, will := m.next, out := m.out + 1 } : Jm).of [] l, x, false, true)) := by
 obtain ⟨V0, hV0⟩ : ∃ V, V = (w.alloc (.cells (jmV m).toArray 36)).alloc (.cells Tryz.zeroCells36 36) := ⟨_, rfl⟩
 have s0 := js_new hv hV0
 obtain ⟨V, hV⟩ : ∃ V, V = V0.alloc (.cells #[.int .i64 0, .slice none 0 0] 60) := ⟨_, rfl⟩
 have bV0 : Below V0.heap.size V0 V := by rw [hV]; exact (below_self V0).alloc (Nat.le_refl _) _
 have zV0 : V0.heap.size = w.heap.size + 2 := by rw [hV0]; simp
 have S := Lib.hid (s0.up bV0)
 have Z : Hid (JbZ V (w.heap.size + 2)) := Lib.hid (by rw [hV]; exact drw_at _ zV0)
 have zV : V.heap.size = w.heap.size + 3 := by rw [hV]; simp [zV0]
 have ZV := Lib.hid zV
 have HV0 := Lib.hid hV0
 have HV := Lib.hid hV
 have C := Lib.hid (refCheck14_any P m (m.of (x :: l) jl) V (hv.below S.out.b))
 rw [hck] at C
 have HI := Lib.hid hv
 have HP := Lib.hid hP
 have H0 := Lib.hid h0
 obtain ⟨us, hus⟩ := hv.2.2.1
 obtain ⟨b, o, B, kk, d, hA, k0, k1, hx, hbin, hn, hul, hnc, hcm, hbl, hrest⟩ := ws_first hus
 rw [hA] at hus
 have hws : WsIn P w (some ⟨b, o + 2, none⟩) l.length (m.wc - 1) l := ⟨us.drop 2, ws_tail hus⟩
 obtain ⟨q, hq⟩ : ∃ q, l.length = q := ⟨_, rfl⟩
 have hws0 : q = 0 → WsIn P w (some ⟨b, o, none⟩) q 0 l := fun h => by
  subst h
  obtain rfl : l = [] := List.eq_nil_of_length_eq_zero hq
  exact ws_nilA _ _ _
 rw [hq] at hn hws
 have hjc : q + 1 ≤ m.wc := by have : m.wn ≤ m.wc := hnc; omega
 have hjm : m.wc ≤ 9223372036854775807 := by have : m.wc ≤ maxLen := hcm; unfold maxLen at this; omega
 have wo : IntKind.i64.wrap (m.out + 1) = m.out + 1 := IntWalk.i64_in _ (by have := jn_bnd hck; have : 0 ≤ m.out ∧ m.out ≤ 200 := this.2.1; omega)
 have HOU := Lib.hid (show -9223372036854775808 ≤ m.out + 1 ∧ m.out + 1 ≤ 9223372036854775807 by have := jn_bnd hck; have : 0 ≤ m.out ∧ m.out ≤ 200 := this.2.1; omega)
 have HA := Lib.hid hA
 have HN := Lib.hid hn
 have HX := Lib.hid hx
 have HBIN := Lib.hid hbin
 have HWS := Lib.hid hws
 have HWS0 := Lib.hid hws0
 clear hA hn hx hbin hul hnc hcm hrest hus hws hws0 hq
 clear h0
 clear hV0 hV zV zV0 bV0 s0 hv hP hck
 go_enter Tryz.func18, Tryz.ntmps18
 go_wp2_with (first | (rw [← HV0.out, ← HV.out]) | (refine jm_load S.out.z rfl _ rfl rfl S.out.j ?_))
 refine C.out.mono ?_
 rintro e w1 ⟨rfl, hb1⟩
 have S1 := Lib.hid (S.out.up hb1)
 have Z1 := Lib.hid (Z.out.up hb1)
 obtain ⟨⟨c0, c1, c2, c3, c4⟩, ⟨c37, c38, c39, c40, c41, c76, c77⟩, fz⟩ := S1.out.j.cells S1.out.z
 have hbl1 : b < w1.heap.size := by have := S1.out.b.size; omega
 replace k0 := (World.cell?_of_block (S1.out.b.block _ hbl)).trans k0
 replace k1 := (World.cell?_of_block (S1.out.b.block _ hbl)).trans k1
 rw [show m.wa = some ⟨b, o, none⟩ from HA.out, show m.wn = q + 1 from HN.out] at c37
 rw [show m.ph = 0 from H0.out] at c38
 have q1 : decide ((0 : Int) < (q : Int) + 1) = true := decide_eq_true (by omega)
 obtain ⟨mY, YY, HMY, HYY, SS⟩ := ((((S1.out.s39 (some ⟨b, o, none⟩) (q + 1) m.wc).s37 none 0 0).s4 m.next).s38 1).named
 have hsY : YY.heap.size = w1.heap.size := by rw [HYY.out]; simp
 have ZZ : Hid (JbZ YY (w.heap.size + 2)) := Lib.hid (by rw [HYY.out]; exact (((Z1.out.far (by omega)).far (by omega)).far (by omega)).far (by omega))
 obtain ⟨W5, hW5⟩ : ∃ W, W = YY.alloc (.cells #[.int .i64 x.1, .slice B kk d] 60) := ⟨_, rfl⟩
 have b5 : Below YY.heap.size YY W5 := by rw [hW5]; exact (below_self YY).alloc (Nat.le_refl _) _
 have q5 : Hid (W5.heap[w1.heap.size]? = some (.cells #[.int .i64 x.1, .slice B kk d] 60 (0, 0))) := by rw [hW5]; exact Lib.hid (drw_at _ hsY)
 have S5 := Lib.hid (SS.out.up b5)
 have Z5 := Lib.hid (ZZ.out.up b5)
 obtain ⟨⟨d0, d1, d2, d3, d4⟩, ⟨d37, d38, d39, d40, d41, d76, d77⟩, gz⟩ := S5.out.j.cells S5.out.z
 have HW5 := Lib.hid hW5
 have HNE := Lib.hid (show w.heap.size + 3 ≤ w1.heap.size by have := ZV.out; have := hb1.size; omega)
 clear hW5 b5
 have E39 : Hid (mY.ja = some ⟨b, o, none⟩ ∧ mY.jn = q + 1 ∧ mY.jc = m.wc ∧ mY.out = m.out) := Lib.hid (by rw [← HMY.out]; exact ⟨rfl, rfl, rfl, rfl⟩)
 obtain ⟨g39a, g39b, g39c, g39d⟩ := E39.out
 rw [g39a, g39b, g39c] at d39
 rw [g39d] at d40
 clear g39a g39b g39c g39d hsY
 clear c0 c1 c3 c41 c76 c77
 go_wp2_with (first | (rw [← HW5.out]) | (rw [← HYY.out, ← HW5.out]))
 ·obtain ⟨m2, Y2, HM2, HY2, S2⟩ := ((S5.out.s39 (some ⟨b, o, none⟩) q 0).s40 (m.out + 1)).named
  have hne : w.heap.size ≠ w1.heap.size := by have := HNE.out; omega
  have hqY : Y2.heap[w1.heap.size]? = some (.cells #[.int .i64 x.1, .slice B kk d] 60 (0, 0)) := by rw [HY2.out]; exact (setc_rowO hne).trans ((setc_rowO hne).trans q5.out)
  have hz2 : JbZ Y2 (w.heap.size + 2) := by rw [HY2.out]; exact (Z5.out.far (by omega)).far (by omega)
  have HQY := Lib.hid hqY
  have Z2 := Lib.hid hz2
  have hwx := Lib.hid (HWS0.out (by omega))
  clear hqY hz2 hne d0 d1 d2 d3 d4 d37 d38 d39 d40 d41 d76 d77 gz
  rw [← HY2.out]
  refine wp_region_seg (S := fun w' => JmAt w' w.heap.size m2 ∧ w'.heap[w1.heap.size]? = some (.cells #[.int .i64 x.1, .slice B kk d] 60 (0, 0))) 0 (brw9 6 63) [(0, true), (1, true), (2, false), (3, false), (4, true), (5, true)] (by kernel_rfl) (by kernel_rfl) (fun _ _ d _ _ h => by first | (cases d <;> exact h) | cases h.1) (And.intro S2.out.j HQY.out) ?_
  have HB := And.intro S2.out.j HQY.out
  refine seg_take (v := .agg (jmV m2).toArray) rfl (Or.inl ⟨by rfl, fun w' hw' => ?_⟩) ?_
  focus (exact rex_load rfl rfl (jm_run hw'.1 S2.out.z))
  try simp only [Act.put, pst3]
  refine seg_take (v := .agg #[.int .i64 x.1, .slice B kk d]) rfl (Or.inl ⟨by rfl, fun w' hw' => ?_⟩) ?_
  focus (exact rex_load rfl rfl (jb_run hw'.2))
  try simp only [Act.put, pst3]
  refine seg_run rfl (fun K hK => ?_)
  rw [if_pos (by rfl)]
  refine op_jmst (h := w.heap.size + 1) S2.out.z jmZ_z _ _ rfl rfl rfl S2.out.o ?_
  intro X zX qX bX nX
  have HB := And.intro ((nX _ (by omega)).trans HB.1) ((nX _ (by have := HNE.out; omega)).trans HB.2)
  refine hK.out _ _ (HB) ?_
  clear hK
  try simp only [Act.put, pst3]
  refine seg_run rfl (fun K hK => ?_)
  rw [if_pos (by rfl)]
  have z0 : JbZ X (w.heap.size + 2) := (nX _ (by omega)).trans Z2.out
  refine op_jbst (g := w.heap.size + 2) _ _ rfl rfl x.1 B kk d rfl z0 ?_
  intro X2 zX2 qZ bX2 nX2
  have HB := And.intro ((nX2 _ (by omega)).trans HB.1) ((nX2 _ (by have := HNE.out; omega)).trans HB.2)
  refine hK.out _ _ (HB) ?_
  clear hK
  try simp only [Act.put, pst3]
  iterate 2 (refine seg_take (v := ?_) rfl (Or.inl ⟨by rfl, ?_⟩) ?_; rotate_left; (focus (intro w' hw'; go_simp <;> with_reducible rfl)); try simp only [Act.put, pst3])
  refine seg_done (fun _ => ?_)
  refine wpAnyH_done (by kernel_rfl) ?_ _
  skip
  go_wp2_with fail
  try rw [Exit.noGoto_ret]
  have qX2 : JmAt X2 (w.heap.size + 1) m2 := (nX2 _ (by omega)).trans qX
  refine bodyPost_ret (dresults4 Tryz.results18 _ _ (w.heap.size + 1) (w.heap.size + 2) 36 60 _ _ (0, 0) (0, 0) _ _ rfl qX2 Tryz.underlying36 rfl (jm_info S2.out.z) rfl qZ Tryz.underlying60 rfl (jb_info _ _ _ _)) rfl ?_
  have bF := (S2.out.b.drew.trans (bX w.heap.size (by omega))).trans (bX2 w.heap.size (by omega))
  refine ask_end (x := x) rfl ?_ (HBIN.out.below bF) HX.out bF
  rw [← HM2.out, ← HMY.out]
  have hj2 := HI.out.below bF
  exact ⟨⟨hj2.1.g, hj2.1.slot, hj2.1.next, hj2.1.done, hj2.1.next, hj2.1.ch, (show -9223372036854775808 ≤ (1 : Int) ∧ (1 : Int) ≤ 9223372036854775807 by omega), HOU.out, hj2.1.sg, hj2.1.ss, hj2.1.sl, hj2.1.sD, hj2.1.room, hj2.1.err⟩, rfl, ws_nil _ _, hwx.out.below bF⟩
 ·obtain ⟨m2, Y2, HM2, HY2, S2⟩ := ((S5.out.s39 (some ⟨b, o + 2, none⟩) q (m.wc - 1)).s40 (m.out + 1)).named
  have hne : w.heap.size ≠ w1.heap.size := by have := HNE.out; omega
  have hqY : Y2.heap[w1.heap.size]? = some (.cells #[.int .i64 x.1, .slice B kk d] 60 (0, 0)) := by rw [HY2.out]; exact (setc_rowO hne).trans ((setc_rowO hne).trans q5.out)
  have hz2 : JbZ Y2 (w.heap.size + 2) := by rw [HY2.out]; exact (Z5.out.far (by omega)).far (by omega)
  have HQY := Lib.hid hqY
  have Z2 := Lib.hid hz2
  have hwx := Lib.hid HWS.out
  clear hqY hz2 hne d0 d1 d2 d3 d4 d37 d38 d39 d40 d41 d76 d77 gz
  rw [← HY2.out]
  refine wp_region_seg (S := fun w' => JmAt w' w.heap.size m2 ∧ w'.heap[w1.heap.size]? = some (.cells #[.int .i64 x.1, .slice B kk d] 60 (0, 0))) 0 (brw9 6 63) [(0, true), (1, true), (2, false), (3, false), (4, true), (5, true)] (by kernel_rfl) (by kernel_rfl) (fun _ _ d _ _ h => by first | (cases d <;> exact h) | cases h.1) (And.intro S2.out.j HQY.out) ?_
  have HB := And.intro S2.out.j HQY.out
  refine seg_take (v := .agg (jmV m2).toArray) rfl (Or.inl ⟨by rfl, fun w' hw' => ?_⟩) ?_
  focus (exact rex_load rfl rfl (jm_run hw'.1 S2.out.z))
  try simp only [Act.put, pst3]
  refine seg_take (v := .agg #[.int .i64 x.1, .slice B kk d]) rfl (Or.inl ⟨by rfl, fun w' hw' => ?_⟩) ?_
  focus (exact rex_load rfl rfl (jb_run hw'.2))
  try simp only [Act.put, pst3]
  refine seg_run rfl (fun K hK => ?_)
  rw [if_pos (by rfl)]
  refine op_jmst (h := w.heap.size + 1) S2.out.z jmZ_z _ _ rfl rfl rfl S2.out.o ?_
  intro X zX qX bX nX
  have HB := And.intro ((nX _ (by omega)).trans HB.1) ((nX _ (by have := HNE.out; omega)).trans HB.2)
  refine hK.out _ _ (HB) ?_
  clear hK
  try simp only [Act.put, pst3]
  refine seg_run rfl (fun K hK => ?_)
  rw [if_pos (by rfl)]
  have z0 : JbZ X (w.heap.size + 2) := (nX _ (by omega)).trans Z2.out
  refine op_jbst (g := w.heap.size + 2) _ _ rfl rfl x.1 B kk d rfl z0 ?_
  intro X2 zX2 qZ bX2 nX2
  have HB := And.intro ((nX2 _ (by omega)).trans HB.1) ((nX2 _ (by have := HNE.out; omega)).trans HB.2)
  refine hK.out _ _ (HB) ?_
  clear hK
  try simp only [Act.put, pst3]
  iterate 2 (refine seg_take (v := ?_) rfl (Or.inl ⟨by rfl, ?_⟩) ?_; rotate_left; (focus (intro w' hw'; go_simp <;> with_reducible rfl)); try simp only [Act.put, pst3])
  refine seg_done (fun _ => ?_)
  refine wpAnyH_done (by kernel_rfl) ?_ _
  skip
  go_wp2_with fail
  try rw [Exit.noGoto_ret]
  have qX2 : JmAt X2 (w.heap.size + 1) m2 := (nX2 _ (by omega)).trans qX
  refine bodyPost_ret (dresults4 Tryz.results18 _ _ (w.heap.size + 1) (w.heap.size + 2) 36 60 _ _ (0, 0) (0, 0) _ _ rfl qX2 Tryz.underlying36 rfl (jm_info S2.out.z) rfl qZ Tryz.underlying60 rfl (jb_info _ _ _ _)) rfl ?_
  have bF := (S2.out.b.drew.trans (bX w.heap.size (by omega))).trans (bX2 w.heap.size (by omega))
  refine ask_end (x := x) rfl ?_ (HBIN.out.below bF) HX.out bF
  rw [← HM2.out, ← HMY.out]
  have hj2 := HI.out.below bF
  exact ⟨⟨hj2.1.g, hj2.1.slot, hj2.1.next, hj2.1.done, hj2.1.next, hj2.1.ch, (show -9223372036854775808 ≤ (1 : Int) ∧ (1 : Int) ≤ 9223372036854775807 by omega), HOU.out, hj2.1.sg, hj2.1.ss, hj2.1.sl, hj2.1.sD, hj2.1.room, hj2.1.err⟩, rfl, ws_nil _ _, hwx.out.below bF⟩
theorem refAsk14_any (P : Nat → Prop) (m : Jm) (J : Jn) (w : World) (hv : JIn P w m J) (hP : ∀ j, P j → j < w.heap.size) :
  Calls Tryz.prog 18 #[.agg (jmV m).toArray] w (RetAk P w (jnAsk J)) := by
 obtain ⟨wl, jl, rfl⟩ : ∃ wl jl, J = m.of wl jl := ⟨_, _, jof hv⟩
 cases hck : jnChk (m.of wl jl) with
 | false =>
  have e : jnAsk (m.of wl jl) = (m.of wl jl, (0, []), false, false) := by unfold jnAsk; rw [if_pos hck]
  rw [e]; exact refAsk14_bad P m wl jl w hv hP hck
 | true =>
  have e : jnAsk (m.of wl jl) = jnAskK (jnWoke (m.of wl jl)) := by unfold jnAsk; rw [if_neg (by simp [hck])]
  rw [e]
  clear e
  obtain ⟨hph, hout, _, _⟩ := jn_bnd hck
  replace hout : 0 ≤ m.out ∧ m.out ≤ 200 := hout
  by_cases h0 : m.ph = 0
  ·cases wl with
   | nil => rw [ask_idle h0]; exact refAsk14_idle P m jl w hv hP hck h0
   | cons y l =>
    have e2 : jnAskK (jnWoke (m.of (y :: l) jl)) = (({ m with ph := 1, will := m.next, out := m.out + 1 } : Jm).of [] l, y, false, true) := by
     rw [← ask_wake (m := m) (l := l) (jl := jl) (y := y) h0 none 0 0, ask_job (.inl rfl)]; rfl
    rw [e2]; exact refAsk14_wake P m l jl y w hv hP hck h0
  ·by_cases h1 : m.ph = 1 ∨ m.ph = 3 ∨ m.ph = 5
   ·cases jl with
    | nil =>
     by_cases ho : 0 < m.out
     ·rw [ask_out h1 ho]; exact refAsk14_out P m wl w hv hP hck h1 ho
     ·rw [ask_fl h1 ho]; exact refAsk14_fl P m wl w hv hP hck h1 (by omega)
    | cons x l => rw [ask_job h1]; exact refAsk14_job P m wl l x w hv hP hck h1
   ·rw [ask_rest h0 h1]; exact refAsk14_rest P m wl jl w hv hP hck h0 h1
set_option maxHeartbeats 8000000
def RetSomeB (w : World) (e : Ending) (w' : World) : Prop := ∃ B : Bool, e = .returned (.bool B) ∧ Below w.heap.size w w'
def FwI (V : World) (n : Nat) (i : Value) (wr : World) : Prop := ∃ k : Nat, k ≤ n ∧ i = .int .i64 (k : Int) ∧ Below V.heap.size V wr
theorem refFew14_any (P : Nat → Prop) (m : Jm) (J : Jn) (w : World) (hv : JIn P w m J) :
  Calls Tryz.prog 13 #[.agg (jmV m).toArray] w (RetSomeB w) := by
 obtain ⟨V, hV⟩ : ∃ V, V = w.alloc (.cells (jmV m).toArray 36) := ⟨_, rfl⟩
 have bV : Below w.heap.size w V := by rw [hV]; exact (below_self w).alloc (Nat.le_refl _) _
 have q : JmAt V w.heap.size m := by rw [hV]; exact drw_at _ rfl
 have hz := hv.z
 obtain ⟨hok, hm, hws, hjs⟩ := hv
 obtain ⟨us, hw⟩ := hws.now
 obtain ⟨ts, hj⟩ := hjs.now
 have hwn : m.wn ≤ 9223372036854775807 := by have := hw.2.2; unfold maxLen at this; omega
 have hjn : m.jn ≤ 9223372036854775807 := by have := hj.2.2; unfold maxLen at this; omega
 obtain ⟨-, ⟨c37, c38, c39, c40, -, -, -⟩, -⟩ := q.cells hz
 have lq := q.lt
 have HV := Lib.hid hV
 have BV := Lib.hid bV
 have HW := Lib.hid (hw.below bV)
 have HJ := Lib.hid (hj.below bV)
 have C37 := Lib.hid c37
 have C39 := Lib.hid c39
 have LQ := Lib.hid lq
 clear hV bV q hz hok hm hws hjs hw hj c38 c40 lq
 by_cases h1 : 250 < m.wn
 ·have d1 : decide ((250 : Int) < (m.wn : Int)) = true := decide_eq_true (by omega)
  go_enter Tryz.func13, Tryz.ntmps13
  go_wp2_with (rw [← HV.out])
  go_ret
  exact ⟨false, rfl, BV.out⟩
 have d1 : decide ((250 : Int) < (m.wn : Int)) = false := decide_eq_false (by omega)
 by_cases h2 : 250 < m.jn
 ·have d2 : decide ((250 : Int) < (m.jn : Int)) = true := decide_eq_true (by omega)
  go_enter Tryz.func13, Tryz.ntmps13
  go_wp2_with (rw [← HV.out])
  go_ret
  exact ⟨false, rfl, BV.out⟩
 have d2 : decide ((250 : Int) < (m.jn : Int)) = false := decide_eq_false (by omega)
 go_enter Tryz.func13, Tryz.ntmps13
 go_wp2_with (rw [← HV.out])
 try rw [← HV.out]
 clear c37 c39 d1 d2
 go_loopw [3] (FwI V m.wn) (fun i _ => m.wn - (intOf i).toNat)
 case atStart => exact ⟨0, by omega, rfl, Below.refl _ _⟩
 case round =>
 obtain ⟨k, hk, rfl, hB⟩ := hrel
 have c37 := (hB.cell (p := ⟨w.heap.size, 37, none⟩) LQ.out).trans C37.out
 have HBo := Lib.hid hB
 by_cases hlt : k < m.wn
 ·have i1 : (k : Int) < (m.wn : Int) := by omega
  have i2 : decide ((k : Int) < (m.wn : Int)) = true := decide_eq_true i1
  have wk2 : IntKind.i64.wrap ((k : Int) + 1) = (k : Int) + 1 := IntWalk.i64_in _ (by omega)
  obtain ⟨b, o, B, mm, d, hA, hb, k0, k1, r1, -⟩ := ws_at (HW.out.below hB) k hlt
  have hm63 := r1.n63
  rw [hA] at c37
  clear hA r1 hB
  by_cases h6 : 600 < mm
  ·have d6 : decide ((600 : Int) < (mm : Int)) = true := decide_eq_true (by omega)
   go_wp2_with fail
   go_ret
   exact ⟨false, rfl, below_then BV.out HBo.out⟩
  ·have d6 : decide ((600 : Int) < (mm : Int)) = false := decide_eq_false (by omega)
   go_wp2_with fail
   go_roundw
   case rel => exact ⟨k + 1, by omega, by rw [Int.natCast_add]; rfl, HBo.out⟩
   case measure => simp [intOf]; omega
 ·obtain rfl : k = m.wn := by omega
  have i1 : decide ((m.wn : Int) < (m.wn : Int)) = false := decide_eq_false (by omega)
  have i1' : decide (m.wn < m.wn) = false := decide_eq_false (by omega)
  clear hB
  go_wp2_with fail
  clear c37
  go_loopw [4] (FwI V m.jn) (fun i _ => m.jn - (intOf i).toNat)
  case atStart => exact ⟨0, by omega, rfl, HBo.out⟩
  case round =>
  obtain ⟨k, hk, rfl, hB⟩ := hrel
  have c39 := (hB.cell (p := ⟨w.heap.size, 39, none⟩) LQ.out).trans C39.out
  have HBp := Lib.hid hB
  by_cases hlt : k < m.jn
  ·have i1 : (k : Int) < (m.jn : Int) := by omega
   have i2 : decide ((k : Int) < (m.jn : Int)) = true := decide_eq_true i1
   have wk2 : IntKind.i64.wrap ((k : Int) + 1) = (k : Int) + 1 := IntWalk.i64_in _ (by omega)
   obtain ⟨b, o, B, mm, d, hA, hb, k0, k1, r1, -⟩ := ws_at (HJ.out.below hB) k hlt
   have hm63 := r1.n63
   rw [hA] at c39
   clear hA r1 hB
   by_cases h6 : 600 < mm
   ·have d6 : decide ((600 : Int) < (mm : Int)) = true := decide_eq_true (by omega)
    go_wp2_with fail
    go_ret
    exact ⟨false, rfl, below_then BV.out HBp.out⟩
   ·have d6 : decide ((600 : Int) < (mm : Int)) = false := decide_eq_false (by omega)
    go_wp2_with fail
    go_roundw
    case rel => exact ⟨k + 1, by omega, by rw [Int.natCast_add]; rfl, HBp.out⟩
    case measure => simp [intOf]; omega
  ·obtain rfl : k = m.jn := by omega
   have i1 : decide ((m.jn : Int) < (m.jn : Int)) = false := decide_eq_false (by omega)
   have i1' : decide (m.jn < m.jn) = false := decide_eq_false (by omega)
   clear hB
   go_wp2_with fail
   go_ret
   exact ⟨true, rfl, below_then BV.out HBp.out⟩
end Go.Proofs.YtpahicfnhhhifaaGreat
namespace Go.Proofs.YtpahicfnhhhifaaGreat
set_option maxRecDepth 20000
set_option maxHeartbeats 1000000
def hjS : List UInt8 := [115, 116, 97, 116, 101]
def hjT : List UInt8 := [116, 119, 111]
def hjB : List UInt8 := jnBase hjS
def hjR : Rc := rcMk hjB ⟨1, 0, 9, 3, 1, 5, [], List.replicate 32 0⟩
def hjb : List UInt8 := rcPutL hjR
def hj0 : Jn := ⟨1, 0, 0, 0, 0, hjB, [], 0, [], 0, suZ, 2, 0⟩
def hj1 : Jn := ⟨1, 0, 1, 0, 0, hjR.D, [(98, hjb)], 0, [], 0, suZ, 2, 0⟩
def hj2 : Jn := ⟨1, 0, 1, 0, 1, hjR.D, [], 1, [], 1, suZ, 2, 0⟩
def hj3 : Jn := ⟨1, 0, 1, 0, 1, hjR.D, [], 1, [], 0, suZ, 2, 0⟩
def hj4 : Jn := ⟨1, 0, 1, 0, 1, hjR.D, [], 2, [], 1, suZ, 2, 0⟩
def hj5 : Jn := ⟨1, 0, 1, 1, 1, hjR.D, [], 0, [], 0, suZ, 2, 0⟩
def hjW : Jn := jnSaved hj5 hjT
def hjD : Dk := jnFmt hjS 100
def hjD2 : Dk := dkWrite hjD 98 hjb
theorem hjS_len : hjS.length = 5 := rfl
theorem hjB_len : hjB.length = 32 := shOf_len _
theorem hjR_ok : hjR.ok := rcMk_ok _ _ ⟨by decide, by decide, by decide, by decide, ⟨by decide, by decide⟩, by decide, rfl⟩
theorem hjR_chk : hjR.chk = true := by rfl
theorem hjb_len : hjb.length = 256 := by unfold hjb rcPutL; rw [if_pos hjR_chk]; exact rcL_len _ (by show (0 : Nat) ≤ 186; omega) (shLink_len _ _)
theorem hj_begin : jnBeginE 0 2 = 0 ∧ jnBegin 1 0 hjB 2 = hj0 := ⟨by decide, by unfold jnBegin; rw [if_pos (by decide)]; rfl⟩
theorem hj0_chk : jnChk hj0 = true := by unfold jnChk jnCnt jbOk hj0; decide
theorem hj1_chk : jnChk hj1 = true := by unfold jnChk jnCnt jbOk hj1 jb1; simp [hjb_len]; decide
theorem hj2_chk : jnChk hj2 = true := by unfold jnChk jnCnt jbOk hj2; decide
theorem hj3_chk : jnChk hj3 = true := by unfold jnChk jnCnt jbOk hj3; decide
theorem hj4_chk : jnChk hj4 = true := by unfold jnChk jnCnt jbOk hj4; decide
theorem hj5_chk : jnChk hj5 = true := by unfold jnChk jnCnt jbOk hj5; decide
theorem hj_app : jnAppE hj0 1 5 0 = 0 ∧ jnApp hj0 9 3 1 5 [] = hj1 := by
 have e : jnAppE hj0 1 5 0 = 0 := by
  unfold jnAppE jnGoing
  rw [hj0_chk]
  simp [hj0, rcChk]
 refine ⟨e, ?_⟩
 unfold jnApp
 rw [show ([] : List UInt8).length = 0 from rfl, if_pos e]
 rfl
theorem hj_ask1 : jnAsk hj1 = (hj2, (98, hjb), false, true) := by
 unfold jnAsk
 rw [if_neg (by simp [hj1_chk])]
 rfl
theorem hj_ask2 : jnAsk hj2 = (hj2, (0, []), false, false) := by
 unfold jnAsk
 rw [if_neg (by simp [hj2_chk])]
 rfl
theorem hj_came2 : jnCameE hj2 = 0 ∧ jnCame hj2 true = hj3 := by
 have e : jnCameE hj2 = 0 := by unfold jnCameE; rw [if_neg (by simp [hj2_chk]), if_neg (by simp [hj2])]
 refine ⟨e, ?_⟩
 unfold jnCame
 rw [if_pos e]
 rfl
theorem hj_ask3 : jnAsk hj3 = (hj4, (0, []), true, true) := by
 unfold jnAsk
 rw [if_neg (by simp [hj3_chk])]
 rfl
theorem hj_came4 : jnCameE hj4 = 0 ∧ jnCame hj4 true = hj5 := by
 have e : jnCameE hj4 = 0 := by unfold jnCameE; rw [if_neg (by simp [hj4_chk]), if_neg (by simp [hj4])]
 refine ⟨e, ?_⟩
 unfold jnCame
 rw [if_pos e]
 rfl
theorem hj_save5 : jnSaveE hj5 hjT = 0 ∧ jnSave hj5 hjT = hjW := by
 have e : jnSaveE hj5 hjT = 0 := by
  unfold jnSaveE jnGoing
  rw [hj5_chk]
  simp [hj5, hjT]
 exact ⟨e, by unfold jnSave; rw [if_pos e]; rfl⟩
theorem hjW_eq : hjW = ⟨2, 1, 0, 0, 0, jnBase hjT, [], 3, [(50, jnSec hjT 0)], 0, ⟨2, 1, 3, jnBase hjT⟩, 2, 0⟩ := by rfl
theorem hjW_chk : jnChk hjW = true := by rw [hjW_eq]; unfold jnChk jnCnt jbOk jb1; simp [jnSec_len]; decide
theorem hj_saveW : jnSaveE hjW [] = 8 := by
 unfold jnSaveE jnGoing
 rw [hjW_chk]
 simp [hjW, jnSaved, hj5]
theorem hjD_all : jnFmtE hjS 100 = 0 ∧ dkOk hjD = true ∧ hjD.s.length = 100 ∧ hjD.k = [] ∧
  ∀ i : Nat, i < 100 → dkRead hjD (i : Int) = if i = 1 then suPutL 1 0 5 hjB else if 2 ≤ i ∧ i < 3 then jnSec hjS (i - 2) else List.replicate 256 0 := by
 have h := jnFmt_ok hjS 100 (by omega) (by decide)
 rw [show jnFmt hjS ((100 : Nat) : Int) = hjD from rfl, show ((hjS.length : Nat) : Int) = 5 from rfl, show jnBase hjS = hjB from rfl, show (hjS.length + 255) / 256 = 1 from rfl] at h
 exact h
theorem hjD2_all : dkWriteE hjD 98 hjb = 0 ∧ dkOk hjD2 = true ∧ hjD2.s.length = 100 ∧
  ∀ i : Nat, i < 100 → dkRead hjD2 (i : Int) = if i = 98 then hjb else if i = 1 then suPutL 1 0 5 hjB else if i = 2 then jnSec hjS 0 else List.replicate 256 0 := by
 obtain ⟨h1, h2, h3, h4, h5⟩ := hjD_all
 obtain ⟨e1, e2, e3⟩ := dkWrite_in hjD h2 98 (by omega) hjb hjb_len (by rw [h4]; simp)
 refine ⟨e1, e3, by rw [show hjD2 = _ from e2]; exact h3, fun i hi => ?_⟩
 have := dkRead_write hjD h2 98 (by omega) hjb hjb_len (by rw [h4]; simp) i (by omega)
 rw [show dkRead hjD2 (i : Int) = _ from this]
 by_cases h : i = 98
 ·rw [if_pos h.symm, if_pos h]
 ·rw [if_neg (fun e => h e.symm), if_neg h, h5 i hi]
  by_cases h1 : i = 1
  ·rw [if_pos h1, if_pos h1]
  ·rw [if_neg h1, if_neg h1]
   by_cases h2 : i = 2
   ·subst h2; rfl
   ·rw [if_neg (by omega), if_neg h2]
theorem hj_load : jnLoadE hjD2 = 0 ∧ jnLoadS hjD2 = ⟨1, 0, 5, hjB⟩ ∧ jnHad hjD2 (jnLoadS hjD2) = hjS ∧ jnLoadR hjD2 = [hjR] := by
 obtain ⟨h1, h2, h3, h4⟩ := hjD2_all
 have r0 : dkRead hjD2 0 = List.replicate 256 0 := h4 0 (by omega)
 have r1 : dkRead hjD2 1 = suPutL 1 0 5 hjB := h4 1 (by omega)
 have g0 : suGood (List.replicate 256 0) 0 = false := suGood_zeros 0
 have g1 : suGood (suPutL 1 0 5 hjB) 1 = true := by rw [suGood_put 1 0 5 hjB (by omega) (by decide) hjB_len]; rfl
 have eS : jnLoadS hjD2 = ⟨1, 0, 5, hjB⟩ := by
  unfold jnLoadS suCh
  rw [r0, r1, g0, g1, if_neg (by simp), if_pos rfl]
  exact (suGet_put 1 0 5 hjB (by omega) (by decide) hjB_len).2
 have eH : jnHad hjD2 (jnLoadS hjD2) = hjS := by
  refine jnHad_of hjD2 hjS _ (by rw [eS]; rfl) (fun i hi => ?_)
  rw [eS]
  obtain rfl : i = 0 := by rw [hjS_len] at hi; omega
  exact h4 2 (by omega)
 have eE : jnLoadE hjD2 = 0 := by
  unfold jnLoadE
  have e1 : suChE (List.replicate 256 0) (suPutL 1 0 5 hjB) = 0 := by unfold suChE; rw [if_pos (.inr g1)]
  rw [if_neg (by simp [h2]), if_neg (by omega), r0, r1, e1, if_neg (by simp), eH, eS, if_neg (by show ¬ jnBase hjS ≠ hjB; exact fun h => h rfl)]
 refine ⟨eE, eS, eH, ?_⟩
 unfold jnLoadR
 rw [eS, h3]
 have c := jnRecs_chain hjD2 1 [hjR] 2 0 hjB ⟨⟨hjR_ok, hjR_chk, rfl, rfl, rfl⟩, trivial⟩ (by simp) (fun j hj => by
  obtain rfl : j = 0 := by simpa using hj
  exact h4 98 (by omega))
 rw [show (100 - 98 : Nat) = 2 from rfl]
 refine c.trans ?_
 rw [jnRecs_end]
 ·rfl
 ·rw [show dkRead hjD2 (98 + ((0 + [hjR].length : Nat) : Int)) = List.replicate 256 0 from h4 99 (by omega)]
  exact rcFol_zeros _ _ _
end Go.Proofs.YtpahicfnhhhifaaGreat
