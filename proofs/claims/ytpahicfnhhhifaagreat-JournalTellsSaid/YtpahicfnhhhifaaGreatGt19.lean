/-
 Proved here, for the statement JournalTells:
 Layer 14: journal: Ask.
-/
import Derived.WalkMore
import Derived.Test.YtpahicfnhhhifaaGreatGt18
set_option linter.unusedVariables false
set_option linter.unusedSimpArgs false
namespace Go.Proofs.YtpahicfnhhhifaaGreat
set_option maxRecDepth 20000
open Go.RowKit
set_option maxHeartbeats 8000000
def JbZ (w : World) (q : Nat) : Prop := w.heap[q]? = some (.cells #[.int .i64 0, .slice none 0 0] 60 (0, 0))
theorem JbZ.up {w w' : World} {q : Nat} (h : JbZ w q) (hb : Below w.heap.size w w') : JbZ w' q := drw_up h hb
theorem JbZ.far {w : World} {q g i : Nat} {v : Value} (h : JbZ w q) (hg : g ≠ q) : JbZ (w.setCell ⟨g, i, none⟩ v) q := (setc_rowO hg).trans h
theorem jb_info (a : Int) (A : Option Addr) (n c : Nat) : (Tryz.prog.info? 60).map (·.size) = some (#[Value.int .i64 a, .slice A n c] : Array Value).size := by kernel_rfl
theorem jb_store {ops : Array Oper} {rest : List Oper} {o : Oper} {a : Act} {w : World} {Q : Exit → Act → World → Prop} {g : Nat} (hgd : o.guard = none) (x y : Operand) (ho : o.op = .store 60 x y) (hx : a.eval x = .pointer (some ⟨g, 0, none⟩)) (p : Int) (A : Option Addr) (n c : Nat) (hy : a.eval y = .agg #[.int .i64 p, .slice A n c]) (q : JbZ w g)
  (hK : ∀ X, X.heap.size = w.heap.size → X.heap[g]? = some (.cells #[.int .i64 p, .slice A n c] 60 (0, 0)) → (∀ B, B ≤ g → Below B w X) → (∀ j, j ≠ g → X.heap[j]? = w.heap[j]?) → wpList Tryz.prog ops Q rest (a.put o.dst undef) X) : wpList Tryz.prog ops Q (o :: rest) a w :=
 wpList_store_row hgd 60 x y ho g _ hx hy 60 _ q (jb_info p A n c) (by simp) (by simp [Value.oneCell']) (hK _ (by simp) (setRow_heap _ _ _ _ _ _ q) (fun B hB => below_setRow (Below.refl _ _) hB _) (fun j hj => setRow_other _ _ _ _ hj))
theorem op_jmst {o : Oper} {a : Act} {w : World} {K : Act → World → Prop} {Q : Exit → Act → World → Prop} {h : Nat} {m m' : Jm} (hz : m.z) (hz' : m'.z) (x y : Operand) (ho : o.op = .store 36 x y) (hx : a.eval x = .pointer (some ⟨h, 0, none⟩)) (hy : a.eval y = .agg (jmV m).toArray) (q : JmAt w h m')
  (hK : ∀ X, X.heap.size = w.heap.size → JmAt X h m → (∀ B, B ≤ h → Below B w X) → (∀ j, j ≠ h → X.heap[j]? = w.heap[j]?) → K (a.put o.dst undef) X) : o.wp Tryz.prog a w K Q :=
 wp_store_row 36 x y ho h _ hx hy 36 _ q (jm_info hz) (by rw [List.size_toArray, List.size_toArray, jmV_len hz, jmV_len hz']) (jmV_all m) (hK _ (by simp) (setRow_heap _ _ _ _ _ _ q) (fun B hB => below_setRow (Below.refl _ _) hB _) (fun j hj => setRow_other _ _ _ _ hj))
theorem op_jbst {o : Oper} {a : Act} {w : World} {K : Act → World → Prop} {Q : Exit → Act → World → Prop} {g : Nat} (x y : Operand) (ho : o.op = .store 60 x y) (hx : a.eval x = .pointer (some ⟨g, 0, none⟩)) (p : Int) (A : Option Addr) (n c : Nat) (hy : a.eval y = .agg #[.int .i64 p, .slice A n c]) (q : JbZ w g)
  (hK : ∀ X, X.heap.size = w.heap.size → X.heap[g]? = some (.cells #[.int .i64 p, .slice A n c] 60 (0, 0)) → (∀ B, B ≤ g → Below B w X) → (∀ j, j ≠ g → X.heap[j]? = w.heap[j]?) → K (a.put o.dst undef) X) : o.wp Tryz.prog a w K Q :=
 wp_store_row 60 x y ho g _ hx hy 60 _ q (jb_info p A n c) (by simp) (by simp [Value.oneCell']) (hK _ (by simp) (setRow_heap _ _ _ _ _ _ q) (fun B hB => below_setRow (Below.refl _ _) hB _) (fun j hj => setRow_other _ _ _ _ hj))
theorem jm_run {w : World} {h : Nat} {m : Jm} (q : JmAt w h m) (hz : m.z) : (loadVar 36 ⟨h, 0, none⟩).run Tryz.prog w = .ok (.agg (jmV m).toArray) w := run_loadVar_row w h 36 36 _ (0, 0) _ q Tryz.underlying36 rfl (jm_info hz)
theorem jb_run {w : World} {g : Nat} {p : Int} {A : Option Addr} {n c : Nat} (q : w.heap[g]? = some (.cells #[.int .i64 p, .slice A n c] 60 (0, 0))) : (loadVar 60 ⟨g, 0, none⟩).run Tryz.prog w = .ok (.agg #[.int .i64 p, .slice A n c]) w := run_loadVar_row w g 60 60 _ (0, 0) _ q Tryz.underlying60 rfl (jb_info p A n c)
def PQ (P : Nat → Prop) (w : World) (j : Nat) : Prop := P j ∨ w.heap.size ≤ j ∧ j < w.heap.size + 3
theorem JIn.sub {P P' : Nat → Prop} {w : World} {m : Jm} {J : Jn} (h : JIn P w m J) (hs : ∀ j, P' j → P j) : JIn P' w m J := h.more (Below.refl _ _) (fun j hj => .inl (hs j hj))
theorem BIn.sub {P P' : Nat → Prop} {w : World} {A : Option Addr} {n c : Nat} {xs : List UInt8} (h : BIn P w A n c xs) (hs : ∀ j, P' j → P j) : BIn P' w A n c xs := h.more (Below.refl _ _) (fun j hj => .inl (hs j hj))
def AskI (P : Nat → Prop) (w : World) (R : Jn × Jb × Bool × Bool) (Y : World) : Prop := ∃ m wl jl, JS w w.heap.size (w.heap.size + 1) m Y ∧ JbZ Y (w.heap.size + 2) ∧ JIn (PQ P w) Y m (m.of wl jl) ∧ jnChk (m.of wl jl) = true ∧ jnAskK (jnWoke (m.of wl jl)) = R ∧ w.heap.size + 3 ≤ Y.heap.size
def AskMu (w : World) (Y : World) : Nat := match Y.cell? ⟨w.heap.size, 38, none⟩ with
 | some (.int _ n) => if n = 0 then 1 else 0
 | _ => 0
theorem jn_bnd {J : Jn} (h : jnChk J = true) : (0 ≤ J.ph ∧ J.ph ≤ 7) ∧ (0 ≤ J.out ∧ J.out ≤ 200) ∧ J.jobs.length ≤ 200 ∧ J.wait.length ≤ 158 := by
 unfold jnChk jnCnt at h
 simp only [Bool.and_eq_true, decide_eq_true_eq] at h
 obtain ⟨_, ⟨h1, h2, h3, h4⟩, ⟨h5, _⟩, ⟨h6, h7⟩, _⟩ := h
 exact ⟨h5, h6, h7, by omega⟩
theorem ask_end {P : Nat → Prop} {w X : World} {m : Jm} {J : Jn} {x : Jb} {A : Option Addr} {n c : Nat} {f ok : Bool} {R : Jn × Jb × Bool × Bool} (hR : R = (J, x, f, ok)) (hJ : JIn P X m J) (hb : BIn P X A n c x.2) (hx : -9223372036854775808 ≤ x.1 ∧ x.1 ≤ 9223372036854775807) (bF : Below w.heap.size w X) :
  RetAk P w R (.returned (.tuple #[.agg (jmV m).toArray, .agg #[.int .i64 x.1, .slice A n c], .bool f, .bool ok])) X := by
 subst hR
 exact ⟨m, A, n, c, rfl, hJ, hb, hx, bF⟩
theorem jn_wokeChk {J : Jn} (h : jnChk J = true) : jnChk (jnWoke J) = true := by
 unfold jnWoke
 split
 ·rename_i hc
  obtain ⟨hb1, hb2, hb3, hb4⟩ := jn_bnd h
  unfold jnChk jnCnt at h ⊢
  simp only [Bool.and_eq_true, decide_eq_true_eq] at h ⊢
  obtain ⟨h1, ⟨h2, h3, h4, h5⟩, ⟨h6, h7⟩, ⟨h8, h9⟩, h10, h11, h12⟩ := h
  refine ⟨h1, ⟨h2, ⟨by omega, by omega⟩, h4, by simp⟩, ⟨by omega, ?_⟩, ⟨h8, by omega⟩, h11, rfl, h12⟩
  have : ¬ J.err ≠ 0 := fun e => by have := h7.2 e; omega
  constructor
  ·intro e; omega
  ·intro e; exact absurd e this
 ·exact h
theorem ask_idle {m : Jm} {jl : List Jb} (h : m.ph = 0) : jnAskK (jnWoke (m.of [] jl)) = (m.of [] jl, (0, []), false, false) := by
 have e : jnWoke (m.of [] jl) = m.of [] jl := by unfold jnWoke; rw [if_neg (fun hh => hh.2 rfl)]
 rw [e]; unfold jnAskK jnHands; rw [if_pos (decide_eq_false (by show ¬ (m.ph = 1 ∨ m.ph = 3 ∨ m.ph = 5); omega))]
theorem ask_stay {m : Jm} {wl jl : List Jb} (h : ¬ m.ph = 0) : jnWoke (m.of wl jl) = m.of wl jl := by unfold jnWoke; rw [if_neg (fun hh => h hh.1)]
theorem ask_rest {m : Jm} {wl jl : List Jb} (h0 : ¬ m.ph = 0) (h : ¬ (m.ph = 1 ∨ m.ph = 3 ∨ m.ph = 5)) : jnAskK (jnWoke (m.of wl jl)) = (m.of wl jl, (0, []), false, false) := by
 rw [ask_stay h0]; unfold jnAskK jnHands; rw [if_pos (decide_eq_false (show ¬ ((m.of wl jl).ph = 1 ∨ (m.of wl jl).ph = 3 ∨ (m.of wl jl).ph = 5) from h))]
theorem ask_hands {m : Jm} {wl jl : List Jb} (h : m.ph = 1 ∨ m.ph = 3 ∨ m.ph = 5) : jnHands (m.of wl jl) = true := decide_eq_true h
theorem ask_out {m : Jm} {wl : List Jb} (h : m.ph = 1 ∨ m.ph = 3 ∨ m.ph = 5) (ho : 0 < m.out) : jnAskK (jnWoke (m.of wl [])) = (m.of wl [], (0, []), false, false) := by
 rw [ask_stay (by omega)]; unfold jnAskK; rw [if_neg (by rw [ask_hands h]; decide)]
 show (if 0 < m.out then _ else _) = _
 rw [if_pos ho]
theorem ask_fl {m : Jm} {wl : List Jb} (h : m.ph = 1 ∨ m.ph = 3 ∨ m.ph = 5) (ho : ¬ 0 < m.out) : jnAskK (jnWoke (m.of wl [])) = (({ m with ph := m.ph + 1, out := 1 } : Jm).of wl [], (0, []), true, true) := by
 rw [ask_stay (by omega)]; unfold jnAskK; rw [if_neg (by rw [ask_hands h]; decide)]
 show (if 0 < m.out then _ else _) = _
 rw [if_neg ho]; rfl
theorem ask_job {m : Jm} {wl l : List Jb} {x : Jb} (h : m.ph = 1 ∨ m.ph = 3 ∨ m.ph = 5) : jnAskK (jnWoke (m.of wl (x :: l))) = (({ m with out := m.out + 1 } : Jm).of wl l, x, false, true) := by
 rw [ask_stay (by omega)]; unfold jnAskK; rw [if_neg (by rw [ask_hands h]; decide)]; rfl
theorem ask_wake {m : Jm} {l jl : List Jb} {y : Jb} (h : m.ph = 0) (A : Option Addr) (n c : Nat) : jnAskK (jnWoke (({ m with ph := 1, will := m.next, ja := m.wa, jn := m.wn, jc := m.wc, wa := A, wn := n, wc := c } : Jm).of [] (y :: l))) = jnAskK (jnWoke (m.of (y :: l) jl)) := by
 rw [ask_stay (by show ¬ (1 : Int) = 0; decide)]
 have e : jnWoke (m.of (y :: l) jl) = ({ m with ph := 1, will := m.next } : Jm).of [] (y :: l) := by unfold jnWoke; rw [if_pos ⟨h, by simp [Jm.of]⟩]; rfl
 rw [e]; rfl
theorem jn_c39 {P : Nat → Prop} {Y : World} {m : Jm} {wl : List Jb} {h : Nat} (hJ : JIn P Y m (m.of wl [])) (c : Y.cell? ⟨h, 39, none⟩ = some (.slice m.ja m.jn m.jc)) : Y.cell? ⟨h, 39, none⟩ = some (.slice m.ja 0 m.jc) := by
 obtain ⟨us, hu⟩ := hJ.2.2.2.now
 have := hu.len
 rw [c]; congr 2; exact this.symm
theorem jn_c37 {P : Nat → Prop} {Y : World} {m : Jm} {jl : List Jb} {h : Nat} (hJ : JIn P Y m (m.of [] jl)) (c : Y.cell? ⟨h, 37, none⟩ = some (.slice m.wa m.wn m.wc)) : Y.cell? ⟨h, 37, none⟩ = some (.slice m.wa 0 m.wc) := by
 obtain ⟨us, hu⟩ := hJ.2.2.1.now
 have := hu.len
 rw [c]; congr 2; exact this.symm
set_option maxRecDepth 100000 in
theorem jrnAsk_any (P : Nat → Prop) (m : Jm) (J : Jn) (w : World) (hv : JIn P w m J) (hP : ∀ j, P j → j < w.heap.size) :
  Calls Tryz.prog 17 #[.agg (jmV m).toArray] w (RetAk P w (jnAsk J)) := by
 obtain ⟨wl, jl, rfl⟩ : ∃ wl jl, J = m.of wl jl := ⟨_, _, jof hv⟩
 obtain ⟨V0, hV0⟩ : ∃ V, V = (w.alloc (.cells (jmV m).toArray 36)).alloc (.cells Tryz.zeroCells36 36) := ⟨_, rfl⟩
 have s0 := js_new hv hV0
 obtain ⟨V, hV⟩ : ∃ V, V = V0.alloc (.cells #[.int .i64 0, .slice none 0 0] 60) := ⟨_, rfl⟩
 have bV0 : Below V0.heap.size V0 V := by rw [hV]; exact (below_self V0).alloc (Nat.le_refl _) _
 have zV0 : V0.heap.size = w.heap.size + 2 := by rw [hV0]; simp
 have S := Lib.hid (s0.up bV0)
 have Z : Hid (JbZ V (w.heap.size + 2)) := Lib.hid (by rw [hV]; exact drw_at _ zV0)
 have zV : V.heap.size = w.heap.size + 3 := by rw [hV]; simp [zV0]
 have ZV := Lib.hid zV
 have HV0 := Lib.hid hV0
 have HV := Lib.hid hV
 have C := Lib.hid (jrnCheck_any P m (m.of wl jl) V (hv.below S.out.b))
 have HI := Lib.hid hv
 have HP := Lib.hid hP
 obtain ⟨B, hB⟩ : ∃ B, jnChk (m.of wl jl) = B := ⟨_, rfl⟩
 obtain ⟨R, hR⟩ : ∃ R, jnAsk (m.of wl jl) = R := ⟨_, rfl⟩
 rw [hB] at C
 rw [hR]
 have HB := Lib.hid hB
 have HRR := Lib.hid hR
 clear hV0 hV zV zV0 bV0 s0 hv hP hB hR
 cases B with
 | false =>
  go_enter Tryz.func17, Tryz.ntmps17
  go_wp2_with (rw [← HV0.out, ← HV.out])
  go_step3
  go_wp2_with (refine jm_load S.out.z rfl _ rfl rfl S.out.j ?_)
  refine C.out.mono ?_
  rintro e w1 ⟨rfl, hb1⟩
  have S1 := Lib.hid (S.out.up hb1)
  have ZZ := Lib.hid (Z.out.up hb1)
  go_wp2_with (first | (refine jm_load S1.out.z rfl _ rfl rfl S1.out.j ?_) | (refine jm_store S1.out.z jmZ_z rfl _ _ rfl rfl rfl S1.out.o ?_; intro X zX qX bX nX; have z0 : Hid (JbZ X (w.heap.size + 1 + 1)) := Lib.hid ((nX _ (by omega)).trans ZZ.out)) | (refine jb_store rfl _ _ rfl rfl 0 none 0 0 rfl z0.out ?_; intro X2 zX2 qZ bX2 nX2))
  rw [Exit.noGoto_ret]
  have qX2 : JmAt X2 (w.heap.size + 1) m := (nX2 _ (by omega)).trans qX
  refine bodyPost_ret (dresults4 Tryz.results17 _ _ (w.heap.size + 1) (w.heap.size + 2) 36 60 _ _ (0, 0) (0, 0) _ _ rfl qX2 Tryz.underlying36 rfl (jm_info S1.out.z) rfl qZ Tryz.underlying60 rfl (jb_info _ _ _ _)) rfl ?_
  have bF := (S1.out.b.trans (bX w.heap.size (by omega))).trans (bX2 w.heap.size (by omega))
  exact ask_end (x := (0, [])) (by rw [← HRR.out]; unfold jnAsk; rw [if_pos HB.out]) (HI.out.below bF) (bin_nil P _) (by decide) bF
 | true =>
  have hchk := HB.out
  have hR0 : jnAskK (jnWoke (m.of wl jl)) = R := by rw [← HRR.out]; unfold jnAsk; rw [if_neg (by simp [hchk])]
  have HR0 := Lib.hid hR0
  clear hR0 hchk
  go_enter Tryz.func17, Tryz.ntmps17
  go_wp2_with (rw [← HV0.out, ← HV.out])
  go_step3
  go_wp2_with (refine jm_load S.out.z rfl _ rfl rfl S.out.j ?_)
  refine C.out.mono ?_
  rintro e w1 ⟨rfl, hb1⟩
  have S1 := Lib.hid (S.out.up hb1)
  have Z1 := Lib.hid (Z.out.up hb1)
  have hi1 : AskI P w R w1 := ⟨m, wl, jl, S1.out, Z1.out, HI.out.more S1.out.b (fun j hj => hj.elim .inl (fun h => .inr h.1)), HB.out, HR0.out, by have := ZV.out; have := hb1.size; omega⟩
  have HI1 := Lib.hid hi1
  clear hi1
  clear HI HB HRR HR0 S1 Z1
  go_wp2_with fail
  go_step3
  go_wp2_with fail
  go_loopw [13] (fun _ Y => AskI P w R Y) (fun _ Y => AskMu w Y)
  case atStart => exact HI1.out
  case round =>
   obtain ⟨m, wl, jl, hs, hz, hJ, hchk, hRR, hsz⟩ := hrel
   obtain ⟨hph, hout, hjl, hwl⟩ := jn_bnd hchk
   replace hph : 0 ≤ m.ph ∧ m.ph ≤ 7 := hph
   replace hout : 0 ≤ m.out ∧ m.out ≤ 200 := hout
   replace hjl : jl.length ≤ 200 := hjl
   replace hwl : wl.length ≤ 158 := hwl
   have SY := Lib.hid hs
   have ZY := Lib.hid hz
   have HJ := Lib.hid hJ
   have HCK := Lib.hid hchk
   have HRR := Lib.hid hRR
   obtain ⟨⟨c0, c1, c2, c3, c4⟩, ⟨c37, c38, c39, c40, c41, c76, c77⟩, fz⟩ := SY.out.j.cells SY.out.z
   clear hs hz hJ hchk
   by_cases h0 : m.ph = 0
   ·cases wl with
    | nil =>
     replace c37 := jn_c37 HJ.out c37
     have hR1 : R = (m.of [] jl, (0, []), false, false) := by rw [← HRR.out]; exact ask_idle h0
     have HR1 := Lib.hid hR1
     rw [h0] at c38
     clear hR1 hRR h0
     go_wp2_with (first | (refine jm_load SY.out.z rfl _ rfl rfl SY.out.j ?_) | (refine jm_store SY.out.z jmZ_z rfl _ _ rfl rfl rfl SY.out.o ?_; intro X zX qX bX nX; have z0 : Hid (JbZ X (w.heap.size + 1 + 1)) := Lib.hid ((nX _ (by omega)).trans ZY.out)) | (refine jb_store rfl _ _ rfl rfl 0 none 0 0 rfl z0.out ?_; intro X2 zX2 qZ bX2 nX2))
     try rw [Exit.noGoto_ret]
     have qX2 : JmAt X2 (w.heap.size + 1) m := (nX2 _ (by omega)).trans qX
     refine bodyPost_ret (dresults4 Tryz.results17 _ _ (w.heap.size + 1) (w.heap.size + 2) 36 60 _ _ (0, 0) (0, 0) _ _ rfl qX2 Tryz.underlying36 rfl (jm_info SY.out.z) rfl qZ Tryz.underlying60 rfl (jb_info _ _ _ _)) rfl ?_
     have bF := (SY.out.b.trans (bX w.heap.size (by omega))).trans (bX2 w.heap.size (by omega))
     have hag : AgrP (PQ P w) wr X2 := ((AgrP.refl _ wr).one (.inr ⟨by omega, by omega⟩) zX nX).one (.inr ⟨by omega, by omega⟩) zX2 nX2
     exact ask_end (x := (0, [])) (HR1.out) ((HJ.out.agr hag).sub (fun j hj => .inl hj)) (bin_nil P _) (by decide) bF
    | cons y l =>
     have hwn : m.wn = l.length + 1 := by
      obtain ⟨us, hu⟩ := HJ.out.2.2.1.now
      exact hu.len.symm
     have w0 : ((m.wn : Int) == 0) = false := beq_eq_false_iff_ne.2 (by omega)
     have w1 : (m.wn == 0) = false := beq_eq_false_iff_ne.2 (by omega)
     clear hwn
     have hR2 : jnAskK (jnWoke (({ m with ph := 1, will := m.next, ja := m.wa, jn := m.wn, jc := m.wc, wa := none, wn := 0, wc := 0 } : Jm).of [] (y :: l))) = R := (ask_wake h0 none 0 0).trans HRR.out
     have hck2 := jn_wokeChk HCK.out
     have hwk : jnWoke (m.of (y :: l) jl) = ({ m with ph := 1, will := m.next, ja := m.wa, jn := m.wn, jc := m.wc, wa := none, wn := 0, wc := 0 } : Jm).of [] (y :: l) := by unfold jnWoke; rw [if_pos ⟨h0, by simp [Jm.of]⟩]; rfl
     rw [hwk] at hck2
     rw [h0] at c38
     have C38 := Lib.hid c38
     have HR2 := Lib.hid hR2
     have HC2 := Lib.hid hck2
     clear hR2 hck2 hwk hRR h0
     obtain ⟨m2, Y2, HM2, HY2, S2⟩ := ((((SY.out.s38 1).s4 m.next).s39 m.wa m.wn m.wc).s37 none 0 0).named
     go_wp2_with fail
     go_roundw
     case rel =>
      rw [← HY2.out]
      have hz2 : JbZ Y2 (w.heap.size + 2) := by rw [HY2.out]; exact (((ZY.out.far (by omega)).far (by omega)).far (by omega)).far (by omega)
      have hag0 : AgrP (PQ P w) wr Y2 := by rw [HY2.out]; exact ((((AgrP.refl _ wr).set (.inr ⟨by omega, by omega⟩) _).set (.inr ⟨by omega, by omega⟩) _).set (.inr ⟨by omega, by omega⟩) _).set (.inr ⟨by omega, by omega⟩) _
      have hj2 := HJ.out.agr hag0
      have hok := hj2.1
      refine ⟨m2, [], y :: l, S2.out, hz2, ?_, ?_, ?_, by have := hag0.1; omega⟩
      ·rw [← HM2.out]
       exact ⟨⟨hok.g, hok.slot, hok.next, hok.done, hok.next, hok.ch, (show -9223372036854775808 ≤ (1 : Int) ∧ (1 : Int) ≤ 9223372036854775807 by omega), hok.out, hok.sg, hok.ss, hok.sl, hok.sD, hok.room, hok.err⟩, rfl, ws_nil _ _, hj2.2.2.1⟩
      ·rw [← HM2.out]; exact HC2.out
      ·rw [← HM2.out]; exact HR2.out
     case measure =>
      rw [← HY2.out]
      have e1 : AskMu w wr = 1 := by unfold AskMu; rw [C38.out]; rfl
      have e2 : AskMu w Y2 = 0 := by unfold AskMu; rw [S2.out.j.c38 S2.out.z, ← HM2.out]; rfl
      omega
   ·by_cases h1 : m.ph = 1 ∨ m.ph = 3 ∨ m.ph = 5
    ·have hc' := h1
     rcases h1 with hc | hc | hc
     ·skip
      rw [hc] at c38
      cases jl with
      | nil =>
       replace c39 := jn_c39 HJ.out c39
       by_cases ho : 0 < m.out
       ·have d2 : decide ((0 : Int) < m.out) = true := decide_eq_true ho
        have hR1 : R = (m.of wl [], (0, []), false, false) := by rw [← HRR.out]; exact ask_out hc' ho
        have HR1 := Lib.hid hR1
        clear hR1 hc ho hRR
        go_wp2_with (first | (refine jm_load SY.out.z rfl _ rfl rfl SY.out.j ?_) | (refine jm_store SY.out.z jmZ_z rfl _ _ rfl rfl rfl SY.out.o ?_; intro X zX qX bX nX; have z0 : Hid (JbZ X (w.heap.size + 1 + 1)) := Lib.hid ((nX _ (by omega)).trans ZY.out)) | (refine jb_store rfl _ _ rfl rfl 0 none 0 0 rfl z0.out ?_; intro X2 zX2 qZ bX2 nX2))
        try rw [Exit.noGoto_ret]
        have qX2 : JmAt X2 (w.heap.size + 1) m := (nX2 _ (by omega)).trans qX
        refine bodyPost_ret (dresults4 Tryz.results17 _ _ (w.heap.size + 1) (w.heap.size + 2) 36 60 _ _ (0, 0) (0, 0) _ _ rfl qX2 Tryz.underlying36 rfl (jm_info SY.out.z) rfl qZ Tryz.underlying60 rfl (jb_info _ _ _ _)) rfl ?_
        have bF := (SY.out.b.trans (bX w.heap.size (by omega))).trans (bX2 w.heap.size (by omega))
        have hag : AgrP (PQ P w) wr X2 := ((AgrP.refl _ wr).one (.inr ⟨by omega, by omega⟩) zX nX).one (.inr ⟨by omega, by omega⟩) zX2 nX2
        exact ask_end (x := (0, [])) (HR1.out) ((HJ.out.agr hag).sub (fun j hj => .inl hj)) (bin_nil P _) (by decide) bF
       ·have ho1 : m.out = 0 := by omega
        have hR1 : R = (({ m with ph := m.ph + 1, out := 1 } : Jm).of wl [], (0, []), true, true) := by rw [← HRR.out]; exact ask_fl hc' ho
        have HR1 := Lib.hid hR1
        have hc1 : m.ph + 1 = 2 := by omega
        rw [ho1] at c40
        have HC1 := Lib.hid hc1
        clear hR1 hc ho ho1 hRR hc1
        obtain ⟨m2, Y2, HM2, HY2, S2⟩ := ((SY.out.s38 2).s40 1).named
        have hz2 : JbZ Y2 (w.heap.size + 2) := by rw [HY2.out]; exact (ZY.out.far (by omega)).far (by omega)
        have Z2 := Lib.hid hz2
        clear hz2
        go_wp2_with (first | (rw [← HY2.out]; refine jm_load S2.out.z rfl _ rfl rfl S2.out.j ?_) | (refine jm_store S2.out.z jmZ_z rfl _ _ rfl rfl rfl S2.out.o ?_; intro X zX qX bX nX; have z0 : Hid (JbZ X (w.heap.size + 1 + 1)) := Lib.hid ((nX _ (by omega)).trans Z2.out)) | (refine jb_store rfl _ _ rfl rfl 0 none 0 0 rfl z0.out ?_; intro X2 zX2 qZ bX2 nX2))
        try rw [Exit.noGoto_ret]
        have qX2 : JmAt X2 (w.heap.size + 1) m2 := (nX2 _ (by omega)).trans qX
        refine bodyPost_ret (dresults4 Tryz.results17 _ _ (w.heap.size + 1) (w.heap.size + 2) 36 60 _ _ (0, 0) (0, 0) _ _ rfl qX2 Tryz.underlying36 rfl (jm_info S2.out.z) rfl qZ Tryz.underlying60 rfl (jb_info _ _ _ _)) rfl ?_
        have bF := (S2.out.b.trans (bX w.heap.size (by omega))).trans (bX2 w.heap.size (by omega))
        have hag0 : AgrP (PQ P w) wr Y2 := by rw [HY2.out]; exact ((AgrP.refl _ wr).set (.inr ⟨by omega, by omega⟩) _).set (.inr ⟨by omega, by omega⟩) _
        have hag : AgrP (PQ P w) wr X2 := (hag0.one (.inr ⟨by omega, by omega⟩) zX nX).one (.inr ⟨by omega, by omega⟩) zX2 nX2
        refine ask_end (x := (0, [])) HR1.out ?_ (bin_nil P _) (by decide) bF
        rw [← HM2.out, HC1.out]
        have hj2 := (HJ.out.agr hag).sub (P' := P) (fun j hj => .inl hj)
        exact JIn.num hj2 ⟨hj2.1.g, hj2.1.slot, hj2.1.next, hj2.1.done, hj2.1.will, hj2.1.ch, (show -9223372036854775808 ≤ (2 : Int) ∧ (2 : Int) ≤ 9223372036854775807 by omega), (show -9223372036854775808 ≤ (1 : Int) ∧ (1 : Int) ≤ 9223372036854775807 by omega), hj2.1.sg, hj2.1.ss, hj2.1.sl, hj2.1.sD, hj2.1.room, hj2.1.err⟩ ⟨rfl, rfl, rfl, rfl, rfl, rfl⟩
      | cons x l =>
       have hR1 : R = (({ m with out := m.out + 1 } : Jm).of wl l, x, false, true) := by rw [← HRR.out]; exact ask_job hc'
       have HR1 := Lib.hid hR1
       have wo : IntKind.i64.wrap (m.out + 1) = m.out + 1 := IntWalk.i64_in _ (by omega)
       obtain ⟨us, hus⟩ := HJ.out.2.2.2
       obtain ⟨b, o, B, kk, d, hA, k0, k1, hx, hbin, hn, hul, hnc, hcm, hbl, hrest⟩ := ws_first hus
       obtain ⟨q, hq⟩ : ∃ q, l.length = q := ⟨_, rfl⟩
       rw [hq] at hn hrest
       have hjn : m.jn = q + 1 := hn
       have HC4 := Lib.hid (fun W (h : Below wr.heap.size wr W) => cloneJ_any (some ⟨b, o + 2, none⟩) q (m.jc - 1) (us.drop 2) l W (hrest.below h) (by simp at hjl; omega))
       have HC5 := Lib.hid (fun W (h : Below wr.heap.size wr W) (hq0 : q + 1 ≤ 1) => cloneJ_any (some ⟨b, o, none⟩) q 0 (us.drop 2) l W ⟨.inl (List.eq_nil_of_length_eq_zero (by have := hrest.2.1; omega)), hrest.2.1, by omega, by simp [maxLen], hrest.2.2.2.2.below h⟩ (by omega))
       have hA' : m.ja = some ⟨b, o, none⟩ := hA
       have hjc : q + 1 ≤ m.jc := by have : m.jn ≤ m.jc := hnc; omega
       have hjm : m.jc ≤ 9223372036854775807 := by have : m.jc ≤ maxLen := hcm; unfold maxLen at this; omega
       rw [hA', hjn] at c39
       have HUS := Lib.hid hus
       have HX := Lib.hid hx
       have HBIN := Lib.hid hbin
       have HQL := Lib.hid hq
       clear hR1 hc hRR hus hx hbin hn hul hnc hcm hrest hA hA' hjn hq
       obtain ⟨W5, hW5⟩ : ∃ W, W = wr.alloc (.cells #[.int .i64 x.1, .slice B kk d] 60) := ⟨_, rfl⟩
       have b5 : Below wr.heap.size wr W5 := by rw [hW5]; exact (below_self wr).alloc (Nat.le_refl _) _
       have q5 : Hid (W5.heap[wr.heap.size]? = some (.cells #[.int .i64 x.1, .slice B kk d] 60 (0, 0))) := by rw [hW5]; exact Lib.hid (drw_at _ rfl)
       have S5 := Lib.hid (SY.out.up b5)
       obtain ⟨⟨d0, d1, d2, d3, d4⟩, ⟨d37, d38, d39, d40, d41, d76, d77⟩, gz⟩ := S5.out.j.cells S5.out.z
       replace d39 := (World.cell?_of_block (b5.block _ SY.out.j.lt)).trans c39
       have HW5 := Lib.hid hW5
       clear hW5 c0 c1 c2 c3 c4 c37 c40 c41 c76 c77
       go_wp2_with (rw [← HW5.out])
       all_goals
        first
         | refine (HC4.out W5 b5).mono ?_
         | refine (HC5.out W5 b5 (by omega)).mono ?_
        rintro e w6 ⟨A6, c6, rfl, o6, b6⟩
        have S6 := Lib.hid (S5.out.up b6)
        have O6 := Lib.hid o6
        have q6 := Lib.hid (drw_up q5.out b6)
        have HB6 := Lib.hid (And.intro b5 b6)
        have z6 := Lib.hid (ZY.out.up (below_then b5 b6))
        clear k0 k1 c38 c39 fz
        obtain ⟨⟨c0, c1, c2, c3, c4⟩, ⟨c37, c38, c39, c40, c41, c76, c77⟩, fz⟩ := S6.out.j.cells S6.out.z
        obtain ⟨m2, Y2, HM2, HY2, S2⟩ := ((S6.out.s39 A6 q c6).s40 (m.out + 1)).named
        have hne : w.heap.size ≠ wr.heap.size := by have := SY.out.j.lt; omega
        have hqY : Y2.heap[wr.heap.size]? = some (.cells #[.int .i64 x.1, .slice B kk d] 60 (0, 0)) := by rw [HY2.out]; exact (setc_rowO hne).trans ((setc_rowO hne).trans q6.out)
        have hz2 : JbZ Y2 (w.heap.size + 2) := by rw [HY2.out]; exact (z6.out.far (by omega)).far (by omega)
        have HQY := Lib.hid hqY
        have Z2 := Lib.hid hz2
        have HNE := Lib.hid hsz
        clear hqY hz2 hne o6 b6 b5 d0 d1 d2 d3 d4 d37 d38 d39 d40 d41 d76 d77 gz
        go_wp2_with fail
        rw [← HY2.out]
        refine wp_region_seg (S := fun w' => JmAt w' w.heap.size m2 ∧ w'.heap[wr.heap.size]? = some (.cells #[.int .i64 x.1, .slice B kk d] 60 (0, 0))) 0 (brw9 6 63) [(0, true), (1, true), (2, false), (3, false), (4, true), (5, true)] (by kernel_rfl) (by kernel_rfl) (fun _ _ d _ _ h => by first | (cases d <;> exact h) | cases h.1) (And.intro S2.out.j HQY.out) ?_
        have HB := And.intro S2.out.j HQY.out
        refine seg_take (v := .agg (jmV m2).toArray) rfl (Or.inl ⟨by rfl, fun w' hw' => ?_⟩) ?_
        focus (exact rex_load rfl rfl (jm_run hw'.1 S2.out.z))
        try simp only [Act.put, pst3]
        refine seg_take (v := .agg #[.int .i64 x.1, .slice B kk d]) rfl (Or.inl ⟨by rfl, fun w' hw' => ?_⟩) ?_
        focus (exact rex_load rfl rfl (jb_run hw'.2))
        try simp only [Act.put, pst3]
        refine seg_run rfl (fun K hK => ?_)
        rw [if_pos (by rfl)]
        refine op_jmst (h := w.heap.size + 1) S2.out.z jmZ_z _ _ rfl rfl rfl S2.out.o ?_
        intro X zX qX bX nX
        have HB := And.intro ((nX _ (by omega)).trans HB.1) ((nX _ (by have := HNE.out; omega)).trans HB.2)
        refine hK.out _ _ (HB) ?_
        clear hK
        try simp only [Act.put, pst3]
        refine seg_run rfl (fun K hK => ?_)
        rw [if_pos (by rfl)]
        have z0 : JbZ X (w.heap.size + 2) := (nX _ (by omega)).trans Z2.out
        refine op_jbst (g := w.heap.size + 2) _ _ rfl rfl x.1 B kk d rfl z0 ?_
        intro X2 zX2 qZ bX2 nX2
        have HB := And.intro ((nX2 _ (by omega)).trans HB.1) ((nX2 _ (by have := HNE.out; omega)).trans HB.2)
        refine hK.out _ _ (HB) ?_
        clear hK
        try simp only [Act.put, pst3]
        iterate 2 (refine seg_take (v := ?_) rfl (Or.inl ⟨by rfl, ?_⟩) ?_; rotate_left; (focus (intro w' hw'; go_simp <;> with_reducible rfl)); try simp only [Act.put, pst3])
        refine seg_done (fun _ => ?_)
        refine wpAnyH_done (by kernel_rfl) ?_ _
        skip
        go_wp2_with fail
        try rw [Exit.noGoto_ret]
        have qX2 : JmAt X2 (w.heap.size + 1) m2 := (nX2 _ (by omega)).trans qX
        refine bodyPost_ret (dresults4 Tryz.results17 _ _ (w.heap.size + 1) (w.heap.size + 2) 36 60 _ _ (0, 0) (0, 0) _ _ rfl qX2 Tryz.underlying36 rfl (jm_info S2.out.z) rfl qZ Tryz.underlying60 rfl (jb_info _ _ _ _)) rfl ?_
        have bF := (S2.out.b.drew.trans (bX w.heap.size (by omega))).trans (bX2 w.heap.size (by omega))
        have hsz := HNE.out
        have h56 := below_then HB6.out.1 HB6.out.2
        have hQ : ∀ j, PQ P w j → j < w.heap.size + 3 := fun j hj => by
         rcases hj with h | h
         ·have := HP.out j h; omega
         ·omega
        have hws : WsIn (PQ P w) w6 A6 q c6 l := ws_rest HUS.out h56 O6.out (fun j hj => by have := hQ j hj; have := HB6.out.1.size; omega)
        have hag0 : AgrP (PQ P w) w6 Y2 := by rw [HY2.out]; exact ((AgrP.refl _ w6).set (.inr ⟨by omega, by omega⟩) _).set (.inr ⟨by omega, by omega⟩) _
        have hag : AgrP (PQ P w) w6 X2 := (hag0.one (.inr ⟨by omega, by omega⟩) zX nX).one (.inr ⟨by omega, by omega⟩) zX2 nX2
        have hbx := ((HBIN.out.below h56).agr hag).sub (P' := P) (fun j hj => .inl hj)
        have hj2 := ((HJ.out.below h56).agr hag).sub (P' := P) (fun j hj => .inl hj)
        have hwx := (hws.agr hag).sub (P' := P) (fun j hj => .inl hj)
        refine ask_end (x := x) HR1.out ?_ hbx HX.out bF
        rw [← HM2.out]
        exact JIn.jb hj2 ⟨hj2.1.g, hj2.1.slot, hj2.1.next, hj2.1.done, hj2.1.will, hj2.1.ch, hj2.1.ph, (show -9223372036854775808 ≤ m.out + 1 ∧ m.out + 1 ≤ 9223372036854775807 by omega), hj2.1.sg, hj2.1.ss, hj2.1.sl, hj2.1.sD, hj2.1.room, hj2.1.err⟩ ⟨rfl, rfl, rfl⟩ hwx
     ·skip
      rw [hc] at c38
      cases jl with
      | nil =>
       replace c39 := jn_c39 HJ.out c39
       by_cases ho : 0 < m.out
       ·have d2 : decide ((0 : Int) < m.out) = true := decide_eq_true ho
        have hR1 : R = (m.of wl [], (0, []), false, false) := by rw [← HRR.out]; exact ask_out hc' ho
        have HR1 := Lib.hid hR1
        clear hR1 hc ho hRR
        go_wp2_with (first | (refine jm_load SY.out.z rfl _ rfl rfl SY.out.j ?_) | (refine jm_store SY.out.z jmZ_z rfl _ _ rfl rfl rfl SY.out.o ?_; intro X zX qX bX nX; have z0 : Hid (JbZ X (w.heap.size + 1 + 1)) := Lib.hid ((nX _ (by omega)).trans ZY.out)) | (refine jb_store rfl _ _ rfl rfl 0 none 0 0 rfl z0.out ?_; intro X2 zX2 qZ bX2 nX2))
        try rw [Exit.noGoto_ret]
        have qX2 : JmAt X2 (w.heap.size + 1) m := (nX2 _ (by omega)).trans qX
        refine bodyPost_ret (dresults4 Tryz.results17 _ _ (w.heap.size + 1) (w.heap.size + 2) 36 60 _ _ (0, 0) (0, 0) _ _ rfl qX2 Tryz.underlying36 rfl (jm_info SY.out.z) rfl qZ Tryz.underlying60 rfl (jb_info _ _ _ _)) rfl ?_
        have bF := (SY.out.b.trans (bX w.heap.size (by omega))).trans (bX2 w.heap.size (by omega))
        have hag : AgrP (PQ P w) wr X2 := ((AgrP.refl _ wr).one (.inr ⟨by omega, by omega⟩) zX nX).one (.inr ⟨by omega, by omega⟩) zX2 nX2
        exact ask_end (x := (0, [])) (HR1.out) ((HJ.out.agr hag).sub (fun j hj => .inl hj)) (bin_nil P _) (by decide) bF
       ·have ho1 : m.out = 0 := by omega
        have hR1 : R = (({ m with ph := m.ph + 1, out := 1 } : Jm).of wl [], (0, []), true, true) := by rw [← HRR.out]; exact ask_fl hc' ho
        have HR1 := Lib.hid hR1
        have hc1 : m.ph + 1 = 4 := by omega
        rw [ho1] at c40
        have HC1 := Lib.hid hc1
        clear hR1 hc ho ho1 hRR hc1
        obtain ⟨m2, Y2, HM2, HY2, S2⟩ := ((SY.out.s38 4).s40 1).named
        have hz2 : JbZ Y2 (w.heap.size + 2) := by rw [HY2.out]; exact (ZY.out.far (by omega)).far (by omega)
        have Z2 := Lib.hid hz2
        clear hz2
        go_wp2_with (first | (rw [← HY2.out]; refine jm_load S2.out.z rfl _ rfl rfl S2.out.j ?_) | (refine jm_store S2.out.z jmZ_z rfl _ _ rfl rfl rfl S2.out.o ?_; intro X zX qX bX nX; have z0 : Hid (JbZ X (w.heap.size + 1 + 1)) := Lib.hid ((nX _ (by omega)).trans Z2.out)) | (refine jb_store rfl _ _ rfl rfl 0 none 0 0 rfl z0.out ?_; intro X2 zX2 qZ bX2 nX2))
        try rw [Exit.noGoto_ret]
        have qX2 : JmAt X2 (w.heap.size + 1) m2 := (nX2 _ (by omega)).trans qX
        refine bodyPost_ret (dresults4 Tryz.results17 _ _ (w.heap.size + 1) (w.heap.size + 2) 36 60 _ _ (0, 0) (0, 0) _ _ rfl qX2 Tryz.underlying36 rfl (jm_info S2.out.z) rfl qZ Tryz.underlying60 rfl (jb_info _ _ _ _)) rfl ?_
        have bF := (S2.out.b.trans (bX w.heap.size (by omega))).trans (bX2 w.heap.size (by omega))
        have hag0 : AgrP (PQ P w) wr Y2 := by rw [HY2.out]; exact ((AgrP.refl _ wr).set (.inr ⟨by omega, by omega⟩) _).set (.inr ⟨by omega, by omega⟩) _
        have hag : AgrP (PQ P w) wr X2 := (hag0.one (.inr ⟨by omega, by omega⟩) zX nX).one (.inr ⟨by omega, by omega⟩) zX2 nX2
        refine ask_end (x := (0, [])) HR1.out ?_ (bin_nil P _) (by decide) bF
        rw [← HM2.out, HC1.out]
        have hj2 := (HJ.out.agr hag).sub (P' := P) (fun j hj => .inl hj)
        exact JIn.num hj2 ⟨hj2.1.g, hj2.1.slot, hj2.1.next, hj2.1.done, hj2.1.will, hj2.1.ch, (show -9223372036854775808 ≤ (4 : Int) ∧ (4 : Int) ≤ 9223372036854775807 by omega), (show -9223372036854775808 ≤ (1 : Int) ∧ (1 : Int) ≤ 9223372036854775807 by omega), hj2.1.sg, hj2.1.ss, hj2.1.sl, hj2.1.sD, hj2.1.room, hj2.1.err⟩ ⟨rfl, rfl, rfl, rfl, rfl, rfl⟩
      | cons x l =>
       have hR1 : R = (({ m with out := m.out + 1 } : Jm).of wl l, x, false, true) := by rw [← HRR.out]; exact ask_job hc'
       have HR1 := Lib.hid hR1
       have wo : IntKind.i64.wrap (m.out + 1) = m.out + 1 := IntWalk.i64_in _ (by omega)
       obtain ⟨us, hus⟩ := HJ.out.2.2.2
       obtain ⟨b, o, B, kk, d, hA, k0, k1, hx, hbin, hn, hul, hnc, hcm, hbl, hrest⟩ := ws_first hus
       obtain ⟨q, hq⟩ : ∃ q, l.length = q := ⟨_, rfl⟩
       rw [hq] at hn hrest
       have hjn : m.jn = q + 1 := hn
       have HC4 := Lib.hid (fun W (h : Below wr.heap.size wr W) => cloneJ_any (some ⟨b, o + 2, none⟩) q (m.jc - 1) (us.drop 2) l W (hrest.below h) (by simp at hjl; omega))
       have HC5 := Lib.hid (fun W (h : Below wr.heap.size wr W) (hq0 : q + 1 ≤ 1) => cloneJ_any (some ⟨b, o, none⟩) q 0 (us.drop 2) l W ⟨.inl (List.eq_nil_of_length_eq_zero (by have := hrest.2.1; omega)), hrest.2.1, by omega, by simp [maxLen], hrest.2.2.2.2.below h⟩ (by omega))
       have hA' : m.ja = some ⟨b, o, none⟩ := hA
       have hjc : q + 1 ≤ m.jc := by have : m.jn ≤ m.jc := hnc; omega
       have hjm : m.jc ≤ 9223372036854775807 := by have : m.jc ≤ maxLen := hcm; unfold maxLen at this; omega
       rw [hA', hjn] at c39
       have HUS := Lib.hid hus
       have HX := Lib.hid hx
       have HBIN := Lib.hid hbin
       have HQL := Lib.hid hq
       clear hR1 hc hRR hus hx hbin hn hul hnc hcm hrest hA hA' hjn hq
       obtain ⟨W5, hW5⟩ : ∃ W, W = wr.alloc (.cells #[.int .i64 x.1, .slice B kk d] 60) := ⟨_, rfl⟩
       have b5 : Below wr.heap.size wr W5 := by rw [hW5]; exact (below_self wr).alloc (Nat.le_refl _) _
       have q5 : Hid (W5.heap[wr.heap.size]? = some (.cells #[.int .i64 x.1, .slice B kk d] 60 (0, 0))) := by rw [hW5]; exact Lib.hid (drw_at _ rfl)
       have S5 := Lib.hid (SY.out.up b5)
       obtain ⟨⟨d0, d1, d2, d3, d4⟩, ⟨d37, d38, d39, d40, d41, d76, d77⟩, gz⟩ := S5.out.j.cells S5.out.z
       replace d39 := (World.cell?_of_block (b5.block _ SY.out.j.lt)).trans c39
       have HW5 := Lib.hid hW5
       clear hW5 c0 c1 c2 c3 c4 c37 c40 c41 c76 c77
       go_wp2_with (rw [← HW5.out])
       all_goals
        first
         | refine (HC4.out W5 b5).mono ?_
         | refine (HC5.out W5 b5 (by omega)).mono ?_
        rintro e w6 ⟨A6, c6, rfl, o6, b6⟩
        have S6 := Lib.hid (S5.out.up b6)
        have O6 := Lib.hid o6
        have q6 := Lib.hid (drw_up q5.out b6)
        have HB6 := Lib.hid (And.intro b5 b6)
        have z6 := Lib.hid (ZY.out.up (below_then b5 b6))
        clear k0 k1 c38 c39 fz
        obtain ⟨⟨c0, c1, c2, c3, c4⟩, ⟨c37, c38, c39, c40, c41, c76, c77⟩, fz⟩ := S6.out.j.cells S6.out.z
        obtain ⟨m2, Y2, HM2, HY2, S2⟩ := ((S6.out.s39 A6 q c6).s40 (m.out + 1)).named
        have hne : w.heap.size ≠ wr.heap.size := by have := SY.out.j.lt; omega
        have hqY : Y2.heap[wr.heap.size]? = some (.cells #[.int .i64 x.1, .slice B kk d] 60 (0, 0)) := by rw [HY2.out]; exact (setc_rowO hne).trans ((setc_rowO hne).trans q6.out)
        have hz2 : JbZ Y2 (w.heap.size + 2) := by rw [HY2.out]; exact (z6.out.far (by omega)).far (by omega)
        have HQY := Lib.hid hqY
        have Z2 := Lib.hid hz2
        have HNE := Lib.hid hsz
        clear hqY hz2 hne o6 b6 b5 d0 d1 d2 d3 d4 d37 d38 d39 d40 d41 d76 d77 gz
        go_wp2_with fail
        rw [← HY2.out]
        refine wp_region_seg (S := fun w' => JmAt w' w.heap.size m2 ∧ w'.heap[wr.heap.size]? = some (.cells #[.int .i64 x.1, .slice B kk d] 60 (0, 0))) 0 (brw9 6 63) [(0, true), (1, true), (2, false), (3, false), (4, true), (5, true)] (by kernel_rfl) (by kernel_rfl) (fun _ _ d _ _ h => by first | (cases d <;> exact h) | cases h.1) (And.intro S2.out.j HQY.out) ?_
        have HB := And.intro S2.out.j HQY.out
        refine seg_take (v := .agg (jmV m2).toArray) rfl (Or.inl ⟨by rfl, fun w' hw' => ?_⟩) ?_
        focus (exact rex_load rfl rfl (jm_run hw'.1 S2.out.z))
        try simp only [Act.put, pst3]
        refine seg_take (v := .agg #[.int .i64 x.1, .slice B kk d]) rfl (Or.inl ⟨by rfl, fun w' hw' => ?_⟩) ?_
        focus (exact rex_load rfl rfl (jb_run hw'.2))
        try simp only [Act.put, pst3]
        refine seg_run rfl (fun K hK => ?_)
        rw [if_pos (by rfl)]
        refine op_jmst (h := w.heap.size + 1) S2.out.z jmZ_z _ _ rfl rfl rfl S2.out.o ?_
        intro X zX qX bX nX
        have HB := And.intro ((nX _ (by omega)).trans HB.1) ((nX _ (by have := HNE.out; omega)).trans HB.2)
        refine hK.out _ _ (HB) ?_
        clear hK
        try simp only [Act.put, pst3]
        refine seg_run rfl (fun K hK => ?_)
        rw [if_pos (by rfl)]
        have z0 : JbZ X (w.heap.size + 2) := (nX _ (by omega)).trans Z2.out
        refine op_jbst (g := w.heap.size + 2) _ _ rfl rfl x.1 B kk d rfl z0 ?_
        intro X2 zX2 qZ bX2 nX2
        have HB := And.intro ((nX2 _ (by omega)).trans HB.1) ((nX2 _ (by have := HNE.out; omega)).trans HB.2)
        refine hK.out _ _ (HB) ?_
        clear hK
        try simp only [Act.put, pst3]
        iterate 2 (refine seg_take (v := ?_) rfl (Or.inl ⟨by rfl, ?_⟩) ?_; rotate_left; (focus (intro w' hw'; go_simp <;> with_reducible rfl)); try simp only [Act.put, pst3])
        refine seg_done (fun _ => ?_)
        refine wpAnyH_done (by kernel_rfl) ?_ _
        skip
        go_wp2_with fail
        try rw [Exit.noGoto_ret]
        have qX2 : JmAt X2 (w.heap.size + 1) m2 := (nX2 _ (by omega)).trans qX
        refine bodyPost_ret (dresults4 Tryz.results17 _ _ (w.heap.size + 1) (w.heap.size + 2) 36 60 _ _ (0, 0) (0, 0) _ _ rfl qX2 Tryz.underlying36 rfl (jm_info S2.out.z) rfl qZ Tryz.underlying60 rfl (jb_info _ _ _ _)) rfl ?_
        have bF := (S2.out.b.drew.trans (bX w.heap.size (by omega))).trans (bX2 w.heap.size (by omega))
        have hsz := HNE.out
        have h56 := below_then HB6.out.1 HB6.out.2
        have hQ : ∀ j, PQ P w j → j < w.heap.size + 3 := fun j hj => by
         rcases hj with h | h
         ·have := HP.out j h; omega
         ·omega
        have hws : WsIn (PQ P w) w6 A6 q c6 l := ws_rest HUS.out h56 O6.out (fun j hj => by have := hQ j hj; have := HB6.out.1.size; omega)
        have hag0 : AgrP (PQ P w) w6 Y2 := by rw [HY2.out]; exact ((AgrP.refl _ w6).set (.inr ⟨by omega, by omega⟩) _).set (.inr ⟨by omega, by omega⟩) _
        have hag : AgrP (PQ P w) w6 X2 := (hag0.one (.inr ⟨by omega, by omega⟩) zX nX).one (.inr ⟨by omega, by omega⟩) zX2 nX2
        have hbx := ((HBIN.out.below h56).agr hag).sub (P' := P) (fun j hj => .inl hj)
        have hj2 := ((HJ.out.below h56).agr hag).sub (P' := P) (fun j hj => .inl hj)
        have hwx := (hws.agr hag).sub (P' := P) (fun j hj => .inl hj)
        refine ask_end (x := x) HR1.out ?_ hbx HX.out bF
        rw [← HM2.out]
        exact JIn.jb hj2 ⟨hj2.1.g, hj2.1.slot, hj2.1.next, hj2.1.done, hj2.1.will, hj2.1.ch, hj2.1.ph, (show -9223372036854775808 ≤ m.out + 1 ∧ m.out + 1 ≤ 9223372036854775807 by omega), hj2.1.sg, hj2.1.ss, hj2.1.sl, hj2.1.sD, hj2.1.room, hj2.1.err⟩ ⟨rfl, rfl, rfl⟩ hwx
     ·skip
      rw [hc] at c38
      cases jl with
      | nil =>
       replace c39 := jn_c39 HJ.out c39
       by_cases ho : 0 < m.out
       ·have d2 : decide ((0 : Int) < m.out) = true := decide_eq_true ho
        have hR1 : R = (m.of wl [], (0, []), false, false) := by rw [← HRR.out]; exact ask_out hc' ho
        have HR1 := Lib.hid hR1
        clear hR1 hc ho hRR
        go_wp2_with (first | (refine jm_load SY.out.z rfl _ rfl rfl SY.out.j ?_) | (refine jm_store SY.out.z jmZ_z rfl _ _ rfl rfl rfl SY.out.o ?_; intro X zX qX bX nX; have z0 : Hid (JbZ X (w.heap.size + 1 + 1)) := Lib.hid ((nX _ (by omega)).trans ZY.out)) | (refine jb_store rfl _ _ rfl rfl 0 none 0 0 rfl z0.out ?_; intro X2 zX2 qZ bX2 nX2))
        try rw [Exit.noGoto_ret]
        have qX2 : JmAt X2 (w.heap.size + 1) m := (nX2 _ (by omega)).trans qX
        refine bodyPost_ret (dresults4 Tryz.results17 _ _ (w.heap.size + 1) (w.heap.size + 2) 36 60 _ _ (0, 0) (0, 0) _ _ rfl qX2 Tryz.underlying36 rfl (jm_info SY.out.z) rfl qZ Tryz.underlying60 rfl (jb_info _ _ _ _)) rfl ?_
        have bF := (SY.out.b.trans (bX w.heap.size (by omega))).trans (bX2 w.heap.size (by omega))
        have hag : AgrP (PQ P w) wr X2 := ((AgrP.refl _ wr).one (.inr ⟨by omega, by omega⟩) zX nX).one (.inr ⟨by omega, by omega⟩) zX2 nX2
        exact ask_end (x := (0, [])) (HR1.out) ((HJ.out.agr hag).sub (fun j hj => .inl hj)) (bin_nil P _) (by decide) bF
       ·have ho1 : m.out = 0 := by omega
        have hR1 : R = (({ m with ph := m.ph + 1, out := 1 } : Jm).of wl [], (0, []), true, true) := by rw [← HRR.out]; exact ask_fl hc' ho
        have HR1 := Lib.hid hR1
        have hc1 : m.ph + 1 = 6 := by omega
        rw [ho1] at c40
        have HC1 := Lib.hid hc1
        clear hR1 hc ho ho1 hRR hc1
        obtain ⟨m2, Y2, HM2, HY2, S2⟩ := ((SY.out.s38 6).s40 1).named
        have hz2 : JbZ Y2 (w.heap.size + 2) := by rw [HY2.out]; exact (ZY.out.far (by omega)).far (by omega)
        have Z2 := Lib.hid hz2
        clear hz2
        go_wp2_with (first | (rw [← HY2.out]; refine jm_load S2.out.z rfl _ rfl rfl S2.out.j ?_) | (refine jm_store S2.out.z jmZ_z rfl _ _ rfl rfl rfl S2.out.o ?_; intro X zX qX bX nX; have z0 : Hid (JbZ X (w.heap.size + 1 + 1)) := Lib.hid ((nX _ (by omega)).trans Z2.out)) | (refine jb_store rfl _ _ rfl rfl 0 none 0 0 rfl z0.out ?_; intro X2 zX2 qZ bX2 nX2))
        try rw [Exit.noGoto_ret]
        have qX2 : JmAt X2 (w.heap.size + 1) m2 := (nX2 _ (by omega)).trans qX
        refine bodyPost_ret (dresults4 Tryz.results17 _ _ (w.heap.size + 1) (w.heap.size + 2) 36 60 _ _ (0, 0) (0, 0) _ _ rfl qX2 Tryz.underlying36 rfl (jm_info S2.out.z) rfl qZ Tryz.underlying60 rfl (jb_info _ _ _ _)) rfl ?_
        have bF := (S2.out.b.trans (bX w.heap.size (by omega))).trans (bX2 w.heap.size (by omega))
        have hag0 : AgrP (PQ P w) wr Y2 := by rw [HY2.out]; exact ((AgrP.refl _ wr).set (.inr ⟨by omega, by omega⟩) _).set (.inr ⟨by omega, by omega⟩) _
        have hag : AgrP (PQ P w) wr X2 := (hag0.one (.inr ⟨by omega, by omega⟩) zX nX).one (.inr ⟨by omega, by omega⟩) zX2 nX2
        refine ask_end (x := (0, [])) HR1.out ?_ (bin_nil P _) (by decide) bF
        rw [← HM2.out, HC1.out]
        have hj2 := (HJ.out.agr hag).sub (P' := P) (fun j hj => .inl hj)
        exact JIn.num hj2 ⟨hj2.1.g, hj2.1.slot, hj2.1.next, hj2.1.done, hj2.1.will, hj2.1.ch, (show -9223372036854775808 ≤ (6 : Int) ∧ (6 : Int) ≤ 9223372036854775807 by omega), (show -9223372036854775808 ≤ (1 : Int) ∧ (1 : Int) ≤ 9223372036854775807 by omega), hj2.1.sg, hj2.1.ss, hj2.1.sl, hj2.1.sD, hj2.1.room, hj2.1.err⟩ ⟨rfl, rfl, rfl, rfl, rfl, rfl⟩
      | cons x l =>
       have hR1 : R = (({ m with out := m.out + 1 } : Jm).of wl l, x, false, true) := by rw [← HRR.out]; exact ask_job hc'
       have HR1 := Lib.hid hR1
       have wo : IntKind.i64.wrap (m.out + 1) = m.out + 1 := IntWalk.i64_in _ (by omega)
       obtain ⟨us, hus⟩ := HJ.out.2.2.2
       obtain ⟨b, o, B, kk, d, hA, k0, k1, hx, hbin, hn, hul, hnc, hcm, hbl, hrest⟩ := ws_first hus
       obtain ⟨q, hq⟩ : ∃ q, l.length = q := ⟨_, rfl⟩
       rw [hq] at hn hrest
       have hjn : m.jn = q + 1 := hn
       have HC4 := Lib.hid (fun W (h : Below wr.heap.size wr W) => cloneJ_any (some ⟨b, o + 2, none⟩) q (m.jc - 1) (us.drop 2) l W (hrest.below h) (by simp at hjl; omega))
       have HC5 := Lib.hid (fun W (h : Below wr.heap.size wr W) (hq0 : q + 1 ≤ 1) => cloneJ_any (some ⟨b, o, none⟩) q 0 (us.drop 2) l W ⟨.inl (List.eq_nil_of_length_eq_zero (by have := hrest.2.1; omega)), hrest.2.1, by omega, by simp [maxLen], hrest.2.2.2.2.below h⟩ (by omega))
       have hA' : m.ja = some ⟨b, o, none⟩ := hA
       have hjc : q + 1 ≤ m.jc := by have : m.jn ≤ m.jc := hnc; omega
       have hjm : m.jc ≤ 9223372036854775807 := by have : m.jc ≤ maxLen := hcm; unfold maxLen at this; omega
       rw [hA', hjn] at c39
       have HUS := Lib.hid hus
       have HX := Lib.hid hx
       have HBIN := Lib.hid hbin
       have HQL := Lib.hid hq
       clear hR1 hc hRR hus hx hbin hn hul hnc hcm hrest hA hA' hjn hq
       obtain ⟨W5, hW5⟩ : ∃ W, W = wr.alloc (.cells #[.int .i64 x.1, .slice B kk d] 60) := ⟨_, rfl⟩
       have b5 : Below wr.heap.size wr W5 := by rw [hW5]; exact (below_self wr).alloc (Nat.le_refl _) _
       have q5 : Hid (W5.heap[wr.heap.size]? = some (.cells #[.int .i64 x.1, .slice B kk d] 60 (0, 0))) := by rw [hW5]; exact Lib.hid (drw_at _ rfl)
       have S5 := Lib.hid (SY.out.up b5)
       obtain ⟨⟨d0, d1, d2, d3, d4⟩, ⟨d37, d38, d39, d40, d41, d76, d77⟩, gz⟩ := S5.out.j.cells S5.out.z
       replace d39 := (World.cell?_of_block (b5.block _ SY.out.j.lt)).trans c39
       have HW5 := Lib.hid hW5
       clear hW5 c0 c1 c2 c3 c4 c37 c40 c41 c76 c77
       go_wp2_with (rw [← HW5.out])
       all_goals
        first
         | refine (HC4.out W5 b5).mono ?_
         | refine (HC5.out W5 b5 (by omega)).mono ?_
        rintro e w6 ⟨A6, c6, rfl, o6, b6⟩
        have S6 := Lib.hid (S5.out.up b6)
        have O6 := Lib.hid o6
        have q6 := Lib.hid (drw_up q5.out b6)
        have HB6 := Lib.hid (And.intro b5 b6)
        have z6 := Lib.hid (ZY.out.up (below_then b5 b6))
        clear k0 k1 c38 c39 fz
        obtain ⟨⟨c0, c1, c2, c3, c4⟩, ⟨c37, c38, c39, c40, c41, c76, c77⟩, fz⟩ := S6.out.j.cells S6.out.z
        obtain ⟨m2, Y2, HM2, HY2, S2⟩ := ((S6.out.s39 A6 q c6).s40 (m.out + 1)).named
        have hne : w.heap.size ≠ wr.heap.size := by have := SY.out.j.lt; omega
        have hqY : Y2.heap[wr.heap.size]? = some (.cells #[.int .i64 x.1, .slice B kk d] 60 (0, 0)) := by rw [HY2.out]; exact (setc_rowO hne).trans ((setc_rowO hne).trans q6.out)
        have hz2 : JbZ Y2 (w.heap.size + 2) := by rw [HY2.out]; exact (z6.out.far (by omega)).far (by omega)
        have HQY := Lib.hid hqY
        have Z2 := Lib.hid hz2
        have HNE := Lib.hid hsz
        clear hqY hz2 hne o6 b6 b5 d0 d1 d2 d3 d4 d37 d38 d39 d40 d41 d76 d77 gz
        go_wp2_with fail
        rw [← HY2.out]
        refine wp_region_seg (S := fun w' => JmAt w' w.heap.size m2 ∧ w'.heap[wr.heap.size]? = some (.cells #[.int .i64 x.1, .slice B kk d] 60 (0, 0))) 0 (brw9 6 63) [(0, true), (1, true), (2, false), (3, false), (4, true), (5, true)] (by kernel_rfl) (by kernel_rfl) (fun _ _ d _ _ h => by first | (cases d <;> exact h) | cases h.1) (And.intro S2.out.j HQY.out) ?_
        have HB := And.intro S2.out.j HQY.out
        refine seg_take (v := .agg (jmV m2).toArray) rfl (Or.inl ⟨by rfl, fun w' hw' => ?_⟩) ?_
        focus (exact rex_load rfl rfl (jm_run hw'.1 S2.out.z))
        try simp only [Act.put, pst3]
        refine seg_take (v := .agg #[.int .i64 x.1, .slice B kk d]) rfl (Or.inl ⟨by rfl, fun w' hw' => ?_⟩) ?_
        focus (exact rex_load rfl rfl (jb_run hw'.2))
        try simp only [Act.put, pst3]
        refine seg_run rfl (fun K hK => ?_)
        rw [if_pos (by rfl)]
        refine op_jmst (h := w.heap.size + 1) S2.out.z jmZ_z _ _ rfl rfl rfl S2.out.o ?_
        intro X zX qX bX nX
        have HB := And.intro ((nX _ (by omega)).trans HB.1) ((nX _ (by have := HNE.out; omega)).trans HB.2)
        refine hK.out _ _ (HB) ?_
        clear hK
        try simp only [Act.put, pst3]
        refine seg_run rfl (fun K hK => ?_)
        rw [if_pos (by rfl)]
        have z0 : JbZ X (w.heap.size + 2) := (nX _ (by omega)).trans Z2.out
        refine op_jbst (g := w.heap.size + 2) _ _ rfl rfl x.1 B kk d rfl z0 ?_
        intro X2 zX2 qZ bX2 nX2
        have HB := And.intro ((nX2 _ (by omega)).trans HB.1) ((nX2 _ (by have := HNE.out; omega)).trans HB.2)
        refine hK.out _ _ (HB) ?_
        clear hK
        try simp only [Act.put, pst3]
        iterate 2 (refine seg_take (v := ?_) rfl (Or.inl ⟨by rfl, ?_⟩) ?_; rotate_left; (focus (intro w' hw'; go_simp <;> with_reducible rfl)); try simp only [Act.put, pst3])
        refine seg_done (fun _ => ?_)
        refine wpAnyH_done (by kernel_rfl) ?_ _
        skip
        go_wp2_with fail
        try rw [Exit.noGoto_ret]
        have qX2 : JmAt X2 (w.heap.size + 1) m2 := (nX2 _ (by omega)).trans qX
        refine bodyPost_ret (dresults4 Tryz.results17 _ _ (w.heap.size + 1) (w.heap.size + 2) 36 60 _ _ (0, 0) (0, 0) _ _ rfl qX2 Tryz.underlying36 rfl (jm_info S2.out.z) rfl qZ Tryz.underlying60 rfl (jb_info _ _ _ _)) rfl ?_
        have bF := (S2.out.b.drew.trans (bX w.heap.size (by omega))).trans (bX2 w.heap.size (by omega))
        have hsz := HNE.out
        have h56 := below_then HB6.out.1 HB6.out.2
        have hQ : ∀ j, PQ P w j → j < w.heap.size + 3 := fun j hj => by
         rcases hj with h | h
         ·have := HP.out j h; omega
         ·omega
        have hws : WsIn (PQ P w) w6 A6 q c6 l := ws_rest HUS.out h56 O6.out (fun j hj => by have := hQ j hj; have := HB6.out.1.size; omega)
        have hag0 : AgrP (PQ P w) w6 Y2 := by rw [HY2.out]; exact ((AgrP.refl _ w6).set (.inr ⟨by omega, by omega⟩) _).set (.inr ⟨by omega, by omega⟩) _
        have hag : AgrP (PQ P w) w6 X2 := (hag0.one (.inr ⟨by omega, by omega⟩) zX nX).one (.inr ⟨by omega, by omega⟩) zX2 nX2
        have hbx := ((HBIN.out.below h56).agr hag).sub (P' := P) (fun j hj => .inl hj)
        have hj2 := ((HJ.out.below h56).agr hag).sub (P' := P) (fun j hj => .inl hj)
        have hwx := (hws.agr hag).sub (P' := P) (fun j hj => .inl hj)
        refine ask_end (x := x) HR1.out ?_ hbx HX.out bF
        rw [← HM2.out]
        exact JIn.jb hj2 ⟨hj2.1.g, hj2.1.slot, hj2.1.next, hj2.1.done, hj2.1.will, hj2.1.ch, hj2.1.ph, (show -9223372036854775808 ≤ m.out + 1 ∧ m.out + 1 ≤ 9223372036854775807 by omega), hj2.1.sg, hj2.1.ss, hj2.1.sl, hj2.1.sD, hj2.1.room, hj2.1.err⟩ ⟨rfl, rfl, rfl⟩ hwx
    ·have p0 : (m.ph == 0) = false := beq_eq_false_iff_ne.2 h0
     have p1 : (m.ph == 1) = false := beq_eq_false_iff_ne.2 (fun h => h1 (.inl h))
     have p3 : (m.ph == 3) = false := beq_eq_false_iff_ne.2 (fun h => h1 (.inr (.inl h)))
     have p5 : (m.ph == 5) = false := beq_eq_false_iff_ne.2 (fun h => h1 (.inr (.inr h)))
     have hR1 : R = (m.of wl jl, (0, []), false, false) := by rw [← HRR.out]; exact ask_rest h0 h1
     have HR1 := Lib.hid hR1
     clear hR1 hRR h0 h1
     go_wp2_with (first | (refine jm_load SY.out.z rfl _ rfl rfl SY.out.j ?_) | (refine jm_store SY.out.z jmZ_z rfl _ _ rfl rfl rfl SY.out.o ?_; intro X zX qX bX nX; have z0 : Hid (JbZ X (w.heap.size + 1 + 1)) := Lib.hid ((nX _ (by omega)).trans ZY.out)) | (refine jb_store rfl _ _ rfl rfl 0 none 0 0 rfl z0.out ?_; intro X2 zX2 qZ bX2 nX2))
     try rw [Exit.noGoto_ret]
     have qX2 : JmAt X2 (w.heap.size + 1) m := (nX2 _ (by omega)).trans qX
     refine bodyPost_ret (dresults4 Tryz.results17 _ _ (w.heap.size + 1) (w.heap.size + 2) 36 60 _ _ (0, 0) (0, 0) _ _ rfl qX2 Tryz.underlying36 rfl (jm_info SY.out.z) rfl qZ Tryz.underlying60 rfl (jb_info _ _ _ _)) rfl ?_
     have bF := (SY.out.b.trans (bX w.heap.size (by omega))).trans (bX2 w.heap.size (by omega))
     have hag : AgrP (PQ P w) wr X2 := ((AgrP.refl _ wr).one (.inr ⟨by omega, by omega⟩) zX nX).one (.inr ⟨by omega, by omega⟩) zX2 nX2
     exact ask_end (x := (0, [])) (HR1.out) ((HJ.out.agr hag).sub (fun j hj => .inl hj)) (bin_nil P _) (by decide) bF
end Go.Proofs.YtpahicfnhhhifaaGreat
