/-
 Proved here, for the statement JournalBurst:
 Layer 14: the laws' play: a state is saved.
 Layer 14: the laws' play: an act, whatever it is.
-/
import Derived.Test.YtpahicfnhhhifaaGreatGb29
set_option linter.unusedVariables false
set_option linter.unusedSimpArgs false
namespace Go.Proofs.YtpahicfnhhhifaaGreat
set_option maxRecDepth 20000
open Go.RowKit
set_option maxHeartbeats 8000000
section
variable {base : Nat} {w : World} {g : Nat} {p : Py} {f : Pf}
theorem Pl.growS (h : Pl base w g p f) {w4 : World} (hA : Agr (Blk f.sa) w w4) {su : List Value} (hr : Rows 1 (StE (PlP g f) w) su p.sts) {A : Option Addr} {n c : Nat} {X : Option Addr} {xn xd q1 : Nat} {x : List UInt8}
  (os : w4.ownsRow base 47 1 (.slice A n c) n (su ++ [.slice X xn xd])) (nt : (Value.slice A n c).ownBlock = (Value.slice f.sa f.sn f.sc).ownBlock ∨ (Value.slice A n c).ownBlock = some q1) (h1 : w.heap.size ≤ q1) (hX : BIn (PlP g f) w X xn xd x) :
  Agr (PlP g f) w (w4.setCell ⟨g, 82, none⟩ (.slice A n c)) ∧ (∀ j, PlP g { f with sa := A, sn := n, sc := c } j → PlP g f j ∨ w.heap.size ≤ j) ∧ Pl base (w4.setCell ⟨g, 82, none⟩ (.slice A n c)) g { p with sts := p.sts ++ [x] } { f with sa := A, sn := n, sc := c } := by
 obtain ⟨tu0, t1, t2⟩ := h.t
 obtain ⟨lu0, l1, l2⟩ := h.l
 obtain ⟨su0, s1, s2⟩ := h.s
 obtain ⟨eu, e1, e2⟩ := h.e
 have hA' : Agr (PlP g f) w w4 := hA.sub (fun j hj => .inr (.inr (.inr (.inl hj))))
 have r4 : PlAt w4 g f := h.row.agr hA.p (own_no s1 h.row (by decide))
 have hG : Agr (fun j => j = g) w4 (w4.setCell ⟨g, 82, none⟩ (.slice A n c)) := Agr.cellT _ rfl
 have hA5 := hA'.comp (hG.sub (P' := PlP g f) (fun j hj => .inl hj)) (fun j hj => .inl hj)
 have hAo := (hA.sub (P' := fun j => j = g ∨ Blk f.sa j) (fun j hj => .inr hj)).comp (hG.sub (P' := fun j => j = g ∨ Blk f.sa j) (fun j hj => .inl hj)) (fun j hj => .inl hj)
 have hs : ∀ j, PlP g { f with sa := A, sn := n, sc := c } j → PlP g f j ∨ w.heap.size ≤ j := by
  rintro j (e | hj | hj | hj | hj)
  ·exact .inl (.inl e)
  ·exact .inl (.inr (.inl hj))
  ·exact .inl (.inr (.inr (.inl hj)))
  ·rcases blk_new nt hj with hj | hj
   ·exact .inl (.inr (.inr (.inr (.inl hj))))
   ·exact .inr (by omega)
  ·exact .inl (.inr (.inr (.inr (.inr hj))))
 refine ⟨hA5, hs, h.mk5 hA5 hs (r4.s82 h.z A n c) rfl rfl rfl rfl ⟨tu0, own_to t1 hAo.p ?_, t2.imp fun _ _ x => x.to hA5.p hs⟩ ⟨lu0, own_to l1 hAo.p ?_, l2⟩ ⟨_, own_to os hG.p (fun j hj e => own_no os r4 (by decide) (blk_own.1 (e ▸ hj))), ?_⟩ ⟨eu, own_to e1 hAo.p ?_, e2.imp fun _ _ x => x.to hA5.p hs⟩⟩
 ·intro j hj hh
  have hj := blk_own.1 hj
  rcases hh with e | hh
  ·subst e; exact own_no t1 h.row (by decide) hj
  ·exact own_apart t1 s1 (by decide) hj hh
 ·intro j hj hh
  have hj := blk_own.1 hj
  rcases hh with e | hh
  ·subst e; exact own_no l1 h.row (by decide) hj
  ·exact own_apart l1 s1 (by decide) hj hh
 ·exact Rows.app (Rows.mk1 (K := 1) (E := StE _ _) (x := x) rfl (by simp [Value.oneCell']) ⟨X, xn, xd, rfl, hX.to hA5.p hs⟩) (hr.imp fun _ _ x => x.to hA5.p hs)
 ·intro j hj hh
  have hj := blk_own.1 hj
  rcases hh with e | hh
  ·subst e; exact own_no e1 h.row (by decide) hj
  ·exact own_apart e1 s1 (by decide) hj hh
theorem Pl.growE (h : Pl base w g p f) {w4 : World} (hA : Agr (Blk f.ea) w w4) {eu : List Value} (hr : Rows 1 (EsE (PlP g f) w) eu p.evs) {A : Option Addr} {n c : Nat} {q1 : Nat}
  (os : w4.ownsRow base 87 1 (.slice A n c) n (eu ++ [.slice none 0 0])) (nt : (Value.slice A n c).ownBlock = (Value.slice f.ea f.en f.ec).ownBlock ∨ (Value.slice A n c).ownBlock = some q1) (h1 : w.heap.size ≤ q1) :
  Agr (PlP g f) w (w4.setCell ⟨g, 83, none⟩ (.slice A n c)) ∧ (∀ j, PlP g { f with ea := A, en := n, ec := c } j → PlP g f j ∨ w.heap.size ≤ j) ∧ Pl base (w4.setCell ⟨g, 83, none⟩ (.slice A n c)) g { p with evs := p.evs ++ [[]] } { f with ea := A, en := n, ec := c } := by
 obtain ⟨tu0, t1, t2⟩ := h.t
 obtain ⟨lu0, l1, l2⟩ := h.l
 obtain ⟨su0, s1, s2⟩ := h.s
 obtain ⟨eu0, e1, e2⟩ := h.e
 have hA' : Agr (PlP g f) w w4 := hA.sub (fun j hj => .inr (.inr (.inr (.inr hj))))
 have r4 : PlAt w4 g f := h.row.agr hA.p (own_no e1 h.row (by decide))
 have hG : Agr (fun j => j = g) w4 (w4.setCell ⟨g, 83, none⟩ (.slice A n c)) := Agr.cellT _ rfl
 have hA5 := hA'.comp (hG.sub (P' := PlP g f) (fun j hj => .inl hj)) (fun j hj => .inl hj)
 have hAo := (hA.sub (P' := fun j => j = g ∨ Blk f.ea j) (fun j hj => .inr hj)).comp (hG.sub (P' := fun j => j = g ∨ Blk f.ea j) (fun j hj => .inl hj)) (fun j hj => .inl hj)
 have hs : ∀ j, PlP g { f with ea := A, en := n, ec := c } j → PlP g f j ∨ w.heap.size ≤ j := by
  rintro j (e | hj | hj | hj | hj)
  ·exact .inl (.inl e)
  ·exact .inl (.inr (.inl hj))
  ·exact .inl (.inr (.inr (.inl hj)))
  ·exact .inl (.inr (.inr (.inr (.inl hj))))
  ·rcases blk_new nt hj with hj | hj
   ·exact .inl (.inr (.inr (.inr (.inr hj))))
   ·exact .inr (by omega)
 refine ⟨hA5, hs, h.mk5 hA5 hs (r4.s83 h.z A n c) rfl rfl rfl rfl ⟨tu0, own_to t1 hAo.p ?_, t2.imp fun _ _ x => x.to hA5.p hs⟩ ⟨lu0, own_to l1 hAo.p ?_, l2⟩ ⟨su0, own_to s1 hAo.p ?_, s2.imp fun _ _ x => x.to hA5.p hs⟩ ⟨_, own_to os hG.p (fun j hj e => own_no os r4 (by decide) (blk_own.1 (e ▸ hj))), ?_⟩⟩
 ·intro j hj hh
  have hj := blk_own.1 hj
  rcases hh with e | hh
  ·subst e; exact own_no t1 h.row (by decide) hj
  ·exact own_apart t1 e1 (by decide) hj hh
 ·intro j hj hh
  have hj := blk_own.1 hj
  rcases hh with e | hh
  ·subst e; exact own_no l1 h.row (by decide) hj
  ·exact own_apart l1 e1 (by decide) hj hh
 ·intro j hj hh
  have hj := blk_own.1 hj
  rcases hh with e | hh
  ·subst e; exact own_no s1 h.row (by decide) hj
  ·exact own_apart s1 e1 (by decide) hj hh
 ·exact Rows.app (Rows.mk1 (K := 1) (E := EsE _ _) (x := []) rfl (by simp [Value.oneCell']) ⟨none, 0, 0, rfl, [], fun W _ => .inl rfl, rfl, Nat.le_refl _, by simp [maxLen], rfl⟩) (hr.imp fun _ _ x => x.to hA5.p hs)
end
theorem wp_appQ {P : Program} {t e : TypeId} {z : Value} {K bytes : Nat} (he : ElemK P t e z K bytes) (hb0 : bytes ≤ 1000) {ops : Array Oper} {rest : List Oper} {o : Oper} {a : Act} {w : World} {Q : Exit → Act → World → Prop} (hgd : o.guard = none) (s x : Operand)
  (ho : o.op = .call { callee := .builtin .append, args := #[s, x], argTypes := #[t, t] }) (base : Nat) (v : Value) (n : Nat) (xs : List Value) (hs : a.eval s = v) (hown : w.ownsRow base e K v n xs)
  (A : Option Addr) (m c : Nat) (news : List Value) (hx : a.eval x = .slice A m c) (hr : Rd w A news) (hm : news.length = m * K) (h1 : ∀ u ∈ news, u.oneCell' = true) (h63 : n + m ≤ 100000000) (hbase : base ≤ w.heap.size) (k : Nat) (zs : List Value) (hk : n + m = k) (hz : xs ++ news = zs)
  (h : ∀ A' c' w', w'.ownsRow base e K (.slice A' k c') k zs → w.grownBy w' v.ownBlock → ((Value.slice A' k c').ownBlock = v.ownBlock ∨ (Value.slice A' k c').ownBlock = some w.heap.size) → wpList P ops Q rest (a.put o.dst (.slice A' k c')) w') : wpList P ops Q (o :: rest) a w :=
 wpList_plain hgd fun K hK => op_appQ he hb0 s x ho base v n xs hs hown A m c news hx hr hm h1 h63 hbase k zs hk hz (fun A' c' w' a b c => hK _ _ (h A' c' w' a b c))
theorem pySave_yes2 (p : Py) (s : List UInt8) (h : jnSaveE p.J s = 0) : pySave p s = { p with J := jnSave p.J s, sts := p.sts ++ [s], evs := p.evs ++ [[]] } := by unfold pySave; rw [if_pos h, if_pos h]
theorem do_save1 (n : Nat) (base g : Nat) (p : Py) (f : Pf) (a : Ac) (A : Option Addr) (na c : Nat) (B : Option Addr) (nb d : Nat) (w : World) (hI : PyI n p) (h : Pl base w g p f) (ha : a.ok) (hk : a.k = 3) (hb : base ≤ w.heap.size)
  (hA : BIn (fun j => base ≤ j) w A na c a.e.b) (hB : BIn (fun j => base ≤ j) w B nb d a.s) (hE : jnSaveE p.J a.s = 0) (hG : p.J.g ≤ 100000) :
  Calls Tryz.prog 12 #[.pointer (some ⟨g, 0, none⟩), .agg (acV a A na c B nb d)] w (RetPl base g w (pySave p a.s) true) := by
 obtain ⟨V, hV⟩ : ∃ V, V = w.alloc (.cells (acV a A na c B nb d) 51) := ⟨_, rfl⟩
 have bV : Below w.heap.size w V := by rw [hV]; exact (below_self w).alloc (Nat.le_refl _) _
 have PV := Lib.hid (h.below bV)
 have qa : V.heap[w.heap.size]? = some (.cells (acV a A na c B nb d) 51 (0, 0)) := by rw [hV]; exact drw_at _ rfl
 have k0 := (cell_of_row V w.heap.size 0 _ _ _ qa).trans (show _ = some (.int .i64 a.k) from rfl)
 have k6 := (cell_of_row V w.heap.size 6 _ _ _ qa).trans (show _ = some (.slice B nb d) from rfl)
 rw [hk] at k0
 have QA := Lib.hid qa
 clear qa
 have hg := h.row.lt
 have hPV : ∀ j, PlP g f j → j < V.heap.size := fun j hj => (PV.out.base_ j hj).2
 have HV := Lib.hid hV
 clear hV
 go_enter Tryz.func12, Tryz.ntmps12
 go_wp2_with (first | (rw [← HV.out]) | (refine pl_loadJ rfl _ rfl rfl PV.out.row PV.out.z ?_))
 have HJ : Hid (∀ W, Below V.heap.size V W → Calls Tryz.prog 22 #[.agg (jmV f.m).toArray, .slice B nb d] W (RetJ (PNew (PlP g f) V W) W (jnSave p.J a.s) 0)) := Lib.hid (fun W hW => by
  have hh := jrnSave_any (PNew (PlP g f) V W) f.m p.J B nb d a.s W (PV.out.j.to (below_agr hW _) (fun j hj => hj.imp_right And.left)) (fun j hj => by rcases hj with hj | hj; (have := hPV j hj; have := hW.size; omega); exact hj.2) ((hB.below bV).below hW).now
  rw [hE] at hh
  exact hh)
 have hgV : g < V.heap.size := PV.out.row.lt
 have BV := Lib.hid bV
 apply cut3 (R := fun X m q => Hid (JmAt X q m) ∧ Hid (JIn (PlP g f) X m (jnSave p.J a.s)) ∧ V.heap.size ≤ q ∧ Below V.heap.size V X)
 rotate_left
 ·intro TL
  refine wp_region_seg (S := fun w' => Below V.heap.size V w') 7 (brw9 13 63) [(0, true), (1, true), (2, true), (3, true), (4, true), (5, true)] (by kernel_rfl) (by kernel_rfl) (fun _ _ d _ _ h => by first | (cases d <;> exact h) | cases h.1) ((Below.refl V.heap.size V).drew) ?_
  have HB := (Below.refl V.heap.size V).drew
  iterate 3 (refine seg_take (v := ?_) rfl (Or.inl ⟨by rfl, ?_⟩) ?_; rotate_left; (focus (intro w' hw'; have k6 := (World.cell?_of_block (hw'.block _ (by have := BV.out.size; have := drw_lt QA.out; omega))).trans k6; go_simp <;> with_reducible rfl)); try simp only [Act.put, pst3])
  refine seg_take (v := .agg (jmV f.m).toArray) rfl (Or.inl ⟨by rfl, fun w' hw' => ?_⟩) ?_
  focus (exact pl_ldJ rfl rfl (PV.out.row.up hw') PV.out.z)
  try simp only [Act.put, pst3]
  iterate 2 (refine seg_take (v := ?_) rfl (Or.inl ⟨by rfl, ?_⟩) ?_; rotate_left; (focus (intro w' hw'; have k6 := (World.cell?_of_block (hw'.block _ (by have := BV.out.size; have := drw_lt QA.out; omega))).trans k6; go_simp <;> with_reducible rfl)); try simp only [Act.put, pst3])
  refine seg_done (fun _ => ?_)
  refine wpAnyH_two (i := 6) (j := 10) (f := 6) (by kernel_rfl) ?_ ?_
  ·skip
   refine op_run rfl (fun K hK => ?_)
   go_simp
   refine (HJ.out _ HB).mono ?_
   rintro e_ wC ⟨m1, rfl, j1, bC⟩
   try have qL := qL.up bC
   try have j1 := j1.sub (P' := fun j => PlP g f j ∨ j = g1) (fun j hj => by rcases hj with hj | hj; exact .inl hj; exact .inr (by omega))
   try have lL := Nat.lt_of_lt_of_le lL bC.size
   have HB := below_then HB bC
   refine hK.out _ _ (HB) ?_
   clear hK
   try simp only [Act.put, pst3]
   refine wpAnyH_seg (by kernel_rfl) (fun _ _ d _ _ h => by first | (cases d <;> exact h) | cases h.1) 0 (brw9 13 8191) [(7, true), (8, true), (9, true), (10, false), (11, false), (12, true)] _ _ _ (by kernel_rfl) (HB) ?_
   iterate 3 (refine seg_take (v := ?_) rfl (Or.inl ⟨by rfl, ?_⟩) ?_; rotate_left; (focus (intro w' hw'; have k6 := (World.cell?_of_block (hw'.block _ (by have := BV.out.size; have := drw_lt QA.out; omega))).trans k6; go_simp <;> with_reducible rfl)); try simp only [Act.put, pst3])
   refine seg_run rfl (fun K hK => ?_)
   rw [if_pos (by rfl)]
   refine op_new Tryz.zeroCells36 36 (fun w => by go_simp) ?_
   intro g1 wL eL hL bL zL
   have qL : JmAt wL g1 jmZ := by rw [jmZ_zero] at hL; exact hL
   have HBz := HB.size
   have hgle : V.heap.size ≤ g1 := by omega
   have lL : g1 < wL.heap.size := by omega
   try have j1 := j1.to (P' := fun j => PlP g f j ∨ j = g1) (below_agr bL _) (fun j hj => by rcases hj with hj | hj; exact .inl (.inl hj); exact .inr (by omega))
   have HB := below_then HB bL
   clear eL hL zL HBz
   refine hK.out _ _ (HB) ?_
   clear hK
   try simp only [Act.put, pst3]
   refine seg_run rfl (fun K hK => ?_)
   rw [if_pos (by rfl)]
   refine op_jmst j1.z jmZ_z _ _ rfl rfl rfl qL ?_
   intro X zX qX bX nX
   have jX := (j1.agr (AgrP.one (AgrP.refl _ _) (r := g1) (Or.inr rfl) zX nX)).sub (P' := PlP g f) (fun j hj => .inl hj)
   have HB := HB.trans (bX _ hgle)
   refine hK.out _ _ (HB) ?_
   clear hK
   try simp only [Act.put, pst3]
   iterate 1 (refine seg_take (v := ?_) rfl (Or.inl ⟨by rfl, ?_⟩) ?_; rotate_left; (focus (intro w' hw'; have k6 := (World.cell?_of_block (hw'.block _ (by have := BV.out.size; have := drw_lt QA.out; omega))).trans k6; go_simp <;> with_reducible rfl)); try simp only [Act.put, pst3])
   refine seg_done (fun _ => ?_)
   refine wpAnyH_done (by kernel_rfl) ?_ _
   exact TL X m1 g1 ⟨Lib.hid qX, Lib.hid jX, hgle, HB⟩
  ·skip
   refine op_run rfl (fun K hK => ?_)
   rw [if_pos (by rfl)]
   refine op_new Tryz.zeroCells36 36 (fun w => by go_simp) ?_
   intro g1 wL eL hL bL zL
   have qL : JmAt wL g1 jmZ := by rw [jmZ_zero] at hL; exact hL
   have HBz := HB.size
   have hgle : V.heap.size ≤ g1 := by omega
   have lL : g1 < wL.heap.size := by omega
   try have j1 := j1.to (P' := fun j => PlP g f j ∨ j = g1) (below_agr bL _) (fun j hj => by rcases hj with hj | hj; exact .inl (.inl hj); exact .inr (by omega))
   have HB := below_then HB bL
   clear eL hL zL HBz
   refine hK.out _ _ (HB) ?_
   clear hK
   try simp only [Act.put, pst3]
   refine wpAnyH_seg (by kernel_rfl) (fun _ _ d _ _ h => by first | (cases d <;> exact h) | cases h.1) 0 (brw9 13 8191) [(6, false), (7, true), (8, true), (9, true), (11, false), (12, true)] _ _ _ (by kernel_rfl) (HB) ?_
   refine seg_run rfl (fun K hK => ?_)
   go_simp
   refine (HJ.out _ HB).mono ?_
   rintro e_ wC ⟨m1, rfl, j1, bC⟩
   try have qL := qL.up bC
   try have j1 := j1.sub (P' := fun j => PlP g f j ∨ j = g1) (fun j hj => by rcases hj with hj | hj; exact .inl hj; exact .inr (by omega))
   try have lL := Nat.lt_of_lt_of_le lL bC.size
   have HB := below_then HB bC
   refine hK.out _ _ (HB) ?_
   clear hK
   try simp only [Act.put, pst3]
   iterate 3 (refine seg_take (v := ?_) rfl (Or.inl ⟨by rfl, ?_⟩) ?_; rotate_left; (focus (intro w' hw'; have k6 := (World.cell?_of_block (hw'.block _ (by have := BV.out.size; have := drw_lt QA.out; omega))).trans k6; go_simp <;> with_reducible rfl)); try simp only [Act.put, pst3])
   refine seg_run rfl (fun K hK => ?_)
   rw [if_pos (by rfl)]
   refine op_jmst j1.z jmZ_z _ _ rfl rfl rfl qL ?_
   intro X zX qX bX nX
   have jX := (j1.agr (AgrP.one (AgrP.refl _ _) (r := g1) (Or.inr rfl) zX nX)).sub (P' := PlP g f) (fun j hj => .inl hj)
   have HB := HB.trans (bX _ hgle)
   refine hK.out _ _ (HB) ?_
   clear hK
   try simp only [Act.put, pst3]
   iterate 1 (refine seg_take (v := ?_) rfl (Or.inl ⟨by rfl, ?_⟩) ?_; rotate_left; (focus (intro w' hw'; have k6 := (World.cell?_of_block (hw'.block _ (by have := BV.out.size; have := drw_lt QA.out; omega))).trans k6; go_simp <;> with_reducible rfl)); try simp only [Act.put, pst3])
   refine seg_done (fun _ => ?_)
   refine wpAnyH_done (by kernel_rfl) ?_ _
   exact TL X m1 g1 ⟨Lib.hid qX, Lib.hid jX, hgle, HB⟩
 rintro X1 m1 q1 ⟨QX, JX, hq, bX⟩
 have PX := Lib.hid (PV.out.below bX)
 obtain ⟨su, s1, s2⟩ := PX.out.s
 have ls := PX.out.lens.2.2.1
 have le := PX.out.lens.2.2.2
 have hg32 := hI.b.g2
 have hsl := hI.b.sl
 have hel := hI.b.el
 have S1 := Lib.hid s1
 have lq1 : q1 < X1.heap.size := QX.out.lt
 have nPq : ¬ PlP g f q1 := fun hp => by have := hPV _ hp; omega
 have ngS : ¬ Blk f.sa g := own_no s1 PX.out.row (by decide)
 have qaX := drw_up QA.out bX
 have nqS : ¬ Blk f.sa w.heap.size := own_no s1 qaX (by decide)
 have lqX : w.heap.size < X1.heap.size := drw_lt qaX
 have lgX := PX.out.row.lt
 have HS : Hid (∀ w', Agr (Blk f.sa) X1 w' → w'.cell? ⟨g, 82, none⟩ = some (.slice f.sa f.sn f.sc) ∧ w'.cell? ⟨w.heap.size, 6, none⟩ = some (.slice B nb d)) := Lib.hid (fun w' hw =>
  ⟨(World.cell?_of_block (hw.2.2.2.2 g lgX ngS)).trans (PX.out.row.c82 PX.out.z), (World.cell?_of_block (hw.2.2.2.2 _ lqX nqS)).trans ((World.cell?_of_block (bX.block _ (drw_lt QA.out))).trans k6)⟩)
 have BX : Hid (Below w.heap.size w X1) := Lib.hid (below_then BV.out bX)
 have hbX : base ≤ X1.heap.size := Nat.le_trans hb BX.out.size
 have HBB : Hid (∀ W, AgrP (fun j => base ≤ j) w W → RdB W B nb d a.s) := Lib.hid hB
 have os : X1.drew.ownsRow base 47 1 (.slice f.sa f.sn f.sc) f.sn su := S1.out
 have NG := Lib.hid ngS
 have HB2 := Lib.hid hB
 clear k0 k6 qaX nqS ngS s1 hB
 go_wp2_with fail
 refine wp_region_segY (S := fun w' => Agr (Blk f.sa) X1 w') 11 1 (brw9 12 2047) [(0, true), (1, true), (2, true), (3, true), (4, true), (5, true), (6, true), (7, false), (8, false), (9, true), (10, true)] (by kernel_rfl) (by kernel_rfl) (fun _ _ d _ _ h => by first | (cases d <;> exact h) | cases h.1) (Agr.of_below (Blk f.sa) (Below.refl _ X1).drew) ?_
 have HB := Agr.of_below (Blk f.sa) (Below.refl _ X1).drew
 iterate 7 (refine seg_take (v := ?_) rfl (Or.inl ⟨by rfl, ?_⟩) ?_; rotate_left; (focus (intro w' hw'; obtain ⟨c82, k6⟩ := HS.out w' hw'; go_simp <;> with_reducible rfl)); try simp only [Act.put, pst3])
 refine seg_run rfl (fun K hK => ?_)
 rw [if_pos (by rfl)]
 refine op_litK #[.slice B nb d] 47 1 (fun w => by go_simp) ?_
 intro g7 w7 e7 r7 b7 z7
 have os := own_up os b7
 have HB := HB.comp (Agr.of_below (Blk f.sa) b7) (fun j hj => .inl hj)
 refine hK.out _ _ (HB) ?_
 clear hK
 try simp only [Act.put, pst3]
 refine seg_run rfl (fun K hK => ?_)
 rw [if_pos (by rfl)]
 have hz8 := HB.2.2.2.1
 refine op_appQ elS (by decide) _ _ rfl base _ f.sn su rfl os (some ⟨g7, 0, none⟩) 1 1 [.slice B nb d] rfl (rd_rowC r7) rfl (by simp [Value.oneCell']) (by omega) (Nat.le_trans hbX hz8) (f.sn + 1) _ rfl rfl ?_
 intro A8 c8 w8 o8 g8 n8
 have HB := HB.comp (Agr.grown (P := Blk f.sa) g8 (fun j e => blk_own.1 e)) (fun j hj => .inl hj)
 have rX := PX.out.row.agr HB.p NG.out
 have c82 := rX.c82 PX.out.z
 have f82 := rX.fr 82
 refine hK.out _ _ (HB) ?_
 clear hK
 try simp only [Act.put, pst3]
 iterate 2 (refine seg_take (v := ?_) rfl (Or.inl ⟨by rfl, ?_⟩) ?_; rotate_left; (focus (intro w' hw'; obtain ⟨c82, k6⟩ := HS.out w' hw'; go_simp <;> with_reducible rfl)); try simp only [Act.put, pst3])
 refine seg_done (fun _ => ?_)
 refine wpAnyY_gate (by kernel_rfl) ?_
 refine op_run rfl (fun K hK => ?_)
 go_simp
 skip
 refine hK.out _ _ (trivial) ?_
 clear hK
 try simp only [Act.put, pst3]
 refine wpAnyH_seg (by kernel_rfl) (fun _ _ d _ _ h => by first | (cases d <;> exact h) | cases h.1) 0 (brw9 12 4095) [] _ _ _ (by kernel_rfl) (trivial) ?_
 refine seg_done (fun _ => ?_)
 refine wpAnyH_done (by kernel_rfl) ?_ _
 skip
 obtain ⟨aY, sY, PY⟩ := PX.out.growS HB s2 o8 n8 hz8 (HB2.out.to (below_agr BX.out _) (fun j hj => .inl (PX.out.base_ j hj).1))
 have bY : Below base w (w8.setCell ⟨g, 82, none⟩ (.slice A8 (f.sn + 1) c8)) := (BX.out.mono hb).trans (aY.below (fun j hj => (PX.out.base_ j hj).1) hbX)
 have jY := Lib.hid (JX.out.to aY.p sY)
 have qY : JmAt (w8.setCell ⟨g, 82, none⟩ (.slice A8 (f.sn + 1) c8)) q1 m1 := (aY.2.2.2.2 q1 lq1 nPq).trans QX.out
 have nPq2 : ¬ PlP g { f with sa := A8, sn := f.sn + 1, sc := c8 } q1 := fun hp => by rcases sY _ hp with h | h; exact nPq h; omega
 clear c82 f82 rX aY sY HB
 generalize hY : w8.setCell ⟨g, 82, none⟩ (.slice A8 (f.sn + 1) c8) = Y at PY bY jY qY ⊢
 obtain ⟨f2, hf2⟩ : ∃ f2 : Pf, f2 = { f with sa := A8, sn := f.sn + 1, sc := c8 } := ⟨_, rfl⟩
 rw [← hf2] at PY jY nPq2
 have e2 : f2.en = f.en := by rw [hf2]
 have PYh := Lib.hid PY
 have QYh := Lib.hid qY
 obtain ⟨eu, e1, e3⟩ := PY.e
 have E1 := Lib.hid e1
 have c83 := PY.row.c83 PY.z
 have hbY : base ≤ Y.heap.size := Nat.le_trans PY.gb (Nat.le_of_lt PY.row.lt)
 have bYh := Lib.hid bY
 have nGE : ¬ Blk f2.ea g := own_no e1 PY.row (by decide)
 have NGE := Lib.hid nGE
 have lqY : q1 < Y.heap.size := qY.lt
 have HL := Lib.hid (show f2.en + 1 ≤ 100000000 by omega)
 clear e2 ls le hsl hel hY hf2 PY qY e1 bY o8 g8 n8 hz8 nGE
 go_wp2_with (first | (at_builtin; refine wp_appQ elE (by decide) rfl _ _ rfl base _ f2.en eu rfl (own_up E1.out ((below_self Y).alloc (Nat.le_refl _) _)) (some ⟨Y.heap.size, 0, none⟩) 1 1 [.slice none 0 0] rfl (rd_rowC (drw_at _ rfl)) rfl (by simp [Value.oneCell']) HL.out (Nat.le_trans hbY (by simp)) (f2.en + 1) _ rfl rfl ?_; intro A9 c9 w9 o9 g9 n9; have HB9 : Hid (Agr (Blk f2.ea) Y w9) := Lib.hid ((Agr.of_below (Blk f2.ea) ((below_self Y).alloc (Nat.le_refl _) _)).comp (Agr.grown (P := Blk f2.ea) g9 (fun j e => blk_own.1 e)) (fun j hj => .inl hj)); have r9 := PYh.out.row.agr HB9.out.p NGE.out; have d83 := r9.c83 PYh.out.z; have f83 := r9.fr 83; obtain ⟨aZ, sZ, PZ⟩ := PYh.out.growE HB9.out e3 o9 n9 (by simp); have PZh := Lib.hid PZ; have QZ : Hid (JmAt (w9.setCell ⟨g, 83, none⟩ (.slice A9 (f2.en + 1) c9)) q1 m1) := Lib.hid ((aZ.2.2.2.2 q1 lqY nPq2).trans QYh.out); have JZ := Lib.hid (jY.out.to aZ.p sZ); have bZ : Hid (Below base w (w9.setCell ⟨g, 83, none⟩ (.slice A9 (f2.en + 1) c9))) := Lib.hid (bYh.out.trans (aZ.below (fun j hj => (PYh.out.base_ j hj).1) hbY)); clear PZ aZ sZ) | (refine jm_load JZ.out.z rfl _ rfl rfl QZ.out ?_) | (refine pl_storeJ rfl _ _ rfl rfl rfl PZh.out.row PZh.out.z JZ.out.z ?_))
 go_ret
 rw [pySave_yes2 p _ hE]
 exact ret_pl PZh.out JZ.out bZ.out
theorem do_save0 (n : Nat) (base g : Nat) (p : Py) (f : Pf) (a : Ac) (A : Option Addr) (na c : Nat) (B : Option Addr) (nb d : Nat) (w : World) (hI : PyI n p) (h : Pl base w g p f) (ha : a.ok) (hk : a.k = 3) (hb : base ≤ w.heap.size)
  (hA : BIn (fun j => base ≤ j) w A na c a.e.b) (hB : BIn (fun j => base ≤ j) w B nb d a.s) (hE : jnSaveE p.J a.s ≠ 0) :
  Calls Tryz.prog 12 #[.pointer (some ⟨g, 0, none⟩), .agg (acV a A na c B nb d)] w (RetPl base g w p true) := by
 obtain ⟨V, hV⟩ : ∃ V, V = w.alloc (.cells (acV a A na c B nb d) 51) := ⟨_, rfl⟩
 have bV : Below w.heap.size w V := by rw [hV]; exact (below_self w).alloc (Nat.le_refl _) _
 have PV := Lib.hid (h.below bV)
 have qa : V.heap[w.heap.size]? = some (.cells (acV a A na c B nb d) 51 (0, 0)) := by rw [hV]; exact drw_at _ rfl
 have k0 := (cell_of_row V w.heap.size 0 _ _ _ qa).trans (show _ = some (.int .i64 a.k) from rfl)
 have k6 := (cell_of_row V w.heap.size 6 _ _ _ qa).trans (show _ = some (.slice B nb d) from rfl)
 rw [hk] at k0
 have QA := Lib.hid qa
 clear qa
 have hg := h.row.lt
 have hPV : ∀ j, PlP g f j → j < V.heap.size := fun j hj => (PV.out.base_ j hj).2
 have HV := Lib.hid hV
 clear hV
 go_enter Tryz.func12, Tryz.ntmps12
 go_wp2_with (first | (rw [← HV.out]) | (refine pl_loadJ rfl _ rfl rfl PV.out.row PV.out.z ?_))
 obtain ⟨er, her⟩ : ∃ er : Int, er = jnSaveE p.J a.s := ⟨_, rfl⟩
 have hne : er ≠ 0 := by rw [her]; exact hE
 have HER := Lib.hid her
 have hbq : (er == 0) = false := beq_eq_false_iff_ne.2 hne
 clear her
 have HJ : Hid (∀ W, Below V.heap.size V W → Calls Tryz.prog 22 #[.agg (jmV f.m).toArray, .slice B nb d] W (RetJ (PNew (PlP g f) V W) W p.J er)) := Lib.hid (fun W hW => by
  have hh := jrnSave_any (PNew (PlP g f) V W) f.m p.J B nb d a.s W (PV.out.j.to (below_agr hW _) (fun j hj => hj.imp_right And.left)) (fun j hj => by rcases hj with hj | hj; (have := hPV j hj; have := hW.size; omega); exact hj.2) ((hB.below bV).below hW).now
  have hJ' : jnSave p.J a.s = p.J := by unfold jnSave; rw [if_neg (by rw [← HER.out]; exact hne)]
  rw [← HER.out, hJ'] at hh
  exact hh)
 have hgV : g < V.heap.size := PV.out.row.lt
 have BV := Lib.hid bV
 apply cut3 (R := fun X m q => Hid (JmAt X q m) ∧ Hid (JIn (PlP g f) X m p.J) ∧ V.heap.size ≤ q ∧ Below V.heap.size V X)
 rotate_left
 ·intro TL
  refine wp_region_seg (S := fun w' => Below V.heap.size V w') 7 (brw9 13 63) [(0, true), (1, true), (2, true), (3, true), (4, true), (5, true)] (by kernel_rfl) (by kernel_rfl) (fun _ _ d _ _ h => by first | (cases d <;> exact h) | cases h.1) ((Below.refl V.heap.size V).drew) ?_
  have HB := (Below.refl V.heap.size V).drew
  iterate 3 (refine seg_take (v := ?_) rfl (Or.inl ⟨by rfl, ?_⟩) ?_; rotate_left; (focus (intro w' hw'; have k6 := (World.cell?_of_block (hw'.block _ (by have := BV.out.size; have := drw_lt QA.out; omega))).trans k6; go_simp <;> with_reducible rfl)); try simp only [Act.put, pst3])
  refine seg_take (v := .agg (jmV f.m).toArray) rfl (Or.inl ⟨by rfl, fun w' hw' => ?_⟩) ?_
  focus (exact pl_ldJ rfl rfl (PV.out.row.up hw') PV.out.z)
  try simp only [Act.put, pst3]
  iterate 2 (refine seg_take (v := ?_) rfl (Or.inl ⟨by rfl, ?_⟩) ?_; rotate_left; (focus (intro w' hw'; have k6 := (World.cell?_of_block (hw'.block _ (by have := BV.out.size; have := drw_lt QA.out; omega))).trans k6; go_simp <;> with_reducible rfl)); try simp only [Act.put, pst3])
  refine seg_done (fun _ => ?_)
  refine wpAnyH_two (i := 6) (j := 10) (f := 6) (by kernel_rfl) ?_ ?_
  ·skip
   refine op_run rfl (fun K hK => ?_)
   go_simp
   refine (HJ.out _ HB).mono ?_
   rintro e_ wC ⟨m1, rfl, j1, bC⟩
   try have qL := qL.up bC
   try have j1 := j1.sub (P' := fun j => PlP g f j ∨ j = g1) (fun j hj => by rcases hj with hj | hj; exact .inl hj; exact .inr (by omega))
   try have lL := Nat.lt_of_lt_of_le lL bC.size
   have HB := below_then HB bC
   refine hK.out _ _ (HB) ?_
   clear hK
   try simp only [Act.put, pst3]
   refine wpAnyH_seg (by kernel_rfl) (fun _ _ d _ _ h => by first | (cases d <;> exact h) | cases h.1) 0 (brw9 13 8191) [(7, true), (8, true), (9, true), (10, false), (11, false), (12, true)] _ _ _ (by kernel_rfl) (HB) ?_
   iterate 3 (refine seg_take (v := ?_) rfl (Or.inl ⟨by rfl, ?_⟩) ?_; rotate_left; (focus (intro w' hw'; have k6 := (World.cell?_of_block (hw'.block _ (by have := BV.out.size; have := drw_lt QA.out; omega))).trans k6; go_simp <;> with_reducible rfl)); try simp only [Act.put, pst3])
   refine seg_run rfl (fun K hK => ?_)
   rw [if_pos (by rfl)]
   refine op_new Tryz.zeroCells36 36 (fun w => by go_simp) ?_
   intro g1 wL eL hL bL zL
   have qL : JmAt wL g1 jmZ := by rw [jmZ_zero] at hL; exact hL
   have HBz := HB.size
   have hgle : V.heap.size ≤ g1 := by omega
   have lL : g1 < wL.heap.size := by omega
   try have j1 := j1.to (P' := fun j => PlP g f j ∨ j = g1) (below_agr bL _) (fun j hj => by rcases hj with hj | hj; exact .inl (.inl hj); exact .inr (by omega))
   have HB := below_then HB bL
   clear eL hL zL HBz
   refine hK.out _ _ (HB) ?_
   clear hK
   try simp only [Act.put, pst3]
   refine seg_run rfl (fun K hK => ?_)
   rw [if_pos (by rfl)]
   refine op_jmst j1.z jmZ_z _ _ rfl rfl rfl qL ?_
   intro X zX qX bX nX
   have jX := (j1.agr (AgrP.one (AgrP.refl _ _) (r := g1) (Or.inr rfl) zX nX)).sub (P' := PlP g f) (fun j hj => .inl hj)
   have HB := HB.trans (bX _ hgle)
   refine hK.out _ _ (HB) ?_
   clear hK
   try simp only [Act.put, pst3]
   iterate 1 (refine seg_take (v := ?_) rfl (Or.inl ⟨by rfl, ?_⟩) ?_; rotate_left; (focus (intro w' hw'; have k6 := (World.cell?_of_block (hw'.block _ (by have := BV.out.size; have := drw_lt QA.out; omega))).trans k6; go_simp <;> with_reducible rfl)); try simp only [Act.put, pst3])
   refine seg_done (fun _ => ?_)
   refine wpAnyH_done (by kernel_rfl) ?_ _
   exact TL X m1 g1 ⟨Lib.hid qX, Lib.hid jX, hgle, HB⟩
  ·skip
   refine op_run rfl (fun K hK => ?_)
   rw [if_pos (by rfl)]
   refine op_new Tryz.zeroCells36 36 (fun w => by go_simp) ?_
   intro g1 wL eL hL bL zL
   have qL : JmAt wL g1 jmZ := by rw [jmZ_zero] at hL; exact hL
   have HBz := HB.size
   have hgle : V.heap.size ≤ g1 := by omega
   have lL : g1 < wL.heap.size := by omega
   try have j1 := j1.to (P' := fun j => PlP g f j ∨ j = g1) (below_agr bL _) (fun j hj => by rcases hj with hj | hj; exact .inl (.inl hj); exact .inr (by omega))
   have HB := below_then HB bL
   clear eL hL zL HBz
   refine hK.out _ _ (HB) ?_
   clear hK
   try simp only [Act.put, pst3]
   refine wpAnyH_seg (by kernel_rfl) (fun _ _ d _ _ h => by first | (cases d <;> exact h) | cases h.1) 0 (brw9 13 8191) [(6, false), (7, true), (8, true), (9, true), (11, false), (12, true)] _ _ _ (by kernel_rfl) (HB) ?_
   refine seg_run rfl (fun K hK => ?_)
   go_simp
   refine (HJ.out _ HB).mono ?_
   rintro e_ wC ⟨m1, rfl, j1, bC⟩
   try have qL := qL.up bC
   try have j1 := j1.sub (P' := fun j => PlP g f j ∨ j = g1) (fun j hj => by rcases hj with hj | hj; exact .inl hj; exact .inr (by omega))
   try have lL := Nat.lt_of_lt_of_le lL bC.size
   have HB := below_then HB bC
   refine hK.out _ _ (HB) ?_
   clear hK
   try simp only [Act.put, pst3]
   iterate 3 (refine seg_take (v := ?_) rfl (Or.inl ⟨by rfl, ?_⟩) ?_; rotate_left; (focus (intro w' hw'; have k6 := (World.cell?_of_block (hw'.block _ (by have := BV.out.size; have := drw_lt QA.out; omega))).trans k6; go_simp <;> with_reducible rfl)); try simp only [Act.put, pst3])
   refine seg_run rfl (fun K hK => ?_)
   rw [if_pos (by rfl)]
   refine op_jmst j1.z jmZ_z _ _ rfl rfl rfl qL ?_
   intro X zX qX bX nX
   have jX := (j1.agr (AgrP.one (AgrP.refl _ _) (r := g1) (Or.inr rfl) zX nX)).sub (P' := PlP g f) (fun j hj => .inl hj)
   have HB := HB.trans (bX _ hgle)
   refine hK.out _ _ (HB) ?_
   clear hK
   try simp only [Act.put, pst3]
   iterate 1 (refine seg_take (v := ?_) rfl (Or.inl ⟨by rfl, ?_⟩) ?_; rotate_left; (focus (intro w' hw'; have k6 := (World.cell?_of_block (hw'.block _ (by have := BV.out.size; have := drw_lt QA.out; omega))).trans k6; go_simp <;> with_reducible rfl)); try simp only [Act.put, pst3])
   refine seg_done (fun _ => ?_)
   refine wpAnyH_done (by kernel_rfl) ?_ _
   exact TL X m1 g1 ⟨Lib.hid qX, Lib.hid jX, hgle, HB⟩
 rintro X1 m1 q1 ⟨QX, JX, hq, bX⟩
 have PX := Lib.hid (PV.out.below bX)
 go_wp2_with (first | (refine jm_load JX.out.z rfl _ rfl rfl QX.out ?_) | (refine pl_storeJ rfl _ _ rfl rfl rfl PX.out.row PX.out.z JX.out.z ?_))
 go_ret
 exact ret_pl PX.out JX.out ((below_then BV.out bX).mono hb)
set_option maxHeartbeats 4000000
theorem do_any (n : Nat) (base g : Nat) (p : Py) (f : Pf) (a : Ac) (A : Option Addr) (na c : Nat) (B : Option Addr) (nb d : Nat) (w : World) (hI : PyI n p) (h : Pl base w g p f) (ha : a.ok) (hb : base ≤ w.heap.size) (hG : p.J.g ≤ 100000)
  (hA : BIn (fun j => base ≤ j) w A na c a.e.b) (hB : BIn (fun j => base ≤ j) w B nb d a.s) :
  Calls Tryz.prog 12 #[.pointer (some ⟨g, 0, none⟩), .agg (acV a A na c B nb d)] w (RetPl base g w (pyDo p a) true) := by
 unfold pyDo
 by_cases h0 : a.k = 0
 ·rw [if_pos h0]
  by_cases hE : pyAppE p a.e = 0
  ·exact do_app0 n base g p f a A na c B nb d w hI h ha h0 hb hA hB hE
  ·rw [pyApp_no p _ hE]
   exact do_app1 n base g p f a A na c B nb d w hI h ha h0 hb hA hB hE
 ·rw [if_neg h0]
  by_cases h1 : a.k = 1
  ·rw [if_pos h1]
   cases hE : (jnAsk p.J).2.2.2 with
   | true => exact do_ask1 n base g p f a A na c B nb d w hI h ha h1 hb hA hB hE
   | false => exact do_ask0 n base g p f a A na c B nb d w hI h ha h1 hb hA hB hE
  ·rw [if_neg h1]
   by_cases h2 : a.k = 2
   ·rw [if_pos h2]
    have hl := h.lens.1
    by_cases ht : f.tn = 0
    ·have hn : pyHits p a.n = p := by unfold pyHits pyNone; rw [hl, ht]; simp
     rw [hn]
     exact do_hit00 n base g p f a A na c B nb d w hI h ha h2 hb hA hB ht
    ·by_cases hN : a.n < 0
     ·have hn : pyHits p a.n = p := by unfold pyHits pyNone; rw [if_pos (decide_eq_true (.inr hN))]
      rw [hn]
      exact do_hit01 n base g p f a A na c B nb d w hI h ha h2 hb hA hB ht hN
     ·have hn : pyHits p a.n = pyOne p (pyIdx p a.n) := by unfold pyHits pyNone; rw [if_neg (by rw [decide_eq_true_eq]; omega)]
      rw [hn]
      have hk : pyIdx p a.n < p.todo.length := Nat.mod_lt _ (by omega)
      have hidx : a.n.toNat % f.tn = pyIdx p a.n := by unfold pyIdx; rw [hl]
      have hnn : a.n = ((a.n.toNat : Nat) : Int) := by omega
      rcases pyOne_fl hI _ hk with ⟨hf, -⟩ | ⟨hf, hph⟩
      ·exact do_flush n base g p f a A na c B nb d w hI h ha h2 hb hA hB a.n.toNat hnn ht _ hidx hf
      ·have hW := (pyOne_write hI _ hk hf hph).1
       unfold pyHitE at hW
       rw [if_neg (by rw [hf]; simp)] at hW
       exact do_write n base g p f a A na c B nb d w hI h ha h2 hb hA hB a.n.toNat hnn ht _ hidx hf hW
   ·rw [if_neg h2]
    by_cases h3 : a.k = 3
    ·rw [if_pos h3]
     by_cases hE : jnSaveE p.J a.s = 0
     ·exact do_save1 n base g p f a A na c B nb d w hI h ha h3 hb hA hB hE hG
     ·rw [pySave_no p _ hE]
      exact do_save0 n base g p f a A na c B nb d w hI h ha h3 hb hA hB hE
    ·rw [if_neg h3]
     exact do_none n base g p f a A na c B nb d w hI h ha h0 h1 h2 h3 hb hA hB
end Go.Proofs.YtpahicfnhhhifaaGreat
namespace Go.Proofs.YtpahicfnhhhifaaGreat
set_option maxRecDepth 20000
set_option maxHeartbeats 1000000
theorem pyAsk_J (p : Py) : (pyAsk p).J.g = p.J.g ∧ (pyAsk p).J.done = p.J.done := by
 show (jnAsk p.J).1.g = p.J.g ∧ (jnAsk p.J).1.done = p.J.done
 have hw : (jnWoke p.J).g = p.J.g ∧ (jnWoke p.J).done = p.J.done := by unfold jnWoke; split <;> exact ⟨rfl, rfl⟩
 unfold jnAsk
 split
 ·exact ⟨rfl, rfl⟩
 ·unfold jnAskK
  split
  ·exact hw
  ·split
   ·exact hw
   ·split
    ·exact hw
    ·exact hw
end Go.Proofs.YtpahicfnhhhifaaGreat
namespace Go.Proofs.YtpahicfnhhhifaaGreat
set_option maxRecDepth 20000
open Go.RowKit
set_option maxHeartbeats 8000000
theorem plB (m : Jm) (hz : m.z) (S : Option Addr) (sn sc : Nat) (K : Option Addr) (kn kc : Nat) (A : Option Addr) (n c : Nat) (B : Option Addr) (n2 c2 : Nat) (w : World) : (Instr.build 44 #[(0, .agg (jmV m).toArray), (1, .agg #[.slice S sn sc, .slice K kn kc]), (4, .slice A n c), (5, .slice B n2 c2)]).run Tryz.prog w = .ok (.agg (plV ⟨m, S, sn, sc, K, kn, kc, none, 0, 0, none, 0, 0, A, n, c, B, n2, c2⟩).toArray) w := by
 obtain ⟨g, slot, next, done, will, ch, wa, wn, wc, ph, ja, jn, jc, out, su, room, err⟩ := m
 obtain ⟨sg, ss, sl, sD⟩ := su
 obtain ⟨h1, h2⟩ := hz
 simp only at h1 h2
 obtain ⟨d0, d1, d2, d3, d4, d5, d6, d7, d8, d9, d10, d11, d12, d13, d14, d15, d16, d17, d18, d19, d20, d21, d22, d23, d24, d25, d26, d27, d28, d29, d30, d31, rfl⟩ := list32 ch h1
 obtain ⟨e0, e1, e2, e3, e4, e5, e6, e7, e8, e9, e10, e11, e12, e13, e14, e15, e16, e17, e18, e19, e20, e21, e22, e23, e24, e25, e26, e27, e28, e29, e30, e31, rfl⟩ := list32 sD h2
 exact run_build w _ _ _ (by show Tryz.prog.built _ _ = some _; kernel_rfl)
theorem jm_loadv {ops : Array Oper} {rest : List Oper} {o : Oper} {a : Act} {w : World} {Q : Exit → Act → World → Prop} {h : Nat} {m : Jm} {v : Value} (hv : v = .agg (jmV m).toArray) (hz : m.z) (hgd : o.guard = none) (x : Operand) (ho : o.op = .load 36 x) (hx : a.eval x = .pointer (some ⟨h, 0, none⟩)) (q : JmAt w h m)
  (hK : wpList Tryz.prog ops Q rest (a.put o.dst v) w) : wpList Tryz.prog ops Q (o :: rest) a w := by
 subst hv
 exact jm_load hz hgd x ho hx q hK
def RetBg (w : World) (p : Py) (e : Ending) (w' : World) : Prop := ∃ g f, e = .returned (.tuple #[.pointer (some ⟨g, 0, none⟩), .bool true]) ∧ Pl w.heap.size w' g p f ∧ Below w.heap.size w w'
theorem begin_any (n : Nat) (hn : 98 ≤ n ∧ n ≤ 256) (w : World) : Calls Tryz.prog 11 #[.int .i64 (n : Int)] w (RetBg w (pyBegin n)) := by
 have hfe : jnFmtE pyFirst (n : Int) = 0 := by unfold jnFmtE; rw [if_neg (by omega), if_neg (by decide)]
 have hbe : jnBeginE 0 ((n - 98 : Nat) : Int) = 0 := by unfold jnBeginE; rw [if_pos ⟨.inl rfl, by omega, by omega⟩]
 have en : (n : Int) - 98 = ((n - 98 : Nat) : Int) := by omega
 obtain ⟨rm, hrm⟩ : ∃ r : Nat, r = n - 98 := ⟨_, rfl⟩
 rw [← hrm] at en hbe
 have wn : IntKind.i64.wrap (rm : Int) = (rm : Int) := wi64n (by omega)
 have HRM := Lib.hid hrm
 have l158 : rm ≤ 158 := by omega
 clear hrm
 go_enter Tryz.func11, Tryz.ntmps11
 go_wp2_with (refine wp_markL rfl _ rfl w.heap.size 5 5 rfl _ rfl rfl pyFirst rfl rfl rfl (by omega) ?_; intro w1 r1 b1 z1)
 have hf := jrnFmt_any (some ⟨w.heap.size, 0, none⟩) 5 5 pyFirst (n : Int) w1 r1 (by omega)
 rw [hfe] at hf
 refine hf.mono ?_
 clear hf
 rintro e w2 ⟨A2, rfl, d2, b2⟩
 obtain ⟨S, sn, sc, K, kn, kc, rfl, rd⟩ := id d2
 go_wp2_with (refine dk_fresh rfl _ _ rfl rfl rfl w2 rfl rfl d2 ?_; intro X2 q2 x2)
 have r2 := r1.below (below_then b2 x2)
 have hb := jrnBase_any (some ⟨w.heap.size, 0, none⟩) 5 5 pyFirst X2 r2 (by omega)
 refine hb.mono ?_
 clear hb
 rintro e w3 ⟨rfl, b3⟩
 go_wp2_with fail
 have hg := jrnBegin_any (fun _ => False) 1 0 (rm : Int) (jnBase pyFirst) w3 (by decide) (by decide) (by omega) (jnBase_len _)
 rw [hbe] at hg
 refine hg.mono ?_
 clear hg
 rintro e w4 ⟨m4, rfl, j4, b4⟩
 have Z4 := Lib.hid j4.z
 have J4 := Lib.hid j4
 have vd4 := Lib.hid ((q2.out.up b3).up b4)
 clear j4 rd d2
 obtain ⟨vJ, hvJ⟩ : ∃ v : Value, v = .agg (jmV m4).toArray := ⟨_, rfl⟩
 have HVJ := Lib.hid hvJ
 have hB0 := fun (A B : Option Addr) (W : World) => plB m4 Z4.out S sn sc K kn kc A 2 2 B 2 2 W
 rw [← hvJ] at hB0
 have HBh := Lib.hid hB0
 clear hvJ hB0
 go_wp2_with (first | (refine jm_fresh Z4.out rfl _ _ rfl rfl rfl w4 rfl rfl ?_; intro X4 q4 x4; have vd5 := Lib.hid (vd4.out.up x4)) | (refine jm_loadv HVJ.out Z4.out rfl _ rfl rfl q4.out ?_) | (refine dk_load rfl _ rfl rfl vd5.out ?_) | (refine wpList_of_exec rfl (rex_build rfl #[(0, vJ), (1, .agg #[.slice S sn sc, .slice K kn kc]), (4, .slice (some ⟨X4.heap.size, 0, none⟩) 2 2), (5, .slice (some ⟨X4.heap.size + 1, 0, none⟩) 2 2)] rfl (HBh.out _ _ _)) ?_))
 refine bodyPost_ret (results_tmp2 Tryz.results11 _ _ _) rfl ?_
 obtain ⟨f, hf⟩ : ∃ f : Pf, f = ⟨m4, S, sn, sc, K, kn, kc, none, 0, 0, none, 0, 0, some ⟨X4.heap.size, 0, none⟩, 2, 2, some ⟨X4.heap.size + 1, 0, none⟩, 2, 2⟩ := ⟨_, rfl⟩
 rw [← hf]
 obtain ⟨Y, hY⟩ : ∃ Y, Y = ((X4.alloc (.cells #[.slice none 0 0, .slice (some ⟨w.heap.size, 0, none⟩) 5 5] 47)).alloc (.cells #[.slice none 0 0, .slice none 0 0] 87)).alloc (.cells (plV f).toArray 44) := ⟨_, rfl⟩
 rw [← hY]
 have bXY : Below X4.heap.size X4 Y := by rw [hY]; exact (((below_self X4).alloc (Nat.le_refl _) _).alloc (by simp) _).alloc (by simp; omega) _
 have rs : Y.heap[X4.heap.size]? = some (.cells #[.slice none 0 0, .slice (some ⟨w.heap.size, 0, none⟩) 5 5] 47 (0, 0)) := by rw [hY]; exact drw_old _ (drw_old _ (drw_at _ rfl))
 have re : Y.heap[X4.heap.size + 1]? = some (.cells #[.slice none 0 0, .slice none 0 0] 87 (0, 0)) := by rw [hY]; exact drw_old _ (drw_at _ (by simp))
 have rp : Y.heap[X4.heap.size + 1 + 1]? = some (.cells (plV f).toArray 44 (0, 0)) := by rw [hY]; exact drw_at _ (by simp)
 have z1 := b1.size
 have z2 := b2.size
 have z3 := x2.size
 have z4 := b3.size
 have z5 := b4.size
 have z6 := x4.size
 have hP : ∀ j, PlP (X4.heap.size + 1 + 1) f j → X4.heap.size ≤ j := by
  rintro j (e | hj | hj | hj | hj)
  ·omega
  ·obtain ⟨a, h1, h2⟩ := hj; rw [hf] at h1; cases h1
  ·obtain ⟨a, h1, h2⟩ := hj; rw [hf] at h1; cases h1
  ·obtain ⟨a, h1, h2⟩ := hj; rw [hf] at h1; injection h1 with h1; subst h1; simp only at h2; omega
  ·obtain ⟨a, h1, h2⟩ := hj; rw [hf] at h1; injection h1 with h1; subst h1; simp only at h2; omega
 have b4Y := below_then x4 bXY
 have b2Y := below_then b3 (below_then b4 b4Y)
 have b1Y := below_then b2 (below_then x2 b2Y)
 refine ⟨X4.heap.size + 1 + 1, f, rfl, ⟨rp, by omega, ?_, ?_, ?_, ?_, ?_, ?_⟩, below_then b1 b1Y⟩
 ·have e : (pyBegin n).J = jnBegin 1 0 (jnBase pyFirst) (rm : Int) := by rw [HRM.out]; rfl
  rw [e, show f.m = m4 by rw [hf]]
  exact J4.out.to (below_agr b4Y _) (fun j hj => .inr (by have := hP j hj; omega))
 ·have e : f.AV = #[.slice S sn sc, .slice K kn kc] := by rw [hf]; rfl
  rw [e]
  exact q2.out.2.ins b2Y (fun j hj => by have := hP j hj; omega)
 ·rw [hf]; exact ⟨[], World.ownsRow_nil _ _ _ 2, rfl⟩
 ·rw [hf]; exact ⟨[], World.ownsRow_nil _ _ _ 1, rfl⟩
 ·refine ⟨[.slice none 0 0, .slice (some ⟨w.heap.size, 0, none⟩) 5 5], ?_, ?_⟩
  ·rw [hf]; exact ⟨rfl, .inr ⟨X4.heap.size, 2, _, rfl, by omega, rs, Nat.le_refl _, by simp [maxLen], rfl, rfl⟩⟩
  ·exact ⟨[.slice none 0 0], _, rfl, rfl, by simp [Value.oneCell'], ⟨none, 0, 0, rfl, bin_nil _ _⟩, [.slice (some ⟨w.heap.size, 0, none⟩) 5 5], [], rfl, rfl, by simp [Value.oneCell'], ⟨_, 5, 5, rfl, r1.inn' b1Y (fun j hj => by have := hP j hj; omega)⟩, rfl⟩
 ·have en : EvIn (PlP (X4.heap.size + 1 + 1) f) Y none 0 0 [] := ⟨[], fun W _ => .inl rfl, rfl, Nat.le_refl _, by simp [maxLen], rfl⟩
  refine ⟨[.slice none 0 0, .slice none 0 0], ?_, ?_⟩
  ·rw [hf]; exact ⟨rfl, .inr ⟨X4.heap.size + 1, 2, _, rfl, by omega, re, Nat.le_refl _, by simp [maxLen], rfl, rfl⟩⟩
  ·exact ⟨[.slice none 0 0], _, rfl, rfl, by simp [Value.oneCell'], ⟨none, 0, 0, rfl, en⟩, [.slice none 0 0], [], rfl, rfl, by simp [Value.oneCell'], ⟨none, 0, 0, rfl, en⟩, rfl⟩
set_option maxHeartbeats 8000000
theorem pyHits_g {n : Nat} {p : Py} (hI : PyI n p) (i : Int) : (pyHits p i).J.g = p.J.g := by
 unfold pyHits
 cases hn : pyNone p i with
 | true => rfl
 | false =>
  simp only [Bool.false_eq_true, if_false]
  have h : ¬ (p.todo.length = 0 ∨ i < 0) := of_decide_eq_false hn
  have hk : pyIdx p i < p.todo.length := Nat.mod_lt _ (by omega)
  rcases pyOne_fl hI _ hk with ⟨hf, -⟩ | ⟨hf, hph⟩
  ·rw [(pyOne_flush hI _ hk hf).2.2.1]
   split
   ·rfl
   ·split <;> rfl
  ·rw [(pyOne_write hI _ hk hf hph).2.2]
theorem pyDo_g {n : Nat} {p : Py} (hI : PyI n p) (a : Ac) : (pyDo p a).J.g ≤ p.J.g + 1 := by
 unfold pyDo
 split
 ·by_cases hz : pyAppE p a.e = 0
  ·rw [pyApp_J p _ hz]; exact Nat.le_succ _
  ·rw [pyApp_no p _ hz]; exact Nat.le_succ _
 ·split
  ·rw [(pyAsk_J p).1]; exact Nat.le_succ _
  ·split
   ·rw [pyHits_g hI]; exact Nat.le_succ _
   ·split
    ·by_cases hz : jnSaveE p.J a.s = 0
     ·rw [pySave_yes p _ hz]; exact Nat.le_refl _
     ·rw [pySave_no p _ hz]; exact Nat.le_succ _
    ·exact Nat.le_succ _
theorem do_const (k : Int) (nn base g : Nat) (p : Py) (f : Pf) (w : World) (hI : PyI nn p) (h : Pl base w g p f) (hb : base ≤ w.heap.size) (hG : p.J.g ≤ 100000) : Calls Tryz.prog 12 #[.pointer (some ⟨g, 0, none⟩), .agg #[.int .i64 k, .int .i64 0, .int .u64 0, .int .i64 0, .int .u64 0, .slice none 0 0, .slice none 0 0]] w (RetPl base g w (pyDo p ⟨k, 0, ⟨0, 0, 0, []⟩, []⟩) true) :=
 do_any nn base g p f ⟨k, 0, ⟨0, 0, 0, []⟩, []⟩ none 0 0 none 0 0 w hI h ⟨⟨by show (0 : Nat) < 18446744073709551616; decide, ⟨by show (-9223372036854775808 : Int) ≤ 0; decide, by show (0 : Int) ≤ 9223372036854775807; decide⟩, by show (0 : Nat) < 18446744073709551616; decide⟩, by show 0 ≤ 3000; decide⟩ hb hG (bin_nil _ _) (bin_nil _ _)
end Go.Proofs.YtpahicfnhhhifaaGreat
namespace Go.Proofs.YtpahicfnhhhifaaGreat
set_option maxRecDepth 20000
set_option maxRecDepth 20000
open Go.RowKit
set_option maxHeartbeats 4000000
def RdRs (w : World) (A : Option Addr) (n : Nat) (l : List Rc) : Prop := l.length = n ∧ n ≤ 9223372036854775807 ∧ ∀ k, k < n → ∃ bo oo B m d, A = some ⟨bo, oo, none⟩ ∧ bo < w.heap.size ∧ (∀ i, i < 39 → w.cell? ⟨bo, oo + k * 39 + i, none⟩ = (rcV (l.getD k rcZ) B m d)[i]?) ∧ RdB w B m d (l.getD k rcZ).b ∧ (l.getD k rcZ).ok
theorem RcRow.at_ {w : World} {base : Nat} {Z : Option Nat} : ∀ {us : List Value} {l : List Rc} (k : Nat), RcRow w base Z us l → k < l.length → ∃ B m d, (∀ i, i < 39 → us[k * 39 + i]? = (rcV (l.getD k rcZ) B m d)[i]?) ∧ RdB w B m d (l.getD k rcZ).b ∧ (l.getD k rcZ).ok
 | us, r :: l, 0, ⟨B, m, d, rest, h1, h2, h3, h4, h5⟩, _ => ⟨B, m, d, fun i hi => by
   rw [h1, Nat.zero_mul, Nat.zero_add, List.getElem?_append_left (by rw [rcV_len _ _ _ _ h2.2.2.2.2.2.2]; exact hi)]; rfl, h3, h2⟩
 | us, r :: l, k + 1, ⟨B, m, d, rest, h1, h2, h3, h4, h5⟩, hk => by
  obtain ⟨B', m', d', e1, e2, e3⟩ := RcRow.at_ k h5 (by simpa using hk)
  refine ⟨B', m', d', fun i hi => ?_, e2, e3⟩
  have hl := rcV_len r B m d h2.2.2.2.2.2.2
  rw [h1, List.getElem?_append_right (by rw [hl, Nat.add_mul]; omega), hl]
  have := e1 i hi
  rw [List.getD_cons_succ, ← this]
  congr 1; rw [Nat.add_mul]; omega
theorem OwR.rds {w : World} {base : Nat} {A : Option Addr} {n c : Nat} {l : List Rc} (h : OwR w base A n c l) : RdRs w A n l := by
 have hl := h.len
 obtain ⟨us, ⟨h1, h2⟩, h3⟩ := h
 refine ⟨hl, by rcases h2 with ⟨-, e⟩ | ⟨g, cap, cur, hv, hg, hrow, hn, hcap, hsz, hcur⟩; omega; unfold maxLen at *; omega, fun k hk => ?_⟩
 rcases h2 with ⟨-, e⟩ | ⟨g, cap, cur, hv, hg, hrow, hn, hcap, hsz, hcur⟩
 ·omega
 ·injection hv with hA hn1 hc
  obtain ⟨B, m, d, e1, e2, e3⟩ := h3.at_ k (by omega)
  refine ⟨g, 0, B, m, d, hA, drw_lt hrow, fun i hi => ?_, e2, e3⟩
  rw [cell_of_row w g _ _ _ _ hrow, ← e1 i hi, ← hcur, List.getElem?_take, if_pos (by omega)]
  simp
theorem RdRs.below {w w' : World} {A : Option Addr} {n : Nat} {l : List Rc} (h : RdRs w A n l) (hb : Below w.heap.size w w') : RdRs w' A n l := by
 refine ⟨h.1, h.2.1, fun k hk => ?_⟩
 obtain ⟨bo, oo, B, m, d, h1, h2, h3, h4, h5⟩ := h.2.2 k hk
 exact ⟨bo, oo, B, m, d, h1, Nat.lt_of_lt_of_le h2 hb.size, fun i hi => (World.cell?_of_block (hb.block bo h2)).trans (h3 i hi), h4.below hb, h5⟩
theorem recs_load {w w' : World} {bo f : Nat} {r : Rc} {B : Option Addr} {m d : Nat} (hr : r.ok) (hb : bo < w.heap.size) (h : ∀ i, i < 39 → w.cell? ⟨bo, f + i, none⟩ = (rcV r B m d)[i]?) (hw : Below w.heap.size w w') : (loadVar 90 ⟨bo, f, none⟩).run Tryz.prog w' = .ok (.agg (rcV r B m d).toArray) w' :=
 run_loadVar_mid w' bo f 90 (rcV r B m d) _ (fun j v hv => by
  have hl := rcV_len r B m d hr.2.2.2.2.2.2
  have hj := (List.getElem?_eq_some_iff.1 hv).1
  rw [World.cell?_of_block (hw.block bo hb), h j (by omega)]; exact hv) Tryz.underlying90 rfl (by rw [rcV_len r B m d hr.2.2.2.2.2.2]; kernel_rfl)
def RrI14 (n : Nat) (w : World) (i : Value) (wr : World) : Prop := ∃ k : Nat, k ≤ n ∧ i = .int .i64 (k : Int) ∧ Below w.heap.size w wr
theorem refRecs_self (A : Option Addr) (n c : Nat) (B : Option Addr) (d : Nat) (l : List Rc) (w : World) (h1 : RdRs w A n l) (h2 : RdRs w B n l) :
  Calls Tryz.prog 36 #[.slice A n c, .slice B n d] w (RetV w (.bool true)) := by
 have hn := h1.2.1
 have H1 := Lib.hid h1
 have H2 := Lib.hid h2
 clear h1 h2
 go_enter Tryz.func36, Tryz.ntmps36
 go_wp2_with fail
 go_loopw [5] (RrI14 n w) (fun i _ => n - (intOf i).toNat)
 case atStart => exact ⟨0, by omega, rfl, Below.refl _ _⟩
 case round =>
 obtain ⟨k, hk, rfl, hB⟩ := hrel
 have HBo := Lib.hid hB
 by_cases hlt : k < n
 ·have i1 : (k : Int) < (n : Int) := by omega
  have wk2 : IntKind.i64.wrap ((k : Int) + 1) = (k : Int) + 1 := IntWalk.i64_in _ (by omega)
  obtain ⟨b1, o1, A1, n1, c1, rfl, hb1, f1, r1, ok1⟩ := H1.out.2.2 k hlt
  obtain ⟨b2, o2, A2, n2, c2, rfl, hb2, f2, r2, ok2⟩ := H2.out.2.2 k hlt
  obtain ⟨R, hR⟩ : ∃ r, r = l.getD k rcZ := ⟨_, rfl⟩
  rw [← hR] at f1 r1 ok1 f2 r2 ok2
  have hl1 := fun w' (hw : Below w.heap.size w w') => recs_load ok1 hb1 f1 hw
  have hl2 := fun w' (hw : Below w.heap.size w w') => recs_load ok2 hb2 f2 hw
  have hs := fun W (hW : Below w.heap.size w W) => refSame12_self R A1 n1 c1 A2 n2 c2 W ok1.2.2.2.2.2.2 (r1.below hW) (r2.below hW)
  obtain ⟨R1, hR1⟩ : ∃ z, z = (rcV R A1 n1 c1).toArray := ⟨_, rfl⟩
  obtain ⟨R2, hR2⟩ : ∃ z, z = (rcV R A2 n2 c2).toArray := ⟨_, rfl⟩
  simp only [← hR1, ← hR2] at hl1 hl2 hs
  have HL1 := Lib.hid (fun w' (hw : Below wr.heap.size wr w') => hl1 w' (hB.trans (hw.mono hB.size)))
  have HL2 := Lib.hid (fun w' (hw : Below wr.heap.size wr w') => hl2 w' (hB.trans (hw.mono hB.size)))
  have HS := Lib.hid (fun w' (hw : Below wr.heap.size wr w') => hs w' (hB.trans (hw.mono hB.size)))
  have HBz := hB.size
  clear hl1 hl2 hs f1 f2 r1 r2 ok1 ok2 hR hR1 hR2 hB
  go_wp2_with fail
  refine wp_region_seg (S := fun w' => Below wr.heap.size wr w') 0 (brw9 10 1023) [(0, true), (1, true), (2, true), (3, true), (4, true), (5, true), (6, true), (7, true), (8, false), (9, true)] (by kernel_rfl) (by kernel_rfl) (fun _ _ d _ _ h => by first | (cases d <;> exact h) | cases h.1) ((Below.refl wr.heap.size wr).drew) ?_
  have HB := (Below.refl wr.heap.size wr).drew
  iterate 3 (refine seg_take (v := ?_) rfl (Or.inl ⟨by rfl, ?_⟩) ?_; rotate_left; (focus (intro w' hw'; go_simp <;> with_reducible rfl)); try simp only [Act.put, pst3])
  refine seg_take (v := (.agg R1)) rfl (Or.inl ⟨by rfl, fun w' hw' => ?_⟩) ?_
  focus (exact ex_load rfl rfl (HL1.out w' hw'))
  try simp only [Act.put, pst3]
  iterate 3 (refine seg_take (v := ?_) rfl (Or.inl ⟨by rfl, ?_⟩) ?_; rotate_left; (focus (intro w' hw'; go_simp <;> with_reducible rfl)); try simp only [Act.put, pst3])
  refine seg_take (v := (.agg R2)) rfl (Or.inl ⟨by rfl, fun w' hw' => ?_⟩) ?_
  focus (exact ex_load rfl rfl (HL2.out w' hw'))
  try simp only [Act.put, pst3]
  refine seg_run rfl (fun K hK => ?_)
  go_simp
  refine (HS.out _ HB).mono ?_
  rintro e_ w2 ⟨rfl, b2⟩
  have HB := below_then HB b2
  refine hK.out _ _ (HB) ?_
  clear hK
  try simp only [Act.put, pst3]
  iterate 1 (refine seg_take (v := ?_) rfl (Or.inl ⟨by rfl, ?_⟩) ?_; rotate_left; (focus (intro w' hw'; go_simp <;> with_reducible rfl)); try simp only [Act.put, pst3])
  refine seg_done (fun _ => ?_)
  refine wpAnyH_done (by kernel_rfl) ?_ _
  have HB' := Lib.hid HB
  go_wp2_with fail
  go_roundw
  case rel => exact ⟨k + 1, by omega, by rw [Int.natCast_add]; rfl, HBo.out.trans (HB'.out.mono HBz)⟩
  case measure => simp [intOf]; omega
 ·obtain rfl : k = n := by omega
  clear hB
  go_wp2_with fail
  go_ret
  exact ⟨rfl, HBo.out⟩
set_option maxHeartbeats 1000000
structure PyLd (p : Py) (C : Dk) (g d : Nat) : Prop where
 e : jnLoadE C = 0
 s : jnLoadS C = headSu g (pySt p g)
 h : jnHad C (jnLoadS C) = pySt p g
 r : jnLoadR C = (pyRs p g).take d
 d : d ≤ (pyEv p g).length
 g : 1 ≤ g
theorem pyLd_of {n : Nat} {p : Py} (hb : PyB n p) (C : Dk) (f : Nat → List UInt8) (g d : Nat) (hg : GenAt f g (pySt p g) (pyRs p g) d) (hC : dkOk C = true) (hl : C.s.length = n) (hf : ∀ i : Nat, i < n → dkRead C (i : Int) = f i) (hg2 : 1 ≤ g ∧ g < 4294967296) (hd : d ≤ (pyEv p g).length) (hdn : d ≤ n - 98) (hl2 : (pyEv p g).length ≤ 4294967296) (hend : d < n - 98 → NoRec g (f (98 + d))) : PyLd p C g d := by
 have hst := hb.st g
 obtain ⟨h1, h2, h3, h4⟩ := gen_load C f g (pySt p g) (pyRs p g) d hg hC (by rw [hl]; exact hb.n98.1) (fun i hi => hf i (by rw [← hl]; exact hi)) hg2.2 (by omega) (rcsChain hb g hg2.2 hl2) (by rw [pyRs_len]; exact hd) (by rw [hl]; exact hdn) (fun h => hend (by rw [← hl]; exact h))
 exact ⟨h1, h2, h3, h4, hd, hg2.1⟩
end Go.Proofs.YtpahicfnhhhifaaGreat
