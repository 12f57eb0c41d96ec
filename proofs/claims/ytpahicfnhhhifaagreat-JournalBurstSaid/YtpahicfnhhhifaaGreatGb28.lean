/-
 Proved here, for the statement JournalBurst:
 Layer 14: the laws' play: the disk is asked to do something.
 Layer 14: a journal over a disk in memory: a row that is another one; rows that 
-/
import Derived.Test.YtpahicfnhhhifaaGreatGb25
import Derived.Test.YtpahicfnhhhifaaGreatGb27
set_option linter.unusedVariables false
set_option linter.unusedSimpArgs false
namespace Go.Proofs.YtpahicfnhhhifaaGreat
set_option maxRecDepth 20000
open Go.RowKit
set_option maxHeartbeats 8000000
theorem jm_fresh3 {ops : Array Oper} {rest : List Oper} {o : Oper} {a : Act} {w w0 : World} {Q : Exit → Act → World → Prop} {h : Nat} {m : Jm} (c : Obj) (hz : m.z) (hgd : o.guard = none) (x y : Operand) (ho : o.op = .store 36 x y) (hx : a.eval x = .pointer (some ⟨h, 0, none⟩)) (hy : a.eval y = .agg (jmV m).toArray) (hw : w = (w0.alloc (.cells Tryz.zeroCells36 36)).alloc c) (hh : w0.heap.size = h)
  (hK : ∀ X, X.heap.size = w0.heap.size + 2 → Hid (JmAt X h m) → X.heap[w0.heap.size + 1]? = some c → Below w0.heap.size w0 X → wpList Tryz.prog ops Q rest (a.put o.dst undef) X) : wpList Tryz.prog ops Q (o :: rest) a w := by
 subst hw
 have q0 : JmAt (w0.alloc (.cells Tryz.zeroCells36 36)) h jmZ := by rw [jmZ_zero]; exact jm_new _ hh
 have hb0 : Below w0.heap.size w0 (w0.alloc (.cells Tryz.zeroCells36 36)) := (below_self w0).alloc (Nat.le_refl _) _
 refine jm_over c hz jmZ_z hgd x y ho hx hy rfl q0 (fun X zX qX cX bX nX => hK X (by rw [zX]; simp) qX (by simpa using cX) (hb0.trans (bX _ (by omega))))
theorem ret_pl {base g : Nat} {w Y : World} {p : Py} {f : Pf} {m : Jm} {J : Jn} (h : Pl base Y g p f) (hJ : JIn (PlP g f) Y m J) (bY : Below base w Y) : RetPl base g w { p with J := J } true (.returned (.bool true)) (Y.setCells g 0 (jmV m)) :=
 ⟨rfl, bY.trans ((Agr.cellsT (P := fun j => j = g) (w := Y) (g := g) (o := 0) (vs := jmV m) rfl rfl).below (fun j hj => by rw [hj]; exact h.gb) (Nat.le_trans h.gb (Nat.le_of_lt h.row.lt))), { f with m := m }, h.setJ hJ⟩
theorem pyAsk_yes (p : Py) {J1 : Jn} {x : Jb} {fl : Bool} (h : jnAsk p.J = (J1, x, fl, true)) : pyAsk p = { p with J := J1, todo := p.todo ++ [x], fl := p.fl ++ [fl] } := by unfold pyAsk; rw [h]; rfl
theorem pyAsk_no (p : Py) {J1 : Jn} {x : Jb} {fl : Bool} (h : jnAsk p.J = (J1, x, fl, false)) : pyAsk p = { p with J := J1 } := by unfold pyAsk; rw [h]; rfl
theorem do_ask1 (n : Nat) (base g : Nat) (p : Py) (f : Pf) (a : Ac) (A : Option Addr) (na c : Nat) (B : Option Addr) (nb d : Nat) (w : World) (hI : PyI n p) (h : Pl base w g p f) (ha : a.ok) (hk : a.k = 1) (hb : base ≤ w.heap.size)
  (hA : BIn (fun j => base ≤ j) w A na c a.e.b) (hB : BIn (fun j => base ≤ j) w B nb d a.s) (hE : (jnAsk p.J).2.2.2 = true) :
  Calls Tryz.prog 12 #[.pointer (some ⟨g, 0, none⟩), .agg (acV a A na c B nb d)] w (RetPl base g w (pyAsk p) true) := by
 obtain ⟨V, hV⟩ : ∃ V, V = w.alloc (.cells (acV a A na c B nb d) 51) := ⟨_, rfl⟩
 have bV : Below w.heap.size w V := by rw [hV]; exact (below_self w).alloc (Nat.le_refl _) _
 have PV := Lib.hid (h.below bV)
 have qa : V.heap[w.heap.size]? = some (.cells (acV a A na c B nb d) 51 (0, 0)) := by rw [hV]; exact drw_at _ rfl
 have k0 := (cell_of_row V w.heap.size 0 _ _ _ qa).trans (show _ = some (.int .i64 a.k) from rfl)
 have k2 := (cell_of_row V w.heap.size 2 _ _ _ qa).trans (show _ = some (.int .u64 (a.e.t : Int)) from rfl)
 have k3 := (cell_of_row V w.heap.size 3 _ _ _ qa).trans (show _ = some (.int .i64 a.e.k) from rfl)
 have k4 := (cell_of_row V w.heap.size 4 _ _ _ qa).trans (show _ = some (.int .u64 (a.e.c : Int)) from rfl)
 have k5 := (cell_of_row V w.heap.size 5 _ _ _ qa).trans (show _ = some (.slice A na c) from rfl)
 rw [hk] at k0
 have QA := Lib.hid qa
 clear qa
 have hg := h.row.lt
 have hPV : ∀ j, PlP g f j → j < V.heap.size := fun j hj => (PV.out.base_ j hj).2
 have HV := Lib.hid hV
 clear hV
 go_enter Tryz.func12, Tryz.ntmps12
 go_wp2_with (first | (rw [← HV.out]) | (refine pl_loadJ rfl _ rfl rfl PV.out.row PV.out.z ?_))
 have HR := Lib.hid (jrnAsk_any (PlP g f) f.m p.J V PV.out.j hPV)
 obtain ⟨J1, x, fl, ok, hR⟩ : ∃ J1 x fl ok, jnAsk p.J = (J1, x, fl, ok) := ⟨_, _, _, _, rfl⟩
 rw [hR] at HR
 refine HR.out.mono ?_
 clear HR
 rintro e w1 ⟨m1, Ax, xn, xc, rfl, j1, sx, hx, b1⟩
 have HH := Lib.hid hR
 have BV := Lib.hid bV
 have Z1 := Lib.hid j1.z
 have P1 := Lib.hid (PV.out.below b1)
 have J1h := Lib.hid j1
 have S1 := Lib.hid sx
 clear hR j1 sx
 obtain rfl : ok = true := by have := hE; rw [HH.out] at this; exact this
 clear hE
 go_wp2_with (first | (refine jm_fresh3 (w0 := w1) _ Z1.out rfl _ _ rfl rfl rfl rfl rfl ?_; intro X2 zX2 qX2 cX2 bX2; have cZ2 : Hid (JbZ X2 (w1.heap.size + 1)) := Lib.hid cX2; clear cX2) | (refine jb_store rfl _ _ rfl rfl x.1 Ax xn xc rfl cZ2.out ?_; intro X zX3 qx3 bX3 nX3))
 have QX := Lib.hid (show JmAt X w1.heap.size m1 from (nX3 _ (by omega)).trans qX2.out)
 have b1X : Below w1.heap.size w1 X := bX2.trans (bX3 _ (by omega))
 have PX := Lib.hid (P1.out.below b1X)
 have lX : w1.heap.size + 2 ≤ X.heap.size := by omega
 have JX := Lib.hid (J1h.out.below b1X)
 have SX := Lib.hid (S1.out.below b1X)
 have hbs := P1.out.base_
 obtain ⟨q1, hq1⟩ : ∃ q, q = w1.heap.size := ⟨_, rfl⟩
 have hq : V.heap.size ≤ q1 := by rw [hq1]; exact b1.size
 rw [← hq1] at QX lX qx3
 have BX := Lib.hid (below_then BV.out (b1.trans (b1X.mono (by rw [hq1] at hq; exact hq))))
 have hb1 : ∀ j, PlP g f j → j < q1 := fun j hj => by rw [hq1]; exact (hbs j hj).2
 rw [← hq1]
 clear hq1 qX2 bX2 nX3 bX3 cZ2 zX2 zX3 b1 b1X P1 J1h S1 hbs
 obtain ⟨tu, t1, t2⟩ := PX.out.t
 obtain ⟨lu, l1, l2⟩ := PX.out.l
 have tl := PX.out.lens.1
 have ll := PX.out.lens.2.1
 have lj := (pyI_jobs hI).2.2.1
 have lf := (pyI_jobs hI).2.2.2.1
 have hgX := PX.out.row.lt
 have n2g : ¬ (Blk f.ta g ∨ Blk f.fa g) := fun hh => by
  rcases hh with hh | hh
  ·exact own_no t1 PX.out.row (by decide) hh
  ·exact own_no l1 PX.out.row (by decide) hh
 have n2q : ∀ q, q1 ≤ q → ¬ (Blk f.ta q ∨ Blk f.fa q) := fun q hq hh => by
  have : PlP g f q := by rcases hh with hh | hh; exact .inr (.inl hh); exact .inr (.inr (.inl hh))
  have := hb1 _ this
  omega
 have T1 := Lib.hid t1
 have L1 := Lib.hid l1
 have HS : Hid (∀ w', Agr (fun j => Blk f.ta j ∨ Blk f.fa j) X w' → w'.cell? ⟨g, 80, none⟩ = some (.slice f.ta f.tn f.tc) ∧ w'.cell? ⟨g, 81, none⟩ = some (.slice f.fa f.fn f.fc) ∧ w'.cell? ⟨q1 + 1, 0, none⟩ = some (.int .i64 x.1) ∧ w'.cell? ⟨q1 + 1, 1, none⟩ = some (.slice Ax xn xc)) := Lib.hid (fun w' hw => by
  have u : ∀ (i : Nat), w'.cell? ⟨q1 + 1, i, none⟩ = X.cell? ⟨q1 + 1, i, none⟩ := fun i => World.cell?_of_block (hw.2.2.2.2 (q1 + 1) (by omega) (n2q (q1 + 1) (by omega)))
  have v : ∀ (i : Nat), w'.cell? ⟨g, i, none⟩ = X.cell? ⟨g, i, none⟩ := fun i => World.cell?_of_block (hw.2.2.2.2 g hgX n2g)
  exact ⟨(v 80).trans (PX.out.row.c80 PX.out.z), (v 81).trans (PX.out.row.c81 PX.out.z), (u 0).trans ((cell_of_row X _ 0 _ _ _ qx3).trans rfl), (u 1).trans ((cell_of_row X _ 1 _ _ _ qx3).trans rfl)⟩)
 have N2g := Lib.hid n2g
 have N2q := Lib.hid n2q
 have HB1 := Lib.hid hb1
 clear qx3 t1 l1 n2g n2q hb1 k0 k2 k3 k4 k5
 have ot : X.drew.ownsRow base 60 2 (.slice f.ta f.tn f.tc) f.tn tu := T1.out
 have ol : X.drew.ownsRow base 4 1 (.slice f.fa f.fn f.fc) f.fn lu := L1.out
 have hbX : base ≤ X.heap.size := Nat.le_trans hb BX.out.size
 refine wp_region_segY (S := fun w' => Agr (fun j => Blk f.ta j ∨ Blk f.fa j) X w') 18 10 (brw9 22 15999) [(0, true), (1, true), (2, true), (3, true), (4, true), (5, true), (6, true), (9, true), (10, true), (11, true), (12, true), (13, true)] (by kernel_rfl) (by kernel_rfl) (fun _ _ d _ _ h => by first | (cases d <;> exact h) | cases h.1) (Agr.of_below (fun j => Blk f.ta j ∨ Blk f.fa j) (Below.refl _ X).drew) ?_
 have HB := Agr.of_below (fun j => Blk f.ta j ∨ Blk f.fa j) (Below.refl _ X).drew
 iterate 12 (refine seg_take (v := ?_) rfl (Or.inl ⟨by rfl, ?_⟩) ?_; rotate_left; (focus (intro w' hw'; obtain ⟨c80, c81, x0, x1⟩ := HS.out w' hw'; go_simp <;> with_reducible rfl)); try simp only [Act.put, pst3])
 refine seg_done (fun _ => ?_)
 refine wpAnyY_two (i := 7) (j := 14) (f := 9) (by kernel_rfl) ?_ ?_
 ·skip
  refine op_run rfl (fun K hK => ?_)
  rw [if_pos (by rfl)]
  refine op_litK #[.int .i64 x.1, .slice Ax xn xc] 60 1 (fun w => by go_simp) ?_
  intro g7 w7 e7 r7 b7 z7
  have ot := own_up ot b7
  have ol := own_up ol b7
  try have r14 := drw_up r14 b7
  have HB := HB.comp (Agr.of_below (fun j => Blk f.ta j ∨ Blk f.fa j) b7) (fun j hj => .inl hj)
  refine hK.out _ _ (HB) ?_
  clear hK
  try simp only [Act.put, pst3]
  refine wpAnyY_seg' (by kernel_rfl) (fun _ _ d _ _ h => by first | (cases d <;> exact h) | cases h.1) 9 (brw9 22 16127) [] _ _ _ (by kernel_rfl) (by kernel_rfl) (HB) ?_
  refine seg_done (fun _ => ?_)
  refine wpAnyY_two (i := 8) (j := 14) (f := 8) (by kernel_rfl) ?_ ?_
  ·skip
   refine op_run rfl (fun K hK => ?_)
   rw [if_pos (by rfl)]
   have hz8 := HB.2.2.2.1
   refine op_appQ elJ (by decide) _ _ rfl base _ f.tn tu rfl ot (some ⟨g7, 0, none⟩) 1 1 [.int .i64 x.1, .slice Ax xn xc] rfl (rd_rowC r7) rfl (by simp [Value.oneCell']) (by omega) (Nat.le_trans hbX hz8) (f.tn + 1) _ rfl rfl ?_
   intro A8 c8 w8 o8 g8 n8
   try have r14 := (g8.block g14 (drw_lt r14) (fun e => own_no ot r14 (by decide) (blk_own.1 e))).trans r14
   have ol := own_to ol (Agr.grown (P := fun j => Blk f.ta j) g8 (fun j e => blk_own.1 e)).p (fun j hj hh => own_apart ol ot (by decide) (blk_own.1 hj) hh)
   have HB := HB.comp (Agr.grown (P := fun j => Blk f.ta j ∨ Blk f.fa j) g8 (fun j e => .inl (blk_own.1 e))) (fun j hj => .inl hj)
   clear ot g8
   refine hK.out _ _ (HB) ?_
   clear hK
   try simp only [Act.put, pst3]
   refine wpAnyY_seg' (by kernel_rfl) (fun _ _ d _ _ h => by first | (cases d <;> exact h) | cases h.1) 4 (brw9 22 262143) [(14, false), (15, false), (16, true), (17, true)] _ _ _ (by kernel_rfl) (by kernel_rfl) (HB) ?_
   refine seg_run rfl (fun K hK => ?_)
   rw [if_pos (by rfl)]
   refine op_litK #[.bool fl] 4 1 (fun w => by go_simp) ?_
   intro g14 w14 e14 r14 b14 z14
   try have ot := own_up ot b14
   try have o8 := own_up o8 b14
   have ol := own_up ol b14
   try have r7 := drw_up r7 b14
   have HB := HB.comp (Agr.of_below (fun j => Blk f.ta j ∨ Blk f.fa j) b14) (fun j hj => .inl hj)
   refine hK.out _ _ (HB) ?_
   clear hK
   try simp only [Act.put, pst3]
   refine seg_run rfl (fun K hK => ?_)
   rw [if_pos (by rfl)]
   have hz15 := HB.2.2.2.1
   refine op_appQ elF (by decide) _ _ rfl base _ f.fn lu rfl ol (some ⟨g14, 0, none⟩) 1 1 [.bool fl] rfl (rd_rowC r14) rfl (by simp [Value.oneCell']) (by omega) (Nat.le_trans hbX hz15) (f.fn + 1) _ rfl rfl ?_
   intro A15 c15 w15 o15 g15 n15
   have o8 := own_to o8 (Agr.grown (P := fun j => Blk f.fa j) g15 (fun j e => blk_own.1 e)).p (fun j hj hh => own_apart o8 ol (by decide) (blk_own.1 hj) hh)
   have HB := HB.comp (Agr.grown (P := fun j => Blk f.ta j ∨ Blk f.fa j) g15 (fun j e => .inr (blk_own.1 e))) (fun j hj => .inl hj)
   have r15 := PX.out.row.agr HB.p N2g.out
   have c80 := r15.c80 PX.out.z
   have c81 := r15.c81 PX.out.z
   have f80 := r15.fr 80
   have f81 := r15.fr 81
   clear ol g15
   refine hK.out _ _ (HB) ?_
   clear hK
   try simp only [Act.put, pst3]
   iterate 2 (refine seg_take (v := ?_) rfl (Or.inl ⟨by rfl, ?_⟩) ?_; rotate_left; (focus (intro w' hw'; obtain ⟨c80, c81, x0, x1⟩ := HS.out w' hw'; go_simp <;> with_reducible rfl)); try simp only [Act.put, pst3])
   refine seg_done (fun _ => ?_)
   refine wpAnyY_gate (by kernel_rfl) ?_
   refine op_run rfl (fun K hK => ?_)
   go_simp
   skip
   refine hK.out _ _ (trivial) ?_
   clear hK
   try simp only [Act.put, pst3]
   refine wpAnyH_seg (by kernel_rfl) (fun _ _ d _ _ h => by first | (cases d <;> exact h) | cases h.1) 0 (brw9 22 4194303) [(19, true), (20, true), (21, false)] _ _ _ (by kernel_rfl) (trivial) ?_
   iterate 2 (refine seg_take (v := ?_) rfl (Or.inl ⟨by rfl, ?_⟩) ?_; rotate_left; (focus (intro w' hw'; go_simp <;> with_reducible rfl)); try simp only [Act.put, pst3])
   refine seg_run rfl (fun K hK => ?_)
   go_simp
   skip
   refine hK.out _ _ (trivial) ?_
   clear hK
   try simp only [Act.put, pst3]
   refine seg_done (fun _ => ?_)
   refine wpAnyH_done (by kernel_rfl) ?_ _
   obtain ⟨Y, hY⟩ : ∃ Y, Y = (w15.setCell ⟨g, 80, none⟩ (.slice A8 (f.tn + 1) c8)).setCell ⟨g, 81, none⟩ (.slice A15 (f.fn + 1) c15) := ⟨_, rfl⟩
   rw [← hY]
   obtain ⟨aY, sY, PY⟩ := PX.out.grow2 HB t2 l2 o8 o15 n8 hz8 n15 hz15 hx SX.out Y hY
   have PYh := Lib.hid PY
   have q1g : ¬ PlP g f q1 := fun hp => by have := HB1.out _ hp; omega
   have QY : Hid (JmAt Y q1 m1) := Lib.hid ((aY.2.2.2.2 q1 (by omega) q1g).trans QX.out)
   have JY := Lib.hid (JX.out.to aY.p sY)
   have bY : Below base w Y := (BX.out.mono hb).trans (aY.below (fun j hj => (PX.out.base_ j hj).1) hbX)
   clear hY PY aY sY c80 c81 f80 f81 o8 o15
   go_wp2_with (first | (refine jm_load JY.out.z rfl _ rfl rfl QY.out ?_) | (refine pl_storeJ rfl _ _ rfl rfl rfl PYh.out.row PYh.out.z JY.out.z ?_))
   go_ret
   rw [pyAsk_yes p HH.out]
   exact ret_pl PYh.out JY.out bY
  ·skip
   refine op_run rfl (fun K hK => ?_)
   rw [if_pos (by rfl)]
   refine op_litK #[.bool fl] 4 1 (fun w => by go_simp) ?_
   intro g14 w14 e14 r14 b14 z14
   try have ot := own_up ot b14
   try have o8 := own_up o8 b14
   have ol := own_up ol b14
   try have r7 := drw_up r7 b14
   have HB := HB.comp (Agr.of_below (fun j => Blk f.ta j ∨ Blk f.fa j) b14) (fun j hj => .inl hj)
   refine hK.out _ _ (HB) ?_
   clear hK
   try simp only [Act.put, pst3]
   refine wpAnyY_seg' (by kernel_rfl) (fun _ _ d _ _ h => by first | (cases d <;> exact h) | cases h.1) 4 (brw9 22 262143) [(8, false), (15, false), (16, true), (17, true)] _ _ _ (by kernel_rfl) (by kernel_rfl) (HB) ?_
   refine seg_run rfl (fun K hK => ?_)
   rw [if_pos (by rfl)]
   have hz8 := HB.2.2.2.1
   refine op_appQ elJ (by decide) _ _ rfl base _ f.tn tu rfl ot (some ⟨g7, 0, none⟩) 1 1 [.int .i64 x.1, .slice Ax xn xc] rfl (rd_rowC r7) rfl (by simp [Value.oneCell']) (by omega) (Nat.le_trans hbX hz8) (f.tn + 1) _ rfl rfl ?_
   intro A8 c8 w8 o8 g8 n8
   try have r14 := (g8.block g14 (drw_lt r14) (fun e => own_no ot r14 (by decide) (blk_own.1 e))).trans r14
   have ol := own_to ol (Agr.grown (P := fun j => Blk f.ta j) g8 (fun j e => blk_own.1 e)).p (fun j hj hh => own_apart ol ot (by decide) (blk_own.1 hj) hh)
   have HB := HB.comp (Agr.grown (P := fun j => Blk f.ta j ∨ Blk f.fa j) g8 (fun j e => .inl (blk_own.1 e))) (fun j hj => .inl hj)
   clear ot g8
   refine hK.out _ _ (HB) ?_
   clear hK
   try simp only [Act.put, pst3]
   refine seg_run rfl (fun K hK => ?_)
   rw [if_pos (by rfl)]
   have hz15 := HB.2.2.2.1
   refine op_appQ elF (by decide) _ _ rfl base _ f.fn lu rfl ol (some ⟨g14, 0, none⟩) 1 1 [.bool fl] rfl (rd_rowC r14) rfl (by simp [Value.oneCell']) (by omega) (Nat.le_trans hbX hz15) (f.fn + 1) _ rfl rfl ?_
   intro A15 c15 w15 o15 g15 n15
   have o8 := own_to o8 (Agr.grown (P := fun j => Blk f.fa j) g15 (fun j e => blk_own.1 e)).p (fun j hj hh => own_apart o8 ol (by decide) (blk_own.1 hj) hh)
   have HB := HB.comp (Agr.grown (P := fun j => Blk f.ta j ∨ Blk f.fa j) g15 (fun j e => .inr (blk_own.1 e))) (fun j hj => .inl hj)
   have r15 := PX.out.row.agr HB.p N2g.out
   have c80 := r15.c80 PX.out.z
   have c81 := r15.c81 PX.out.z
   have f80 := r15.fr 80
   have f81 := r15.fr 81
   clear ol g15
   refine hK.out _ _ (HB) ?_
   clear hK
   try simp only [Act.put, pst3]
   iterate 2 (refine seg_take (v := ?_) rfl (Or.inl ⟨by rfl, ?_⟩) ?_; rotate_left; (focus (intro w' hw'; obtain ⟨c80, c81, x0, x1⟩ := HS.out w' hw'; go_simp <;> with_reducible rfl)); try simp only [Act.put, pst3])
   refine seg_done (fun _ => ?_)
   refine wpAnyY_gate (by kernel_rfl) ?_
   refine op_run rfl (fun K hK => ?_)
   go_simp
   skip
   refine hK.out _ _ (trivial) ?_
   clear hK
   try simp only [Act.put, pst3]
   refine wpAnyH_seg (by kernel_rfl) (fun _ _ d _ _ h => by first | (cases d <;> exact h) | cases h.1) 0 (brw9 22 4194303) [(19, true), (20, true), (21, false)] _ _ _ (by kernel_rfl) (trivial) ?_
   iterate 2 (refine seg_take (v := ?_) rfl (Or.inl ⟨by rfl, ?_⟩) ?_; rotate_left; (focus (intro w' hw'; go_simp <;> with_reducible rfl)); try simp only [Act.put, pst3])
   refine seg_run rfl (fun K hK => ?_)
   go_simp
   skip
   refine hK.out _ _ (trivial) ?_
   clear hK
   try simp only [Act.put, pst3]
   refine seg_done (fun _ => ?_)
   refine wpAnyH_done (by kernel_rfl) ?_ _
   obtain ⟨Y, hY⟩ : ∃ Y, Y = (w15.setCell ⟨g, 80, none⟩ (.slice A8 (f.tn + 1) c8)).setCell ⟨g, 81, none⟩ (.slice A15 (f.fn + 1) c15) := ⟨_, rfl⟩
   rw [← hY]
   obtain ⟨aY, sY, PY⟩ := PX.out.grow2 HB t2 l2 o8 o15 n8 hz8 n15 hz15 hx SX.out Y hY
   have PYh := Lib.hid PY
   have q1g : ¬ PlP g f q1 := fun hp => by have := HB1.out _ hp; omega
   have QY : Hid (JmAt Y q1 m1) := Lib.hid ((aY.2.2.2.2 q1 (by omega) q1g).trans QX.out)
   have JY := Lib.hid (JX.out.to aY.p sY)
   have bY : Below base w Y := (BX.out.mono hb).trans (aY.below (fun j hj => (PX.out.base_ j hj).1) hbX)
   clear hY PY aY sY c80 c81 f80 f81 o8 o15
   go_wp2_with (first | (refine jm_load JY.out.z rfl _ rfl rfl QY.out ?_) | (refine pl_storeJ rfl _ _ rfl rfl rfl PYh.out.row PYh.out.z JY.out.z ?_))
   go_ret
   rw [pyAsk_yes p HH.out]
   exact ret_pl PYh.out JY.out bY
 ·skip
  refine op_run rfl (fun K hK => ?_)
  rw [if_pos (by rfl)]
  refine op_litK #[.bool fl] 4 1 (fun w => by go_simp) ?_
  intro g14 w14 e14 r14 b14 z14
  try have ot := own_up ot b14
  try have o8 := own_up o8 b14
  have ol := own_up ol b14
  try have r7 := drw_up r7 b14
  have HB := HB.comp (Agr.of_below (fun j => Blk f.ta j ∨ Blk f.fa j) b14) (fun j hj => .inl hj)
  refine hK.out _ _ (HB) ?_
  clear hK
  try simp only [Act.put, pst3]
  refine wpAnyY_seg' (by kernel_rfl) (fun _ _ d _ _ h => by first | (cases d <;> exact h) | cases h.1) 4 (brw9 22 262143) [(7, false), (8, false), (15, false), (16, true), (17, true)] _ _ _ (by kernel_rfl) (by kernel_rfl) (HB) ?_
  refine seg_run rfl (fun K hK => ?_)
  rw [if_pos (by rfl)]
  refine op_litK #[.int .i64 x.1, .slice Ax xn xc] 60 1 (fun w => by go_simp) ?_
  intro g7 w7 e7 r7 b7 z7
  have ot := own_up ot b7
  have ol := own_up ol b7
  try have r14 := drw_up r14 b7
  have HB := HB.comp (Agr.of_below (fun j => Blk f.ta j ∨ Blk f.fa j) b7) (fun j hj => .inl hj)
  refine hK.out _ _ (HB) ?_
  clear hK
  try simp only [Act.put, pst3]
  refine seg_run rfl (fun K hK => ?_)
  rw [if_pos (by rfl)]
  have hz8 := HB.2.2.2.1
  refine op_appQ elJ (by decide) _ _ rfl base _ f.tn tu rfl ot (some ⟨g7, 0, none⟩) 1 1 [.int .i64 x.1, .slice Ax xn xc] rfl (rd_rowC r7) rfl (by simp [Value.oneCell']) (by omega) (Nat.le_trans hbX hz8) (f.tn + 1) _ rfl rfl ?_
  intro A8 c8 w8 o8 g8 n8
  try have r14 := (g8.block g14 (drw_lt r14) (fun e => own_no ot r14 (by decide) (blk_own.1 e))).trans r14
  have ol := own_to ol (Agr.grown (P := fun j => Blk f.ta j) g8 (fun j e => blk_own.1 e)).p (fun j hj hh => own_apart ol ot (by decide) (blk_own.1 hj) hh)
  have HB := HB.comp (Agr.grown (P := fun j => Blk f.ta j ∨ Blk f.fa j) g8 (fun j e => .inl (blk_own.1 e))) (fun j hj => .inl hj)
  clear ot g8
  refine hK.out _ _ (HB) ?_
  clear hK
  try simp only [Act.put, pst3]
  refine seg_run rfl (fun K hK => ?_)
  rw [if_pos (by rfl)]
  have hz15 := HB.2.2.2.1
  refine op_appQ elF (by decide) _ _ rfl base _ f.fn lu rfl ol (some ⟨g14, 0, none⟩) 1 1 [.bool fl] rfl (rd_rowC r14) rfl (by simp [Value.oneCell']) (by omega) (Nat.le_trans hbX hz15) (f.fn + 1) _ rfl rfl ?_
  intro A15 c15 w15 o15 g15 n15
  have o8 := own_to o8 (Agr.grown (P := fun j => Blk f.fa j) g15 (fun j e => blk_own.1 e)).p (fun j hj hh => own_apart o8 ol (by decide) (blk_own.1 hj) hh)
  have HB := HB.comp (Agr.grown (P := fun j => Blk f.ta j ∨ Blk f.fa j) g15 (fun j e => .inr (blk_own.1 e))) (fun j hj => .inl hj)
  have r15 := PX.out.row.agr HB.p N2g.out
  have c80 := r15.c80 PX.out.z
  have c81 := r15.c81 PX.out.z
  have f80 := r15.fr 80
  have f81 := r15.fr 81
  clear ol g15
  refine hK.out _ _ (HB) ?_
  clear hK
  try simp only [Act.put, pst3]
  iterate 2 (refine seg_take (v := ?_) rfl (Or.inl ⟨by rfl, ?_⟩) ?_; rotate_left; (focus (intro w' hw'; obtain ⟨c80, c81, x0, x1⟩ := HS.out w' hw'; go_simp <;> with_reducible rfl)); try simp only [Act.put, pst3])
  refine seg_done (fun _ => ?_)
  refine wpAnyY_gate (by kernel_rfl) ?_
  refine op_run rfl (fun K hK => ?_)
  go_simp
  skip
  refine hK.out _ _ (trivial) ?_
  clear hK
  try simp only [Act.put, pst3]
  refine wpAnyH_seg (by kernel_rfl) (fun _ _ d _ _ h => by first | (cases d <;> exact h) | cases h.1) 0 (brw9 22 4194303) [(19, true), (20, true), (21, false)] _ _ _ (by kernel_rfl) (trivial) ?_
  iterate 2 (refine seg_take (v := ?_) rfl (Or.inl ⟨by rfl, ?_⟩) ?_; rotate_left; (focus (intro w' hw'; go_simp <;> with_reducible rfl)); try simp only [Act.put, pst3])
  refine seg_run rfl (fun K hK => ?_)
  go_simp
  skip
  refine hK.out _ _ (trivial) ?_
  clear hK
  try simp only [Act.put, pst3]
  refine seg_done (fun _ => ?_)
  refine wpAnyH_done (by kernel_rfl) ?_ _
  obtain ⟨Y, hY⟩ : ∃ Y, Y = (w15.setCell ⟨g, 80, none⟩ (.slice A8 (f.tn + 1) c8)).setCell ⟨g, 81, none⟩ (.slice A15 (f.fn + 1) c15) := ⟨_, rfl⟩
  rw [← hY]
  obtain ⟨aY, sY, PY⟩ := PX.out.grow2 HB t2 l2 o8 o15 n8 hz8 n15 hz15 hx SX.out Y hY
  have PYh := Lib.hid PY
  have q1g : ¬ PlP g f q1 := fun hp => by have := HB1.out _ hp; omega
  have QY : Hid (JmAt Y q1 m1) := Lib.hid ((aY.2.2.2.2 q1 (by omega) q1g).trans QX.out)
  have JY := Lib.hid (JX.out.to aY.p sY)
  have bY : Below base w Y := (BX.out.mono hb).trans (aY.below (fun j hj => (PX.out.base_ j hj).1) hbX)
  clear hY PY aY sY c80 c81 f80 f81 o8 o15
  go_wp2_with (first | (refine jm_load JY.out.z rfl _ rfl rfl QY.out ?_) | (refine pl_storeJ rfl _ _ rfl rfl rfl PYh.out.row PYh.out.z JY.out.z ?_))
  go_ret
  rw [pyAsk_yes p HH.out]
  exact ret_pl PYh.out JY.out bY
theorem do_ask0 (n : Nat) (base g : Nat) (p : Py) (f : Pf) (a : Ac) (A : Option Addr) (na c : Nat) (B : Option Addr) (nb d : Nat) (w : World) (hI : PyI n p) (h : Pl base w g p f) (ha : a.ok) (hk : a.k = 1) (hb : base ≤ w.heap.size)
  (hA : BIn (fun j => base ≤ j) w A na c a.e.b) (hB : BIn (fun j => base ≤ j) w B nb d a.s) (hE : (jnAsk p.J).2.2.2 = false) :
  Calls Tryz.prog 12 #[.pointer (some ⟨g, 0, none⟩), .agg (acV a A na c B nb d)] w (RetPl base g w (pyAsk p) true) := by
 obtain ⟨V, hV⟩ : ∃ V, V = w.alloc (.cells (acV a A na c B nb d) 51) := ⟨_, rfl⟩
 have bV : Below w.heap.size w V := by rw [hV]; exact (below_self w).alloc (Nat.le_refl _) _
 have PV := Lib.hid (h.below bV)
 have qa : V.heap[w.heap.size]? = some (.cells (acV a A na c B nb d) 51 (0, 0)) := by rw [hV]; exact drw_at _ rfl
 have k0 := (cell_of_row V w.heap.size 0 _ _ _ qa).trans (show _ = some (.int .i64 a.k) from rfl)
 have k2 := (cell_of_row V w.heap.size 2 _ _ _ qa).trans (show _ = some (.int .u64 (a.e.t : Int)) from rfl)
 have k3 := (cell_of_row V w.heap.size 3 _ _ _ qa).trans (show _ = some (.int .i64 a.e.k) from rfl)
 have k4 := (cell_of_row V w.heap.size 4 _ _ _ qa).trans (show _ = some (.int .u64 (a.e.c : Int)) from rfl)
 have k5 := (cell_of_row V w.heap.size 5 _ _ _ qa).trans (show _ = some (.slice A na c) from rfl)
 rw [hk] at k0
 have QA := Lib.hid qa
 clear qa
 have hg := h.row.lt
 have hPV : ∀ j, PlP g f j → j < V.heap.size := fun j hj => (PV.out.base_ j hj).2
 have HV := Lib.hid hV
 clear hV
 go_enter Tryz.func12, Tryz.ntmps12
 go_wp2_with (first | (rw [← HV.out]) | (refine pl_loadJ rfl _ rfl rfl PV.out.row PV.out.z ?_))
 have HR := Lib.hid (jrnAsk_any (PlP g f) f.m p.J V PV.out.j hPV)
 obtain ⟨J1, x, fl, ok, hR⟩ : ∃ J1 x fl ok, jnAsk p.J = (J1, x, fl, ok) := ⟨_, _, _, _, rfl⟩
 rw [hR] at HR
 refine HR.out.mono ?_
 clear HR
 rintro e w1 ⟨m1, Ax, xn, xc, rfl, j1, sx, hx, b1⟩
 have HH := Lib.hid hR
 have BV := Lib.hid bV
 have Z1 := Lib.hid j1.z
 have P1 := Lib.hid (PV.out.below b1)
 have J1h := Lib.hid j1
 have S1 := Lib.hid sx
 clear hR j1 sx
 obtain rfl : ok = false := by have := hE; rw [HH.out] at this; exact this
 clear hE
 go_wp2_with (first | (refine jm_fresh3 (w0 := w1) _ Z1.out rfl _ _ rfl rfl rfl rfl rfl ?_; intro X2 zX2 qX2 cX2 bX2; have cZ2 : Hid (JbZ X2 (w1.heap.size + 1)) := Lib.hid cX2; clear cX2) | (refine jb_store rfl _ _ rfl rfl x.1 Ax xn xc rfl cZ2.out ?_; intro X zX3 qx3 bX3 nX3; have QX := Lib.hid (show JmAt X w1.heap.size m1 from (nX3 _ (by omega)).trans qX2.out); have b1X : Below w1.heap.size w1 X := bX2.trans (bX3 _ (by omega)); have PX := Lib.hid (P1.out.below b1X)) | (refine jm_load Z1.out rfl _ rfl rfl QX.out ?_) | (refine pl_storeJ rfl _ _ rfl rfl rfl PX.out.row PX.out.z Z1.out ?_))
 have JX := Lib.hid (J1h.out.below b1X)
 have bY : Below base w X := ((below_then BV.out (b1.trans (b1X.mono b1.size))).mono hb)
 go_ret
 rw [pyAsk_no p HH.out]
 exact ret_pl PX.out JX.out bY
set_option maxHeartbeats 4000000
section
variable {base : Nat} {w : World} {g : Nat} {p : Py} {f : Pf}
theorem Pl.others (h : Pl base w g p f) {w4 w5 : World} (hA : Below w.heap.size w w4) (hG : Agr (fun j => j = g) w4 w5) {P' : Nat → Prop} (hs : ∀ j, P' j → PlP g f j ∨ w.heap.size ≤ j) :
  Agr (PlP g f) w w5 ∧
  (∃ us, w5.ownsRow base 60 2 (.slice f.ta f.tn f.tc) f.tn us ∧ Rows 2 (JbE P' w5) us p.todo) ∧
  (∃ us, w5.ownsRow base 4 1 (.slice f.fa f.fn f.fc) f.fn us ∧ Rows 1 FlE us p.fl) ∧
  (∃ us, w5.ownsRow base 47 1 (.slice f.sa f.sn f.sc) f.sn us ∧ Rows 1 (StE P' w5) us p.sts) ∧
  (∃ us, w5.ownsRow base 87 1 (.slice f.ea f.en f.ec) f.en us ∧ Rows 1 (EsE P' w5) us p.evs) := by
 have hA5 : Agr (fun j => j = g) w w5 := (Agr.of_below (fun j => j = g) hA).comp hG (fun j hj => .inl hj)
 have hP : Agr (PlP g f) w w5 := hA5.sub (fun j hj => .inl hj)
 obtain ⟨tu, t1, t2⟩ := h.t
 obtain ⟨lu, l1, l2⟩ := h.l
 obtain ⟨su, s1, s2⟩ := h.s
 obtain ⟨eu, e1, e2⟩ := h.e
 refine ⟨hP, ⟨tu, own_to t1 hA5.p (fun j hj e => own_no t1 h.row (by decide) (blk_own.1 (e ▸ hj))), t2.imp fun _ _ x => x.to hP.p hs⟩, ⟨lu, own_to l1 hA5.p (fun j hj e => own_no l1 h.row (by decide) (blk_own.1 (e ▸ hj))), l2⟩, ⟨su, own_to s1 hA5.p (fun j hj e => own_no s1 h.row (by decide) (blk_own.1 (e ▸ hj))), s2.imp fun _ _ x => x.to hP.p hs⟩, ⟨eu, own_to e1 hA5.p (fun j hj e => own_no e1 h.row (by decide) (blk_own.1 (e ▸ hj))), e2.imp fun _ _ x => x.to hP.p hs⟩⟩
theorem blk_fresh {w4 : World} {b : Nat} {T : TypeId} {K n c j : Nat} {A : Option Addr} {us : List Value} (o : w4.ownsRow b T K (.slice A n c) n us) (hj : Blk A j) : b ≤ j := (own_typ o hj).1
theorem Pl.newT (h : Pl base w g p f) {w4 : World} (hA : Below w.heap.size w w4) {A : Option Addr} {n c : Nat} {us : List Value} {l : List Jb} (o : w4.ownsRow w.heap.size 60 2 (.slice A n c) n us) (r : Rows 2 (JbE (PlP g f) w) us l) :
  Agr (PlP g f) w (w4.setCell ⟨g, 80, none⟩ (.slice A n c)) ∧ (∀ j, PlP g { f with ta := A, tn := n, tc := c } j → PlP g f j ∨ w.heap.size ≤ j) ∧ Pl base (w4.setCell ⟨g, 80, none⟩ (.slice A n c)) g { p with todo := l } { f with ta := A, tn := n, tc := c } := by
 have hs : ∀ j, PlP g { f with ta := A, tn := n, tc := c } j → PlP g f j ∨ w.heap.size ≤ j := by
  rintro j (e | hj | hj | hj | hj)
  ·exact .inl (.inl e)
  ·exact .inr (blk_fresh o hj)
  ·exact .inl (.inr (.inr (.inl hj)))
  ·exact .inl (.inr (.inr (.inr (.inl hj))))
  ·exact .inl (.inr (.inr (.inr (.inr hj))))
 have hG : Agr (fun j => j = g) w4 (w4.setCell ⟨g, 80, none⟩ (.slice A n c)) := Agr.cellT _ rfl
 obtain ⟨hP, -, hl, hst, hev⟩ := h.others hA hG hs
 have r4 := h.row.up hA
 exact ⟨hP, hs, h.mk5 hP hs (r4.s80 h.z A n c) rfl rfl rfl rfl ⟨us, own_monoK (own_to o hG.p (fun j hj e => own_no o r4 (by decide) (blk_own.1 (e ▸ hj)))) (Nat.le_trans h.gb (Nat.le_of_lt h.row.lt)), r.imp fun _ _ x => x.to hP.p hs⟩ hl hst hev⟩
theorem Pl.newL (h : Pl base w g p f) {w4 : World} (hA : Below w.heap.size w w4) {A : Option Addr} {n c : Nat} {us : List Value} {l : List Bool} (o : w4.ownsRow w.heap.size 4 1 (.slice A n c) n us) (r : Rows 1 FlE us l) :
  Agr (PlP g f) w (w4.setCell ⟨g, 81, none⟩ (.slice A n c)) ∧ (∀ j, PlP g { f with fa := A, fn := n, fc := c } j → PlP g f j ∨ w.heap.size ≤ j) ∧ Pl base (w4.setCell ⟨g, 81, none⟩ (.slice A n c)) g { p with fl := l } { f with fa := A, fn := n, fc := c } := by
 have hs : ∀ j, PlP g { f with fa := A, fn := n, fc := c } j → PlP g f j ∨ w.heap.size ≤ j := by
  rintro j (e | hj | hj | hj | hj)
  ·exact .inl (.inl e)
  ·exact .inl (.inr (.inl hj))
  ·exact .inr (blk_fresh o hj)
  ·exact .inl (.inr (.inr (.inr (.inl hj))))
  ·exact .inl (.inr (.inr (.inr (.inr hj))))
 have hG : Agr (fun j => j = g) w4 (w4.setCell ⟨g, 81, none⟩ (.slice A n c)) := Agr.cellT _ rfl
 obtain ⟨hP, ht, -, hst, hev⟩ := h.others hA hG hs
 have r4 := h.row.up hA
 exact ⟨hP, hs, h.mk5 hP hs (r4.s81 h.z A n c) rfl rfl rfl rfl ht ⟨us, own_monoK (own_to o hG.p (fun j hj e => own_no o r4 (by decide) (blk_own.1 (e ▸ hj)))) (Nat.le_trans h.gb (Nat.le_of_lt h.row.lt)), r⟩ hst hev⟩
theorem Pl.todoAt (h : Pl base w g p f) (k : Nat) (hk : k < f.tn) : ∃ b A n c, f.ta = some ⟨b, 0, none⟩ ∧ b < w.heap.size ∧ Blk f.ta b ∧ w.cell? ⟨b, k * 2, none⟩ = some (.int .i64 (p.todo.getD k (0, [])).1) ∧ w.cell? ⟨b, k * 2 + 1, none⟩ = some (.slice A n c) ∧ BIn (PlP g f) w A n c (p.todo.getD k (0, [])).2 ∧ (-9223372036854775808 ≤ (p.todo.getD k (0, [])).1 ∧ (p.todo.getD k (0, [])).1 ≤ 9223372036854775807) ∧ f.tn ≤ f.tc := by
 obtain ⟨tu, t1, t2⟩ := h.t
 have hl := h.lens.1
 obtain ⟨cc, c1, c2, A, n, d, c3, c4, c5⟩ := Rows.at_ (0, []) k t2 (by omega)
 rcases t1.2 with ⟨-, h0⟩ | ⟨b, cap, cur, hv, hb, hrow, hcap, hmax, hsz, hcur⟩
 ·omega
 ·injection hv with hA _ hc
  have cell : ∀ i, i < 2 → w.cell? ⟨b, k * 2 + i, none⟩ = cc[i]? := fun i hi => by
   rw [cell_of_row w b _ _ _ _ hrow, ← c2 i hi, ← hcur, List.getElem?_take, if_pos (by omega)]; simp
  refine ⟨b, A, n, d, hA, drw_lt hrow, ⟨_, hA, rfl⟩, ?_, ?_, c5, c4, by omega⟩
  ·have := cell 0 (by omega); rw [Nat.add_zero] at this; rw [this, c3]; rfl
  ·rw [cell 1 (by omega), c3]; rfl
theorem Pl.flAt (h : Pl base w g p f) (k : Nat) (hk : k < f.fn) : ∃ b, f.fa = some ⟨b, 0, none⟩ ∧ b < w.heap.size ∧ Blk f.fa b ∧ w.cell? ⟨b, k, none⟩ = some (.bool (p.fl.getD k false)) ∧ f.fn ≤ f.fc := by
 obtain ⟨lu, l1, l2⟩ := h.l
 have hl := h.lens.2.1
 obtain ⟨cc, c1, c2, c3⟩ := Rows.at_ false k l2 (by omega)
 rcases l1.2 with ⟨-, h0⟩ | ⟨b, cap, cur, hv, hb, hrow, hcap, hmax, hsz, hcur⟩
 ·omega
 ·injection hv with hA _ hc
  refine ⟨b, hA, drw_lt hrow, ⟨_, hA, rfl⟩, ?_, by omega⟩
  have h2 := c2 0 (by omega)
  rw [Nat.mul_one, Nat.add_zero, ← hcur, List.getElem?_take, if_pos (by omega), c3] at h2
  rw [cell_of_row w b _ _ _ _ hrow]
  simpa using h2
end
theorem rd_take {w : World} {A : Option Addr} {us : List Value} (h : Rd w A us) (k : Nat) : Rd w A (us.take k) := by
 rcases h with h | ⟨b, o, rfl, hb, hc⟩
 ·exact .inl (by rw [h]; simp)
 ·exact .inr ⟨b, o, rfl, hb, fun i v hv => hc i v (by rw [List.getElem?_take] at hv; split at hv; exact hv; cases hv)⟩
theorem rd_drop {w : World} {b : Nat} {us : List Value} (h : Rd w (some ⟨b, 0, none⟩) us) (k : Nat) : Rd w (some ⟨b, k, none⟩) (us.drop k) := by
 rcases h with h | ⟨b', o, e, hb, hc⟩
 ·exact .inl (by rw [h]; simp)
 ·injection e with e; injection e with e1 e2; subst e1 e2
  refine .inr ⟨b, k, rfl, hb, fun i v hv => ?_⟩
  rw [List.getElem?_drop] at hv
  have := hc _ v hv
  rwa [Nat.zero_add] at this
end Go.Proofs.YtpahicfnhhhifaaGreat
