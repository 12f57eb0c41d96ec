/-
 Proved here, for the statement JournalBurst:
 Layer 14: the laws' play: the disk does one of what it was asked to.
-/
import Derived.Test.YtpahicfnhhhifaaGreatGb28
set_option linter.unusedVariables false
set_option linter.unusedSimpArgs false
namespace Go.Proofs.YtpahicfnhhhifaaGreat
set_option maxRecDepth 20000
open Go.RowKit
set_option maxHeartbeats 8000000
theorem pyOne_eq (p : Py) (k : Nat) {DD : Dk} (hD : pyHit p k = DD) (hE : pyHitE p k = 0) : pyOne p k = { p with D := DD, J := jnCame p.J true, todo := p.todo.take k ++ p.todo.drop (k + 1), fl := p.fl.take k ++ p.fl.drop (k + 1) } := by
 unfold pyOne
 rw [hD, hE, List.eraseIdx_eq_take_drop_succ, List.eraseIdx_eq_take_drop_succ]
 rfl
theorem do_hit00 (n : Nat) (base g : Nat) (p : Py) (f : Pf) (a : Ac) (A : Option Addr) (na c : Nat) (B : Option Addr) (nb d : Nat) (w : World) (hI : PyI n p) (h : Pl base w g p f) (ha : a.ok) (hk : a.k = 2) (hb : base ≤ w.heap.size)
  (hA : BIn (fun j => base ≤ j) w A na c a.e.b) (hB : BIn (fun j => base ≤ j) w B nb d a.s) (hN : f.tn = 0) :
  Calls Tryz.prog 12 #[.pointer (some ⟨g, 0, none⟩), .agg (acV a A na c B nb d)] w (RetPl base g w p true) := by
 obtain ⟨V, hV⟩ : ∃ V, V = w.alloc (.cells (acV a A na c B nb d) 51) := ⟨_, rfl⟩
 have bV : Below w.heap.size w V := by rw [hV]; exact (below_self w).alloc (Nat.le_refl _) _
 have PV := Lib.hid (h.below bV)
 have qa : V.heap[w.heap.size]? = some (.cells (acV a A na c B nb d) 51 (0, 0)) := by rw [hV]; exact drw_at _ rfl
 have k0 := (cell_of_row V w.heap.size 0 _ _ _ qa).trans (show _ = some (.int .i64 a.k) from rfl)
 have k2 := (cell_of_row V w.heap.size 2 _ _ _ qa).trans (show _ = some (.int .u64 (a.e.t : Int)) from rfl)
 have k3 := (cell_of_row V w.heap.size 3 _ _ _ qa).trans (show _ = some (.int .i64 a.e.k) from rfl)
 have k4 := (cell_of_row V w.heap.size 4 _ _ _ qa).trans (show _ = some (.int .u64 (a.e.c : Int)) from rfl)
 have k5 := (cell_of_row V w.heap.size 5 _ _ _ qa).trans (show _ = some (.slice A na c) from rfl)
 rw [hk] at k0
 have QA := Lib.hid qa
 clear qa
 have hg := h.row.lt
 have hPV : ∀ j, PlP g f j → j < V.heap.size := fun j hj => (PV.out.base_ j hj).2
 have HV := Lib.hid hV
 clear hV
 have k1 := (cell_of_row V w.heap.size 1 _ _ _ QA.out).trans (show _ = some (.int .i64 a.n) from rfl)
 have c80 := PV.out.row.c80 PV.out.z
 rw [hN] at c80
 go_enter Tryz.func12, Tryz.ntmps12
 go_wp2_with (first | (rw [← HV.out]) | (refine pl_loadJ rfl _ rfl rfl PV.out.row PV.out.z ?_))
 go_ret
 exact ⟨rfl, bV.mono hb, f, PV.out⟩
theorem do_hit01 (n : Nat) (base g : Nat) (p : Py) (f : Pf) (a : Ac) (A : Option Addr) (na c : Nat) (B : Option Addr) (nb d : Nat) (w : World) (hI : PyI n p) (h : Pl base w g p f) (ha : a.ok) (hk : a.k = 2) (hb : base ≤ w.heap.size)
  (hA : BIn (fun j => base ≤ j) w A na c a.e.b) (hB : BIn (fun j => base ≤ j) w B nb d a.s) (hN : ¬ f.tn = 0) (hN2 : a.n < 0) :
  Calls Tryz.prog 12 #[.pointer (some ⟨g, 0, none⟩), .agg (acV a A na c B nb d)] w (RetPl base g w p true) := by
 obtain ⟨V, hV⟩ : ∃ V, V = w.alloc (.cells (acV a A na c B nb d) 51) := ⟨_, rfl⟩
 have bV : Below w.heap.size w V := by rw [hV]; exact (below_self w).alloc (Nat.le_refl _) _
 have PV := Lib.hid (h.below bV)
 have qa : V.heap[w.heap.size]? = some (.cells (acV a A na c B nb d) 51 (0, 0)) := by rw [hV]; exact drw_at _ rfl
 have k0 := (cell_of_row V w.heap.size 0 _ _ _ qa).trans (show _ = some (.int .i64 a.k) from rfl)
 have k2 := (cell_of_row V w.heap.size 2 _ _ _ qa).trans (show _ = some (.int .u64 (a.e.t : Int)) from rfl)
 have k3 := (cell_of_row V w.heap.size 3 _ _ _ qa).trans (show _ = some (.int .i64 a.e.k) from rfl)
 have k4 := (cell_of_row V w.heap.size 4 _ _ _ qa).trans (show _ = some (.int .u64 (a.e.c : Int)) from rfl)
 have k5 := (cell_of_row V w.heap.size 5 _ _ _ qa).trans (show _ = some (.slice A na c) from rfl)
 rw [hk] at k0
 have QA := Lib.hid qa
 clear qa
 have hg := h.row.lt
 have hPV : ∀ j, PlP g f j → j < V.heap.size := fun j hj => (PV.out.base_ j hj).2
 have HV := Lib.hid hV
 clear hV
 have k1 := (cell_of_row V w.heap.size 1 _ _ _ QA.out).trans (show _ = some (.int .i64 a.n) from rfl)
 have c80 := PV.out.row.c80 PV.out.z
 have tq : ((f.tn : Int) == 0) = false := beq_eq_false_iff_ne.2 (by omega)
 go_enter Tryz.func12, Tryz.ntmps12
 go_wp2_with (first | (rw [← HV.out]) | (refine pl_loadJ rfl _ rfl rfl PV.out.row PV.out.z ?_))
 go_ret
 exact ⟨rfl, bV.mono hb, f, PV.out⟩
theorem do_flush (n : Nat) (base g : Nat) (p : Py) (f : Pf) (a : Ac) (A : Option Addr) (na c : Nat) (B : Option Addr) (nb d : Nat) (w : World) (hI : PyI n p) (h : Pl base w g p f) (ha : a.ok) (hk : a.k = 2) (hb : base ≤ w.heap.size)
  (hA : BIn (fun j => base ≤ j) w A na c a.e.b) (hB : BIn (fun j => base ≤ j) w B nb d a.s) (nn : Nat) (hnn : a.n = (nn : Int)) (ht : ¬ f.tn = 0) (kk : Nat) (hkk : nn % f.tn = kk) (hF : p.fl.getD kk false = true) :
  Calls Tryz.prog 12 #[.pointer (some ⟨g, 0, none⟩), .agg (acV a A na c B nb d)] w (RetPl base g w (pyOne p kk) true) := by
 obtain ⟨V, hV⟩ : ∃ V, V = w.alloc (.cells (acV a A na c B nb d) 51) := ⟨_, rfl⟩
 have bV : Below w.heap.size w V := by rw [hV]; exact (below_self w).alloc (Nat.le_refl _) _
 have PV := Lib.hid (h.below bV)
 have qa : V.heap[w.heap.size]? = some (.cells (acV a A na c B nb d) 51 (0, 0)) := by rw [hV]; exact drw_at _ rfl
 have k0 := (cell_of_row V w.heap.size 0 _ _ _ qa).trans (show _ = some (.int .i64 a.k) from rfl)
 have k2 := (cell_of_row V w.heap.size 2 _ _ _ qa).trans (show _ = some (.int .u64 (a.e.t : Int)) from rfl)
 have k3 := (cell_of_row V w.heap.size 3 _ _ _ qa).trans (show _ = some (.int .i64 a.e.k) from rfl)
 have k4 := (cell_of_row V w.heap.size 4 _ _ _ qa).trans (show _ = some (.int .u64 (a.e.c : Int)) from rfl)
 have k5 := (cell_of_row V w.heap.size 5 _ _ _ qa).trans (show _ = some (.slice A na c) from rfl)
 rw [hk] at k0
 have QA := Lib.hid qa
 clear qa
 have hg := h.row.lt
 have hPV : ∀ j, PlP g f j → j < V.heap.size := fun j hj => (PV.out.base_ j hj).2
 have HV := Lib.hid hV
 clear hV
 have k1 := (cell_of_row V w.heap.size 1 _ _ _ QA.out).trans (show _ = some (.int .i64 a.n) from rfl)
 have c80 := PV.out.row.c80 PV.out.z
 rw [hnn] at k1
 have tq : ((f.tn : Int) == 0) = false := beq_eq_false_iff_ne.2 (by omega)
 have nq : ¬ ((nn : Int) < 0) := by omega
 have lt_ := PV.out.lens.1
 have ll_ := PV.out.lens.2.1
 have lj_ := (pyI_jobs hI).2.2.1
 have lf_ := (pyI_jobs hI).2.2.2.1
 have hkl : kk < f.tn := by rw [← hkk]; exact Nat.mod_lt _ (by omega)
 have tm : (nn : Int).tmod (f.tn : Int) = (kk : Int) := by rw [← hkk]; exact (Int.ofNat_tmod nn f.tn).symm
 have wk : IntKind.i64.wrap (kk : Int) = (kk : Int) := wi64n (by omega)
 have HT := Lib.hid ht
 have tq0 : ¬ ((f.tn : Int) = 0) := by omega
 clear hkk hnn
 have BV := Lib.hid bV
 go_enter Tryz.func12, Tryz.ntmps12
 go_wp2_with (first | (rw [← HV.out]) | (refine pl_loadJ rfl _ rfl rfl PV.out.row PV.out.z ?_))
 refine wp_region_plan (S := fun w' => w' = V.drew) [(0, true), (1, true), (2, true), (3, true), (4, true), (5, true), (6, true), (7, true), (8, true)] (by kernel_rfl) (by kernel_rfl) (fun _ _ d _ _ h => by cases d <;> exact h) (rfl) ?_
 iterate 9 (refine plan_take (v := ?_) rfl (Or.inl ⟨by rfl, ?_⟩) ?_; rotate_left; (focus (intro w' hw'; subst hw'; go_simp <;> with_reducible rfl)); try simp only [Act.put, pst3])
 refine plan_done ?_
 have P0 := PV.out.below (Below.refl _ V).drew
 have B0 : Below w.heap.size w V.drew := BV.out.drew
 clear k0 k1 k2 k3 k4 k5 c80 bV QA HV
 generalize V.drew = X0 at P0 B0 ⊢
 have PX := Lib.hid P0
 have BX := Lib.hid B0
 obtain ⟨bf, hfa, hbf, hblkf, cfl, hfc⟩ := P0.flAt kk (by omega)
 rw [hF] at cfl
 have c81 := P0.row.c81 P0.z
 rw [hfa] at c81
 have c78 := P0.row.c78 P0.z
 have c79 := P0.row.c79 P0.z
 have ik : (kk : Int) < (f.fn : Int) := by omega
 clear P0 B0 tm tq tq0 nq wk
 have HC := Lib.hid (vRFlushS PX.out.d (fun j hj => (PX.out.base_ j hj).2) hI.b.dk)
 go_wp2_with fail
 refine HC.out.mono ?_
 clear HC
 rintro e w1 ⟨AV1, rfl, d1, b1⟩
 obtain ⟨S1, sn1, sc1, K1, kn1, kc1, vs1, us1, rfl, fS⟩ := d1
 have D1 := Lib.hid (show DkS (PlP g f) w1 #[.slice S1 sn1 sc1, .slice K1 kn1 kc1] (dkFlush p.D) from ⟨S1, sn1, sc1, K1, kn1, kc1, vs1, us1, rfl, fS⟩)
 have P1 := Lib.hid (PX.out.below b1)
 have B1 := Lib.hid (below_then BX.out b1)
 clear fS c78 c79 c81 cfl
 have c78 := P1.out.row.c78 P1.out.z
 have c79 := P1.out.row.c79 P1.out.z
 have f78 := P1.out.row.fr 78
 have f79 := P1.out.row.fr 79
 go_wp2_with fail
 have PD : Pl base ((w1.setCell ⟨g, 78, none⟩ (.slice S1 sn1 sc1)).setCell ⟨g, 79, none⟩ (.slice K1 kn1 kc1)) g { p with D := dkFlush p.D } { f with dS := S1, dn := sn1, dc := sc1, dK := K1, kn := kn1, kc := kc1 } := P1.out.setD D1.out
 have BD : Below base w ((w1.setCell ⟨g, 78, none⟩ (.slice S1 sn1 sc1)).setCell ⟨g, 79, none⟩ (.slice K1 kn1 kc1)) := ((B1.out.mono hb).setCell P1.out.gb _).setCell P1.out.gb _
 clear c78 c79 f78 f79
 generalize (w1.setCell ⟨g, 78, none⟩ (.slice S1 sn1 sc1)).setCell ⟨g, 79, none⟩ (.slice K1 kn1 kc1) = X at PD BD ⊢
 obtain ⟨DD, hDD⟩ : ∃ D, D = dkFlush p.D := ⟨_, rfl⟩
 rw [← hDD] at PD
 have HDD : Hid (pyHit p kk = DD) := Lib.hid (by unfold pyHit; rw [if_pos hF, hDD])
 obtain ⟨f1, hf1⟩ : ∃ f1 : Pf, f1 = { f with dS := S1, dn := sn1, dc := sc1, dK := K1, kn := kn1, kc := kc1 } := ⟨_, rfl⟩
 have e1 : f1.tn = f.tn ∧ f1.fn = f.fn := by rw [hf1]; exact ⟨rfl, rfl⟩
 rw [← hf1] at PD
 obtain ⟨e1t, e1f⟩ := e1
 have PX1 := Lib.hid PD
 have BX1 := Lib.hid BD
 have HEE : Hid (pyHitE p kk = 0) := Lib.hid (by unfold pyHitE; rw [if_pos hF]; unfold dkE; rw [if_pos hI.b.dk])
 clear PD BD hDD hf1 D1 P1 B1 b1 PX BX ik hfc hblkf hbf hfa PV BV hPV
 rw [← e1t] at hkl lt_ ht
 rw [← e1f] at ll_
 clear e1t e1f HT
 obtain ⟨tua, t1a, t2a⟩ := PX1.out.t
 obtain ⟨bta, Ata, nta, cta, htaa, hbta, hblkta, -, -, -, -, htca⟩ := PX1.out.todoAt kk hkl
 have cca := PX1.out.row.c80 PX1.out.z
 rw [htaa] at cca t1a
 have lga := PX1.out.row.lt
 obtain ⟨tna, htna⟩ : ∃ n, n = f1.tn := ⟨_, rfl⟩
 obtain ⟨tca, htcca⟩ : ∃ n, n = f1.tc := ⟨_, rfl⟩
 rw [← htna] at t1a cca htca
 rw [← htcca] at t1a cca htca
 have lna : kk < tna ∧ tna ≤ 200 := by rw [htna]; omega
 have HSa : Hid (∀ w', Below X.heap.size X w' → w'.cell? ⟨g, 80, none⟩ = some (.slice (some ⟨bta, 0, none⟩) tna tca)) := Lib.hid (fun w' hw => (World.cell?_of_block (hw.block g lga)).trans cca)
 clear htna htcca cca
 have RDa := Lib.hid (own_rdK t1a).1
 have RTa := Lib.hid t2a
 have tula : tua.length = tna * 2 := t1a.1
 clear t1a
 have i1a : (kk : Int) ≤ (tca : Int) := by omega
 have i2a : (kk : Int) + 1 ≤ (tna : Int) := by omega
 have i3a : (kk : Int) ≤ (tna : Int) := by omega
 have wk1a : IntKind.i64.wrap ((kk : Int) + 1) = (kk : Int) + 1 := by have := wi64n (k := kk + 1) (by omega); push_cast at this; exact this
 have i0a : 0 ≤ (kk : Int) + 1 := by omega
 obtain ⟨AQa, eqAa⟩ : ∃ A : Option Addr, (if tca = kk + 1 then (some ⟨bta, 0, none⟩ : Option Addr) else some ⟨bta, (kk + 1) * 2, none⟩) = A := ⟨_, rfl⟩
 have RQa : Hid (Rd X AQa (tua.drop ((kk + 1) * 2))) := Lib.hid (by
  rw [← eqAa]
  by_cases hq : tca = kk + 1
  ·rw [if_pos hq]; exact .inl (List.drop_eq_nil_of_le (by omega))
  ·rw [if_neg hq]; exact rd_drop RDa.out _)
 go_wp2_with fail
 refine wp_region_segY (S := fun w' => Below X.heap.size X w') 19 1 (brw9 20 524287) [(0, true), (2, true), (3, true), (4, true), (5, true), (6, true), (7, true), (9, true), (10, true), (11, true), (12, true), (13, true), (14, true), (15, true), (1, false), (8, false), (16, false), (17, true), (18, true)] (by kernel_rfl) (by kernel_rfl) (fun _ _ d _ _ h => by first | (cases d <;> exact h) | cases h.1) ((Below.refl X.heap.size X).drew) ?_
 have HB := (Below.refl X.heap.size X).drew
 iterate 14 (refine seg_take (v := ?_) rfl (Or.inl ⟨by rfl, ?_⟩) ?_; rotate_left; (focus (intro w' hw'; have ca := HSa.out w' hw'; go_simp <;> with_reducible rfl)); try simp only [Act.put, pst3])
 refine seg_run rfl (fun K hK => ?_)
 rw [if_pos (by rfl)]
 refine op_litK #[] 60 0 (fun w => by go_simp) ?_
 intro g1 w21 e1 r1 b21 z21
 have o1 : w21.ownsRow X.heap.size 60 2 (.slice (some ⟨g1, 0, none⟩) 0 0) 0 [] := own_monoK (own_emptyK r1) (by rw [← e1]; exact HB.size)
 have HB := below_then HB b21
 refine hK.out _ _ (HB) ?_
 clear hK
 try simp only [Act.put, pst3]
 refine seg_run rfl (fun K hK => ?_)
 rw [if_pos (by rfl)]
 refine op_appQ elJ (by decide) _ _ rfl X.heap.size _ 0 [] rfl o1 (some ⟨bta, 0, none⟩) kk tca (tua.take (kk * 2)) rfl ((rd_take RDa.out _).below HB) (by rw [List.length_take]; omega) (RTa.out.take kk).one (by omega) HB.size kk (tua.take (kk * 2)) (by omega) rfl ?_
 intro A8 c8 w8 o8 g8 n8
 have HB := grown_beyond HB g8 (fun j hj => (own_typ o1 hj).1)
 clear o1 g8 n8
 refine hK.out _ _ (HB) ?_
 clear hK
 try simp only [Act.put, pst3]
 refine seg_run rfl (fun K hK => ?_)
 rw [if_pos (by rfl)]
 refine op_appQ elJ (by decide) _ _ rfl X.heap.size _ kk (tua.take (kk * 2)) rfl o8 AQa (tna - (kk + 1)) (tca - (kk + 1)) (tua.drop ((kk + 1) * 2)) rfl (RQa.out.below HB) (by rw [List.length_drop, tula]; omega) (RTa.out.drop (kk + 1)).one (by omega) HB.size (tna - 1) (tua.take (kk * 2) ++ tua.drop ((kk + 1) * 2)) (by omega) rfl ?_
 intro A16 c16 w16 o16 g16 n16
 have HB := grown_beyond HB g16 (fun j hj => (own_typ o8 hj).1)
 have rX := PX1.out.row.up HB
 have ca := rX.c80 PX1.out.z
 have fa := rX.fr 80
 clear o8 g16 n16
 refine hK.out _ _ (HB) ?_
 clear hK
 try simp only [Act.put, pst3]
 iterate 2 (refine seg_take (v := ?_) rfl (Or.inl ⟨by rfl, ?_⟩) ?_; rotate_left; (focus (intro w' hw'; have ca := HSa.out w' hw'; go_simp <;> with_reducible rfl)); try simp only [Act.put, pst3])
 refine seg_done (fun _ => ?_)
 refine wpAnyY_gate (by kernel_rfl) ?_
 refine op_run rfl (fun K hK => ?_)
 go_simp
 skip
 refine hK.out _ _ (trivial) ?_
 clear hK
 try simp only [Act.put, pst3]
 refine wpAnyH_seg (by kernel_rfl) (fun _ _ d _ _ h => by first | (cases d <;> exact h) | cases h.1) 0 (brw9 20 1048575) [] _ _ _ (by kernel_rfl) (trivial) ?_
 refine seg_done (fun _ => ?_)
 refine wpAnyH_done (by kernel_rfl) ?_ _
 skip
 obtain ⟨aYa, sYa, PYa⟩ := PX1.out.newT HB o16 (Rows.app (RTa.out.drop (kk + 1)) (RTa.out.take kk))
 have bYa : Below base w (w16.setCell ⟨g, 80, none⟩ (.slice A16 (tna - 1) c16)) := BX1.out.trans ((HB.mono (Nat.le_trans PX1.out.gb (Nat.le_of_lt PX1.out.row.lt))).setCell PX1.out.gb _)
 clear ca fa rX aYa sYa HB
 generalize hYa : w16.setCell ⟨g, 80, none⟩ (.slice A16 (tna - 1) c16) = Ya at PYa bYa ⊢
 obtain ⟨ffa, hffa⟩ : ∃ ff : Pf, ff = { f1 with ta := A16, tn := tna - 1, tc := c16 } := ⟨_, rfl⟩
 rw [← hffa] at PYa
 have PZa : Hid (Pl base Ya g { p with D := DD, todo := p.todo.take kk ++ p.todo.drop (kk + 1) } ffa) := Lib.hid PYa
 have BZa := Lib.hid bYa
 have la2 : p.fl.length = ffa.fn := PZa.out.lens.2.1
 clear PYa bYa hYa o16 hffa wk1a i0a i1a i2a i3a eqAa HSa RQa RDa
 obtain ⟨tub, t1b, t2b⟩ := PZa.out.l
 obtain ⟨btb, htab, hbtb, hblktb, -, htcb⟩ := PZa.out.flAt kk (by omega)
 have ccb := PZa.out.row.c81 PZa.out.z
 rw [htab] at ccb t1b
 have lgb := PZa.out.row.lt
 obtain ⟨tnb, htnb⟩ : ∃ n, n = ffa.fn := ⟨_, rfl⟩
 obtain ⟨tcb, htccb⟩ : ∃ n, n = ffa.fc := ⟨_, rfl⟩
 rw [← htnb] at t1b ccb htcb
 rw [← htccb] at t1b ccb htcb
 have lnb : kk < tnb ∧ tnb ≤ 200 := by rw [htnb]; omega
 have HSb : Hid (∀ w', Below Ya.heap.size Ya w' → w'.cell? ⟨g, 81, none⟩ = some (.slice (some ⟨btb, 0, none⟩) tnb tcb)) := Lib.hid (fun w' hw => (World.cell?_of_block (hw.block g lgb)).trans ccb)
 clear htnb htccb ccb
 have RDb := Lib.hid (own_rdK t1b).1
 have RTb := Lib.hid t2b
 have tulb : tub.length = tnb * 1 := t1b.1
 clear t1b
 have i1b : (kk : Int) ≤ (tcb : Int) := by omega
 have i2b : (kk : Int) + 1 ≤ (tnb : Int) := by omega
 have i3b : (kk : Int) ≤ (tnb : Int) := by omega
 have wk1b : IntKind.i64.wrap ((kk : Int) + 1) = (kk : Int) + 1 := by have := wi64n (k := kk + 1) (by omega); push_cast at this; exact this
 have i0b : 0 ≤ (kk : Int) + 1 := by omega
 obtain ⟨AQb, eqAb⟩ : ∃ A : Option Addr, (if tcb = kk + 1 then (some ⟨btb, 0, none⟩ : Option Addr) else some ⟨btb, kk + 1, none⟩) = A := ⟨_, rfl⟩
 have RQb : Hid (Rd Ya AQb (tub.drop ((kk + 1) * 1))) := Lib.hid (by
  rw [← eqAb]
  by_cases hq : tcb = kk + 1
  ·rw [if_pos hq]; exact .inl (List.drop_eq_nil_of_le (by omega))
  ·rw [if_neg hq]; exact (by have := rd_drop RDb.out ((kk + 1) * 1); rw [Nat.mul_one] at this ⊢; exact this))
 go_wp2_with fail
 refine wp_region_segY (S := fun w' => Below Ya.heap.size Ya w') 19 1 (brw9 20 524287) [(0, true), (2, true), (3, true), (4, true), (5, true), (6, true), (7, true), (9, true), (10, true), (11, true), (12, true), (13, true), (14, true), (15, true), (1, false), (8, false), (16, false), (17, true), (18, true)] (by kernel_rfl) (by kernel_rfl) (fun _ _ d _ _ h => by first | (cases d <;> exact h) | cases h.1) ((Below.refl Ya.heap.size Ya).drew) ?_
 have HB := (Below.refl Ya.heap.size Ya).drew
 iterate 14 (refine seg_take (v := ?_) rfl (Or.inl ⟨by rfl, ?_⟩) ?_; rotate_left; (focus (intro w' hw'; have cb := HSb.out w' hw'; go_simp <;> with_reducible rfl)); try simp only [Act.put, pst3])
 refine seg_run rfl (fun K hK => ?_)
 rw [if_pos (by rfl)]
 refine op_litK #[] 4 0 (fun w => by go_simp) ?_
 intro g1 w21 e1 r1 b21 z21
 have o1 : w21.ownsRow Ya.heap.size 4 1 (.slice (some ⟨g1, 0, none⟩) 0 0) 0 [] := own_monoK (own_emptyK r1) (by rw [← e1]; exact HB.size)
 have HB := below_then HB b21
 refine hK.out _ _ (HB) ?_
 clear hK
 try simp only [Act.put, pst3]
 refine seg_run rfl (fun K hK => ?_)
 rw [if_pos (by rfl)]
 refine op_appQ elF (by decide) _ _ rfl Ya.heap.size _ 0 [] rfl o1 (some ⟨btb, 0, none⟩) kk tcb (tub.take (kk * 1)) rfl ((rd_take RDb.out _).below HB) (by rw [List.length_take]; omega) (RTb.out.take kk).one (by omega) HB.size kk (tub.take (kk * 1)) (by omega) rfl ?_
 intro A8 c8 w8 o8 g8 n8
 have HB := grown_beyond HB g8 (fun j hj => (own_typ o1 hj).1)
 clear o1 g8 n8
 refine hK.out _ _ (HB) ?_
 clear hK
 try simp only [Act.put, pst3]
 refine seg_run rfl (fun K hK => ?_)
 rw [if_pos (by rfl)]
 refine op_appQ elF (by decide) _ _ rfl Ya.heap.size _ kk (tub.take (kk * 1)) rfl o8 AQb (tnb - (kk + 1)) (tcb - (kk + 1)) (tub.drop ((kk + 1) * 1)) rfl (RQb.out.below HB) (by rw [List.length_drop, tulb]; omega) (RTb.out.drop (kk + 1)).one (by omega) HB.size (tnb - 1) (tub.take (kk * 1) ++ tub.drop ((kk + 1) * 1)) (by omega) rfl ?_
 intro A16 c16 w16 o16 g16 n16
 have HB := grown_beyond HB g16 (fun j hj => (own_typ o8 hj).1)
 have rX := PZa.out.row.up HB
 have cb := rX.c81 PZa.out.z
 have fb := rX.fr 81
 clear o8 g16 n16
 refine hK.out _ _ (HB) ?_
 clear hK
 try simp only [Act.put, pst3]
 iterate 2 (refine seg_take (v := ?_) rfl (Or.inl ⟨by rfl, ?_⟩) ?_; rotate_left; (focus (intro w' hw'; have cb := HSb.out w' hw'; go_simp <;> with_reducible rfl)); try simp only [Act.put, pst3])
 refine seg_done (fun _ => ?_)
 refine wpAnyY_gate (by kernel_rfl) ?_
 refine op_run rfl (fun K hK => ?_)
 go_simp
 skip
 refine hK.out _ _ (trivial) ?_
 clear hK
 try simp only [Act.put, pst3]
 refine wpAnyH_seg (by kernel_rfl) (fun _ _ d _ _ h => by first | (cases d <;> exact h) | cases h.1) 0 (brw9 20 1048575) [] _ _ _ (by kernel_rfl) (trivial) ?_
 refine seg_done (fun _ => ?_)
 refine wpAnyH_done (by kernel_rfl) ?_ _
 skip
 obtain ⟨aYb, sYb, PYb⟩ := PZa.out.newL HB o16 (Rows.app (RTb.out.drop (kk + 1)) (RTb.out.take kk))
 have bYb : Below base w (w16.setCell ⟨g, 81, none⟩ (.slice A16 (tnb - 1) c16)) := BZa.out.trans ((HB.mono (Nat.le_trans PZa.out.gb (Nat.le_of_lt PZa.out.row.lt))).setCell PZa.out.gb _)
 clear cb fb rX aYb sYb HB
 generalize hYb : w16.setCell ⟨g, 81, none⟩ (.slice A16 (tnb - 1) c16) = Yb at PYb bYb ⊢
 obtain ⟨ffb, hffb⟩ : ∃ ff : Pf, ff = { ffa with fa := A16, fn := tnb - 1, fc := c16 } := ⟨_, rfl⟩
 rw [← hffb] at PYb
 have PZb : Hid (Pl base Yb g { p with D := DD, todo := p.todo.take kk ++ p.todo.drop (kk + 1), fl := p.fl.take kk ++ p.fl.drop (kk + 1) } ffb) := Lib.hid PYb
 have BZb := Lib.hid bYb
 clear PYb bYb hYb o16 hffb wk1b i0b i1b i2b i3b eqAb HSb RQb RDb
 have HP : Hid (∀ j, PlP g ffb j → j < Yb.heap.size) := Lib.hid (fun j hj => (PZb.out.base_ j hj).2)
 have hcm := jrnCame_any (PlP g ffb) ffb.m p.J true Yb PZb.out.j HP.out
 rw [pyCameE hI (fun e => by rw [e] at lt_; simp at lt_; omega)] at hcm
 have HCM := Lib.hid hcm
 clear hcm
 go_wp2_with (refine pl_loadJ rfl _ rfl rfl PZb.out.row PZb.out.z ?_)
 refine HCM.out.mono ?_
 clear HCM
 rintro e w23 ⟨m2, rfl, j2, b23⟩
 have Z2 := Lib.hid j2.z
 have J2 := Lib.hid j2
 have P23 := Lib.hid (PZb.out.below b23)
 clear j2
 go_wp2_with (first | (refine jm_fresh Z2.out rfl _ _ rfl rfl rfl w23 rfl rfl ?_; intro X23 q23 x23; have P24 := Lib.hid (P23.out.below x23)) | (refine jm_load Z2.out rfl _ rfl rfl q23.out ?_) | (refine pl_storeJ rfl _ _ rfl rfl rfl P24.out.row P24.out.z Z2.out ?_))
 have BZ := BZb.out.trans ((below_then b23 x23).mono (Nat.le_trans PZb.out.gb (Nat.le_of_lt PZb.out.row.lt)))
 go_ret
 rw [pyOne_eq p kk HDD.out HEE.out]
 exact ret_pl P24.out (J2.out.below x23) BZ
theorem do_write (n : Nat) (base g : Nat) (p : Py) (f : Pf) (a : Ac) (A : Option Addr) (na c : Nat) (B : Option Addr) (nb d : Nat) (w : World) (hI : PyI n p) (h : Pl base w g p f) (ha : a.ok) (hk : a.k = 2) (hb : base ≤ w.heap.size)
  (hA : BIn (fun j => base ≤ j) w A na c a.e.b) (hB : BIn (fun j => base ≤ j) w B nb d a.s) (nn : Nat) (hnn : a.n = (nn : Int)) (ht : ¬ f.tn = 0) (kk : Nat) (hkk : nn % f.tn = kk) (hF : p.fl.getD kk false = false) (hW : dkWriteE p.D (p.todo.getD kk (0, [])).1 (p.todo.getD kk (0, [])).2 = 0) :
  Calls Tryz.prog 12 #[.pointer (some ⟨g, 0, none⟩), .agg (acV a A na c B nb d)] w (RetPl base g w (pyOne p kk) true) := by
 obtain ⟨V, hV⟩ : ∃ V, V = w.alloc (.cells (acV a A na c B nb d) 51) := ⟨_, rfl⟩
 have bV : Below w.heap.size w V := by rw [hV]; exact (below_self w).alloc (Nat.le_refl _) _
 have PV := Lib.hid (h.below bV)
 have qa : V.heap[w.heap.size]? = some (.cells (acV a A na c B nb d) 51 (0, 0)) := by rw [hV]; exact drw_at _ rfl
 have k0 := (cell_of_row V w.heap.size 0 _ _ _ qa).trans (show _ = some (.int .i64 a.k) from rfl)
 have k2 := (cell_of_row V w.heap.size 2 _ _ _ qa).trans (show _ = some (.int .u64 (a.e.t : Int)) from rfl)
 have k3 := (cell_of_row V w.heap.size 3 _ _ _ qa).trans (show _ = some (.int .i64 a.e.k) from rfl)
 have k4 := (cell_of_row V w.heap.size 4 _ _ _ qa).trans (show _ = some (.int .u64 (a.e.c : Int)) from rfl)
 have k5 := (cell_of_row V w.heap.size 5 _ _ _ qa).trans (show _ = some (.slice A na c) from rfl)
 rw [hk] at k0
 have QA := Lib.hid qa
 clear qa
 have hg := h.row.lt
 have hPV : ∀ j, PlP g f j → j < V.heap.size := fun j hj => (PV.out.base_ j hj).2
 have HV := Lib.hid hV
 clear hV
 have k1 := (cell_of_row V w.heap.size 1 _ _ _ QA.out).trans (show _ = some (.int .i64 a.n) from rfl)
 have c80 := PV.out.row.c80 PV.out.z
 rw [hnn] at k1
 have tq : ((f.tn : Int) == 0) = false := beq_eq_false_iff_ne.2 (by omega)
 have nq : ¬ ((nn : Int) < 0) := by omega
 have lt_ := PV.out.lens.1
 have ll_ := PV.out.lens.2.1
 have lj_ := (pyI_jobs hI).2.2.1
 have lf_ := (pyI_jobs hI).2.2.2.1
 have hkl : kk < f.tn := by rw [← hkk]; exact Nat.mod_lt _ (by omega)
 have tm : (nn : Int).tmod (f.tn : Int) = (kk : Int) := by rw [← hkk]; exact (Int.ofNat_tmod nn f.tn).symm
 have wk : IntKind.i64.wrap (kk : Int) = (kk : Int) := wi64n (by omega)
 have HT := Lib.hid ht
 have tq0 : ¬ ((f.tn : Int) = 0) := by omega
 clear hkk hnn
 have BV := Lib.hid bV
 go_enter Tryz.func12, Tryz.ntmps12
 go_wp2_with (first | (rw [← HV.out]) | (refine pl_loadJ rfl _ rfl rfl PV.out.row PV.out.z ?_))
 refine wp_region_plan (S := fun w' => w' = V.drew) [(0, true), (1, true), (2, true), (3, true), (4, true), (5, true), (6, true), (7, true), (8, true)] (by kernel_rfl) (by kernel_rfl) (fun _ _ d _ _ h => by cases d <;> exact h) (rfl) ?_
 iterate 9 (refine plan_take (v := ?_) rfl (Or.inl ⟨by rfl, ?_⟩) ?_; rotate_left; (focus (intro w' hw'; subst hw'; go_simp <;> with_reducible rfl)); try simp only [Act.put, pst3])
 refine plan_done ?_
 have P0 := PV.out.below (Below.refl _ V).drew
 have B0 : Below w.heap.size w V.drew := BV.out.drew
 clear k0 k1 k2 k3 k4 k5 c80 bV QA HV
 generalize V.drew = X0 at P0 B0 ⊢
 have PX := Lib.hid P0
 have BX := Lib.hid B0
 obtain ⟨bf, hfa, hbf, hblkf, cfl, hfc⟩ := P0.flAt kk (by omega)
 rw [hF] at cfl
 have c81 := P0.row.c81 P0.z
 rw [hfa] at c81
 obtain ⟨bt, At, nt, ct, hta, hbt, hblkt, x0, x1, hbin, hbd, htc⟩ := P0.todoAt kk hkl
 have c80 := P0.row.c80 P0.z
 rw [hta] at c80
 have lg0 := P0.row.lt
 have HS0 : Hid (∀ w', Below X0.heap.size X0 w' → w'.cell? ⟨g, 78, none⟩ = some (.slice f.dS f.dn f.dc) ∧ w'.cell? ⟨g, 79, none⟩ = some (.slice f.dK f.kn f.kc) ∧ w'.cell? ⟨g, 80, none⟩ = some (.slice (some ⟨bt, 0, none⟩) f.tn f.tc) ∧ w'.cell? ⟨bt, kk * 2, none⟩ = some (.int .i64 (p.todo.getD kk (0, [])).1) ∧ w'.cell? ⟨bt, kk * 2 + 1, none⟩ = some (.slice At nt ct)) := Lib.hid (fun w' hw => by
  have u : ∀ i, w'.cell? ⟨g, i, none⟩ = X0.cell? ⟨g, i, none⟩ := fun i => World.cell?_of_block (hw.block g lg0)
  have v : ∀ i, w'.cell? ⟨bt, i, none⟩ = X0.cell? ⟨bt, i, none⟩ := fun i => World.cell?_of_block (hw.block bt hbt)
  exact ⟨(u 78).trans (P0.row.c78 P0.z), (u 79).trans (P0.row.c79 P0.z), (u 80).trans c80, (v _).trans x0, (v _).trans x1⟩)
 have ik : (kk : Int) < (f.fn : Int) := by omega
 have it : (kk : Int) < (f.tn : Int) := by omega
 obtain ⟨at_, hat⟩ : ∃ a : Int, a = (p.todo.getD kk (0, [])).1 := ⟨_, rfl⟩
 obtain ⟨ys, hys⟩ : ∃ a : List UInt8, a = (p.todo.getD kk (0, [])).2 := ⟨_, rfl⟩
 rw [← hat, ← hys] at hW
 rw [← hat] at HS0 hbd
 rw [← hys] at hbin
 have HW := Lib.hid hW
 have HBIN := Lib.hid hbin
 have HAT := Lib.hid hat
 have HYS := Lib.hid hys
 clear P0 B0 tm tq tq0 nq wk c80 x0 x1 hW hbin hat hys
 go_wp2_with fail
 clear c81 cfl
 have HP0 : Hid (∀ j, PlP g f j → j < X0.heap.size) := Lib.hid (fun j hj => (PX.out.base_ j hj).2)
 refine wp_region_segY (S := fun w' => Below X0.heap.size X0 w') 27 2 (brw9 29 134217727) [(0, true), (1, true), (2, true), (3, true), (4, true), (5, true), (6, true), (7, true), (8, true), (9, true), (10, true), (11, true), (12, true), (13, true), (14, true), (15, true), (16, true), (17, true), (18, true), (19, true), (20, true), (21, false), (22, true), (23, true), (24, true), (25, true), (26, true)] (by kernel_rfl) (by kernel_rfl) (fun _ _ d _ _ h => by first | (cases d <;> exact h) | cases h.1) ((Below.refl X0.heap.size X0).drew) ?_
 have HB := (Below.refl X0.heap.size X0).drew
 iterate 21 (refine seg_take (v := ?_) rfl (Or.inl ⟨by rfl, ?_⟩) ?_; rotate_left; (focus (intro w' hw'; obtain ⟨c78, c79, c80, x0, x1⟩ := HS0.out w' hw'; go_simp <;> with_reducible rfl)); try simp only [Act.put, pst3])
 refine seg_run rfl (fun K hK => ?_)
 go_simp
 have hc := vRWriteS (PX.out.below HB).d (fun j hj => Nat.lt_of_lt_of_le (HP0.out j hj) HB.size) at_ At nt ct ys hbd (HBIN.out.below HB).now
 rw [HW.out] at hc
 refine hc.mono ?_
 clear hc
 rintro e_ w1 ⟨AV1, rfl, d1, b1⟩
 obtain ⟨S1, sn1, sc1, K1, kn1, kc1, vs1, us1, rfl, fS⟩ := d1
 have D1 := Lib.hid (show DkS (PlP g f) w1 #[.slice S1 sn1 sc1, .slice K1 kn1 kc1] (dkWrite p.D at_ ys) from ⟨S1, sn1, sc1, K1, kn1, kc1, vs1, us1, rfl, fS⟩)
 have HB := below_then HB b1
 have P1 := Lib.hid (PX.out.below HB)
 have B1 := Lib.hid (below_then BX.out HB)
 clear fS
 have c78 := P1.out.row.c78 P1.out.z
 have c79 := P1.out.row.c79 P1.out.z
 have f78 := P1.out.row.fr 78
 have f79 := P1.out.row.fr 79
 refine hK.out _ _ (HB) ?_
 clear hK
 try simp only [Act.put, pst3]
 iterate 5 (refine seg_take (v := ?_) rfl (Or.inl ⟨by rfl, ?_⟩) ?_; rotate_left; (focus (intro w' hw'; obtain ⟨c78, c79, c80, x0, x1⟩ := HS0.out w' hw'; go_simp <;> with_reducible rfl)); try simp only [Act.put, pst3])
 refine seg_done (fun _ => ?_)
 refine wpAnyY_gate (by kernel_rfl) ?_
 refine op_run rfl (fun K hK => ?_)
 go_simp
 skip
 refine hK.out _ _ (trivial) ?_
 clear hK
 try simp only [Act.put, pst3]
 refine wpAnyH_seg (by kernel_rfl) (fun _ _ d _ _ h => by first | (cases d <;> exact h) | cases h.1) 0 (brw9 29 536870911) [(28, true)] _ _ _ (by kernel_rfl) (trivial) ?_
 iterate 1 (refine seg_take (v := ?_) rfl (Or.inl ⟨by rfl, ?_⟩) ?_; rotate_left; (focus (intro w' hw'; go_simp <;> with_reducible rfl)); try simp only [Act.put, pst3])
 refine seg_done (fun _ => ?_)
 refine wpAnyH_done (by kernel_rfl) ?_ _
 skip
 have PD : Pl base ((w1.setCell ⟨g, 78, none⟩ (.slice S1 sn1 sc1)).setCell ⟨g, 79, none⟩ (.slice K1 kn1 kc1)) g { p with D := dkWrite p.D at_ ys } { f with dS := S1, dn := sn1, dc := sc1, dK := K1, kn := kn1, kc := kc1 } := P1.out.setD D1.out
 have BD : Below base w ((w1.setCell ⟨g, 78, none⟩ (.slice S1 sn1 sc1)).setCell ⟨g, 79, none⟩ (.slice K1 kn1 kc1)) := ((B1.out.mono hb).setCell P1.out.gb _).setCell P1.out.gb _
 clear c78 c79 f78 f79
 generalize (w1.setCell ⟨g, 78, none⟩ (.slice S1 sn1 sc1)).setCell ⟨g, 79, none⟩ (.slice K1 kn1 kc1) = X at PD BD ⊢
 obtain ⟨DD, hDD⟩ : ∃ D, D = dkWrite p.D at_ ys := ⟨_, rfl⟩
 rw [← hDD] at PD
 have HDD : Hid (pyHit p kk = DD) := Lib.hid (by unfold pyHit; rw [if_neg (by rw [hF]; simp), hDD, HAT.out, HYS.out])
 obtain ⟨f1, hf1⟩ : ∃ f1 : Pf, f1 = { f with dS := S1, dn := sn1, dc := sc1, dK := K1, kn := kn1, kc := kc1 } := ⟨_, rfl⟩
 have e1 : f1.tn = f.tn ∧ f1.fn = f.fn := by rw [hf1]; exact ⟨rfl, rfl⟩
 rw [← hf1] at PD
 obtain ⟨e1t, e1f⟩ := e1
 have PX1 := Lib.hid PD
 have BX1 := Lib.hid BD
 have HEE : Hid (pyHitE p kk = 0) := Lib.hid (by unfold pyHitE; rw [if_neg (by rw [hF]; simp), ← HAT.out, ← HYS.out]; exact HW.out)
 clear PD BD hDD hf1 D1 P1 B1 b1 PX BX ik it HS0 HP0 HBIN hta hbt hblkt htc hfc hblkf hbf hfa PV BV hPV
 rw [← e1t] at hkl lt_ ht
 rw [← e1f] at ll_
 clear e1t e1f HT
 obtain ⟨tua, t1a, t2a⟩ := PX1.out.t
 obtain ⟨bta, Ata, nta, cta, htaa, hbta, hblkta, -, -, -, -, htca⟩ := PX1.out.todoAt kk hkl
 have cca := PX1.out.row.c80 PX1.out.z
 rw [htaa] at cca t1a
 have lga := PX1.out.row.lt
 obtain ⟨tna, htna⟩ : ∃ n, n = f1.tn := ⟨_, rfl⟩
 obtain ⟨tca, htcca⟩ : ∃ n, n = f1.tc := ⟨_, rfl⟩
 rw [← htna] at t1a cca htca
 rw [← htcca] at t1a cca htca
 have lna : kk < tna ∧ tna ≤ 200 := by rw [htna]; omega
 have HSa : Hid (∀ w', Below X.heap.size X w' → w'.cell? ⟨g, 80, none⟩ = some (.slice (some ⟨bta, 0, none⟩) tna tca)) := Lib.hid (fun w' hw => (World.cell?_of_block (hw.block g lga)).trans cca)
 clear htna htcca cca
 have RDa := Lib.hid (own_rdK t1a).1
 have RTa := Lib.hid t2a
 have tula : tua.length = tna * 2 := t1a.1
 clear t1a
 have i1a : (kk : Int) ≤ (tca : Int) := by omega
 have i2a : (kk : Int) + 1 ≤ (tna : Int) := by omega
 have i3a : (kk : Int) ≤ (tna : Int) := by omega
 have wk1a : IntKind.i64.wrap ((kk : Int) + 1) = (kk : Int) + 1 := by have := wi64n (k := kk + 1) (by omega); push_cast at this; exact this
 have i0a : 0 ≤ (kk : Int) + 1 := by omega
 obtain ⟨AQa, eqAa⟩ : ∃ A : Option Addr, (if tca = kk + 1 then (some ⟨bta, 0, none⟩ : Option Addr) else some ⟨bta, (kk + 1) * 2, none⟩) = A := ⟨_, rfl⟩
 have RQa : Hid (Rd X AQa (tua.drop ((kk + 1) * 2))) := Lib.hid (by
  rw [← eqAa]
  by_cases hq : tca = kk + 1
  ·rw [if_pos hq]; exact .inl (List.drop_eq_nil_of_le (by omega))
  ·rw [if_neg hq]; exact rd_drop RDa.out _)
 go_wp2_with fail
 refine wp_region_segY (S := fun w' => Below X.heap.size X w') 19 1 (brw9 20 524287) [(0, true), (2, true), (3, true), (4, true), (5, true), (6, true), (7, true), (9, true), (10, true), (11, true), (12, true), (13, true), (14, true), (15, true), (1, false), (8, false), (16, false), (17, true), (18, true)] (by kernel_rfl) (by kernel_rfl) (fun _ _ d _ _ h => by first | (cases d <;> exact h) | cases h.1) ((Below.refl X.heap.size X).drew) ?_
 have HB := (Below.refl X.heap.size X).drew
 iterate 14 (refine seg_take (v := ?_) rfl (Or.inl ⟨by rfl, ?_⟩) ?_; rotate_left; (focus (intro w' hw'; have ca := HSa.out w' hw'; go_simp <;> with_reducible rfl)); try simp only [Act.put, pst3])
 refine seg_run rfl (fun K hK => ?_)
 rw [if_pos (by rfl)]
 refine op_litK #[] 60 0 (fun w => by go_simp) ?_
 intro g1 w21 e1 r1 b21 z21
 have o1 : w21.ownsRow X.heap.size 60 2 (.slice (some ⟨g1, 0, none⟩) 0 0) 0 [] := own_monoK (own_emptyK r1) (by rw [← e1]; exact HB.size)
 have HB := below_then HB b21
 refine hK.out _ _ (HB) ?_
 clear hK
 try simp only [Act.put, pst3]
 refine seg_run rfl (fun K hK => ?_)
 rw [if_pos (by rfl)]
 refine op_appQ elJ (by decide) _ _ rfl X.heap.size _ 0 [] rfl o1 (some ⟨bta, 0, none⟩) kk tca (tua.take (kk * 2)) rfl ((rd_take RDa.out _).below HB) (by rw [List.length_take]; omega) (RTa.out.take kk).one (by omega) HB.size kk (tua.take (kk * 2)) (by omega) rfl ?_
 intro A8 c8 w8 o8 g8 n8
 have HB := grown_beyond HB g8 (fun j hj => (own_typ o1 hj).1)
 clear o1 g8 n8
 refine hK.out _ _ (HB) ?_
 clear hK
 try simp only [Act.put, pst3]
 refine seg_run rfl (fun K hK => ?_)
 rw [if_pos (by rfl)]
 refine op_appQ elJ (by decide) _ _ rfl X.heap.size _ kk (tua.take (kk * 2)) rfl o8 AQa (tna - (kk + 1)) (tca - (kk + 1)) (tua.drop ((kk + 1) * 2)) rfl (RQa.out.below HB) (by rw [List.length_drop, tula]; omega) (RTa.out.drop (kk + 1)).one (by omega) HB.size (tna - 1) (tua.take (kk * 2) ++ tua.drop ((kk + 1) * 2)) (by omega) rfl ?_
 intro A16 c16 w16 o16 g16 n16
 have HB := grown_beyond HB g16 (fun j hj => (own_typ o8 hj).1)
 have rX := PX1.out.row.up HB
 have ca := rX.c80 PX1.out.z
 have fa := rX.fr 80
 clear o8 g16 n16
 refine hK.out _ _ (HB) ?_
 clear hK
 try simp only [Act.put, pst3]
 iterate 2 (refine seg_take (v := ?_) rfl (Or.inl ⟨by rfl, ?_⟩) ?_; rotate_left; (focus (intro w' hw'; have ca := HSa.out w' hw'; go_simp <;> with_reducible rfl)); try simp only [Act.put, pst3])
 refine seg_done (fun _ => ?_)
 refine wpAnyY_gate (by kernel_rfl) ?_
 refine op_run rfl (fun K hK => ?_)
 go_simp
 skip
 refine hK.out _ _ (trivial) ?_
 clear hK
 try simp only [Act.put, pst3]
 refine wpAnyH_seg (by kernel_rfl) (fun _ _ d _ _ h => by first | (cases d <;> exact h) | cases h.1) 0 (brw9 20 1048575) [] _ _ _ (by kernel_rfl) (trivial) ?_
 refine seg_done (fun _ => ?_)
 refine wpAnyH_done (by kernel_rfl) ?_ _
 skip
 obtain ⟨aYa, sYa, PYa⟩ := PX1.out.newT HB o16 (Rows.app (RTa.out.drop (kk + 1)) (RTa.out.take kk))
 have bYa : Below base w (w16.setCell ⟨g, 80, none⟩ (.slice A16 (tna - 1) c16)) := BX1.out.trans ((HB.mono (Nat.le_trans PX1.out.gb (Nat.le_of_lt PX1.out.row.lt))).setCell PX1.out.gb _)
 clear ca fa rX aYa sYa HB
 generalize hYa : w16.setCell ⟨g, 80, none⟩ (.slice A16 (tna - 1) c16) = Ya at PYa bYa ⊢
 obtain ⟨ffa, hffa⟩ : ∃ ff : Pf, ff = { f1 with ta := A16, tn := tna - 1, tc := c16 } := ⟨_, rfl⟩
 rw [← hffa] at PYa
 have PZa : Hid (Pl base Ya g { p with D := DD, todo := p.todo.take kk ++ p.todo.drop (kk + 1) } ffa) := Lib.hid PYa
 have BZa := Lib.hid bYa
 have la2 : p.fl.length = ffa.fn := PZa.out.lens.2.1
 clear PYa bYa hYa o16 hffa wk1a i0a i1a i2a i3a eqAa HSa RQa RDa
 obtain ⟨tub, t1b, t2b⟩ := PZa.out.l
 obtain ⟨btb, htab, hbtb, hblktb, -, htcb⟩ := PZa.out.flAt kk (by omega)
 have ccb := PZa.out.row.c81 PZa.out.z
 rw [htab] at ccb t1b
 have lgb := PZa.out.row.lt
 obtain ⟨tnb, htnb⟩ : ∃ n, n = ffa.fn := ⟨_, rfl⟩
 obtain ⟨tcb, htccb⟩ : ∃ n, n = ffa.fc := ⟨_, rfl⟩
 rw [← htnb] at t1b ccb htcb
 rw [← htccb] at t1b ccb htcb
 have lnb : kk < tnb ∧ tnb ≤ 200 := by rw [htnb]; omega
 have HSb : Hid (∀ w', Below Ya.heap.size Ya w' → w'.cell? ⟨g, 81, none⟩ = some (.slice (some ⟨btb, 0, none⟩) tnb tcb)) := Lib.hid (fun w' hw => (World.cell?_of_block (hw.block g lgb)).trans ccb)
 clear htnb htccb ccb
 have RDb := Lib.hid (own_rdK t1b).1
 have RTb := Lib.hid t2b
 have tulb : tub.length = tnb * 1 := t1b.1
 clear t1b
 have i1b : (kk : Int) ≤ (tcb : Int) := by omega
 have i2b : (kk : Int) + 1 ≤ (tnb : Int) := by omega
 have i3b : (kk : Int) ≤ (tnb : Int) := by omega
 have wk1b : IntKind.i64.wrap ((kk : Int) + 1) = (kk : Int) + 1 := by have := wi64n (k := kk + 1) (by omega); push_cast at this; exact this
 have i0b : 0 ≤ (kk : Int) + 1 := by omega
 obtain ⟨AQb, eqAb⟩ : ∃ A : Option Addr, (if tcb = kk + 1 then (some ⟨btb, 0, none⟩ : Option Addr) else some ⟨btb, kk + 1, none⟩) = A := ⟨_, rfl⟩
 have RQb : Hid (Rd Ya AQb (tub.drop ((kk + 1) * 1))) := Lib.hid (by
  rw [← eqAb]
  by_cases hq : tcb = kk + 1
  ·rw [if_pos hq]; exact .inl (List.drop_eq_nil_of_le (by omega))
  ·rw [if_neg hq]; exact (by have := rd_drop RDb.out ((kk + 1) * 1); rw [Nat.mul_one] at this ⊢; exact this))
 go_wp2_with fail
 refine wp_region_segY (S := fun w' => Below Ya.heap.size Ya w') 19 1 (brw9 20 524287) [(0, true), (2, true), (3, true), (4, true), (5, true), (6, true), (7, true), (9, true), (10, true), (11, true), (12, true), (13, true), (14, true), (15, true), (1, false), (8, false), (16, false), (17, true), (18, true)] (by kernel_rfl) (by kernel_rfl) (fun _ _ d _ _ h => by first | (cases d <;> exact h) | cases h.1) ((Below.refl Ya.heap.size Ya).drew) ?_
 have HB := (Below.refl Ya.heap.size Ya).drew
 iterate 14 (refine seg_take (v := ?_) rfl (Or.inl ⟨by rfl, ?_⟩) ?_; rotate_left; (focus (intro w' hw'; have cb := HSb.out w' hw'; go_simp <;> with_reducible rfl)); try simp only [Act.put, pst3])
 refine seg_run rfl (fun K hK => ?_)
 rw [if_pos (by rfl)]
 refine op_litK #[] 4 0 (fun w => by go_simp) ?_
 intro g1 w21 e1 r1 b21 z21
 have o1 : w21.ownsRow Ya.heap.size 4 1 (.slice (some ⟨g1, 0, none⟩) 0 0) 0 [] := own_monoK (own_emptyK r1) (by rw [← e1]; exact HB.size)
 have HB := below_then HB b21
 refine hK.out _ _ (HB) ?_
 clear hK
 try simp only [Act.put, pst3]
 refine seg_run rfl (fun K hK => ?_)
 rw [if_pos (by rfl)]
 refine op_appQ elF (by decide) _ _ rfl Ya.heap.size _ 0 [] rfl o1 (some ⟨btb, 0, none⟩) kk tcb (tub.take (kk * 1)) rfl ((rd_take RDb.out _).below HB) (by rw [List.length_take]; omega) (RTb.out.take kk).one (by omega) HB.size kk (tub.take (kk * 1)) (by omega) rfl ?_
 intro A8 c8 w8 o8 g8 n8
 have HB := grown_beyond HB g8 (fun j hj => (own_typ o1 hj).1)
 clear o1 g8 n8
 refine hK.out _ _ (HB) ?_
 clear hK
 try simp only [Act.put, pst3]
 refine seg_run rfl (fun K hK => ?_)
 rw [if_pos (by rfl)]
 refine op_appQ elF (by decide) _ _ rfl Ya.heap.size _ kk (tub.take (kk * 1)) rfl o8 AQb (tnb - (kk + 1)) (tcb - (kk + 1)) (tub.drop ((kk + 1) * 1)) rfl (RQb.out.below HB) (by rw [List.length_drop, tulb]; omega) (RTb.out.drop (kk + 1)).one (by omega) HB.size (tnb - 1) (tub.take (kk * 1) ++ tub.drop ((kk + 1) * 1)) (by omega) rfl ?_
 intro A16 c16 w16 o16 g16 n16
 have HB := grown_beyond HB g16 (fun j hj => (own_typ o8 hj).1)
 have rX := PZa.out.row.up HB
 have cb := rX.c81 PZa.out.z
 have fb := rX.fr 81
 clear o8 g16 n16
 refine hK.out _ _ (HB) ?_
 clear hK
 try simp only [Act.put, pst3]
 iterate 2 (refine seg_take (v := ?_) rfl (Or.inl ⟨by rfl, ?_⟩) ?_; rotate_left; (focus (intro w' hw'; have cb := HSb.out w' hw'; go_simp <;> with_reducible rfl)); try simp only [Act.put, pst3])
 refine seg_done (fun _ => ?_)
 refine wpAnyY_gate (by kernel_rfl) ?_
 refine op_run rfl (fun K hK => ?_)
 go_simp
 skip
 refine hK.out _ _ (trivial) ?_
 clear hK
 try simp only [Act.put, pst3]
 refine wpAnyH_seg (by kernel_rfl) (fun _ _ d _ _ h => by first | (cases d <;> exact h) | cases h.1) 0 (brw9 20 1048575) [] _ _ _ (by kernel_rfl) (trivial) ?_
 refine seg_done (fun _ => ?_)
 refine wpAnyH_done (by kernel_rfl) ?_ _
 skip
 obtain ⟨aYb, sYb, PYb⟩ := PZa.out.newL HB o16 (Rows.app (RTb.out.drop (kk + 1)) (RTb.out.take kk))
 have bYb : Below base w (w16.setCell ⟨g, 81, none⟩ (.slice A16 (tnb - 1) c16)) := BZa.out.trans ((HB.mono (Nat.le_trans PZa.out.gb (Nat.le_of_lt PZa.out.row.lt))).setCell PZa.out.gb _)
 clear cb fb rX aYb sYb HB
 generalize hYb : w16.setCell ⟨g, 81, none⟩ (.slice A16 (tnb - 1) c16) = Yb at PYb bYb ⊢
 obtain ⟨ffb, hffb⟩ : ∃ ff : Pf, ff = { ffa with fa := A16, fn := tnb - 1, fc := c16 } := ⟨_, rfl⟩
 rw [← hffb] at PYb
 have PZb : Hid (Pl base Yb g { p with D := DD, todo := p.todo.take kk ++ p.todo.drop (kk + 1), fl := p.fl.take kk ++ p.fl.drop (kk + 1) } ffb) := Lib.hid PYb
 have BZb := Lib.hid bYb
 clear PYb bYb hYb o16 hffb wk1b i0b i1b i2b i3b eqAb HSb RQb RDb
 have HP : Hid (∀ j, PlP g ffb j → j < Yb.heap.size) := Lib.hid (fun j hj => (PZb.out.base_ j hj).2)
 have hcm := jrnCame_any (PlP g ffb) ffb.m p.J true Yb PZb.out.j HP.out
 rw [pyCameE hI (fun e => by rw [e] at lt_; simp at lt_; omega)] at hcm
 have HCM := Lib.hid hcm
 clear hcm
 go_wp2_with (refine pl_loadJ rfl _ rfl rfl PZb.out.row PZb.out.z ?_)
 refine HCM.out.mono ?_
 clear HCM
 rintro e w23 ⟨m2, rfl, j2, b23⟩
 have Z2 := Lib.hid j2.z
 have J2 := Lib.hid j2
 have P23 := Lib.hid (PZb.out.below b23)
 clear j2
 go_wp2_with (first | (refine jm_fresh Z2.out rfl _ _ rfl rfl rfl w23 rfl rfl ?_; intro X23 q23 x23; have P24 := Lib.hid (P23.out.below x23)) | (refine jm_load Z2.out rfl _ rfl rfl q23.out ?_) | (refine pl_storeJ rfl _ _ rfl rfl rfl P24.out.row P24.out.z Z2.out ?_))
 have BZ := BZb.out.trans ((below_then b23 x23).mono (Nat.le_trans PZb.out.gb (Nat.le_of_lt PZb.out.row.lt)))
 go_ret
 rw [pyOne_eq p kk HDD.out HEE.out]
 exact ret_pl P24.out (J2.out.below x23) BZ
end Go.Proofs.YtpahicfnhhhifaaGreat
