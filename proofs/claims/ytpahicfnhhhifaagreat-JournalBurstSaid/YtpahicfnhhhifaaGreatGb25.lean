/-
 Proved here, for the statement JournalBurst:
 Layer 14: the laws' play: an event is appended.
 Layer 14: the laws' play: an event that is refused; an act of no kind.
-/
import Derived.Test.YtpahicfnhhhifaaGreatGb24
set_option linter.unusedVariables false
set_option linter.unusedSimpArgs false
namespace Go.Proofs.YtpahicfnhhhifaaGreat
set_option maxRecDepth 20000
open Go.RowKit
set_option maxHeartbeats 8000000
def acV (a : Ac) (A : Option Addr) (n c : Nat) (B : Option Addr) (m d : Nat) : Array Value := #[.int .i64 a.k, .int .i64 a.n, .int .u64 (a.e.t : Int), .int .i64 a.e.k, .int .u64 (a.e.c : Int), .slice A n c, .slice B m d]
def RetPl (base g : Nat) (w : World) (p : Py) (r : Bool) (e : Ending) (w' : World) : Prop := e = .returned (.bool r) ∧ Below base w w' ∧ ∃ f, Pl base w' g p f
theorem pl_loadJ {ops : Array Oper} {rest : List Oper} {o : Oper} {a : Act} {w : World} {Q : Exit → Act → World → Prop} {g : Nat} {f : Pf} (hgd : o.guard = none) (x : Operand) (ho : o.op = .load 36 x) (hx : a.eval x = .pointer (some ⟨g, 0, none⟩)) (q : PlAt w g f) (hz : f.m.z)
  (hK : wpList Tryz.prog ops Q rest (a.put o.dst (.agg (jmV f.m).toArray)) w) : wpList Tryz.prog ops Q (o :: rest) a w :=
 wpList_load_mid hgd 36 x ho g 0 hx _ _ (q.jr hz) Tryz.underlying36 rfl (by rw [jmV_len hz]; exact jm_cells) hK
theorem pl_storeJ {ops : Array Oper} {rest : List Oper} {o : Oper} {a : Act} {w : World} {Q : Exit → Act → World → Prop} {g : Nat} {f : Pf} {m : Jm} (hgd : o.guard = none) (x y : Operand) (ho : o.op = .store 36 x y) (hx : a.eval x = .pointer (some ⟨g, 0, none⟩)) (hy : a.eval y = .agg (jmV m).toArray) (q : PlAt w g f) (hz : f.m.z) (hm : m.z)
  (hK : wpList Tryz.prog ops Q rest (a.put o.dst undef) (w.setCells g 0 (jmV m))) : wpList Tryz.prog ops Q (o :: rest) a w :=
 wpList_store_mid hgd 36 x y ho g 0 _ hx hy (q.there hz _ _ (by rw [List.size_toArray, jmV_len hm]; omega)) (jm_info hm) (jmV_all m) hK
def PNew (P : Nat → Prop) (V W : World) (j : Nat) : Prop := P j ∨ V.heap.size ≤ j ∧ j < W.heap.size
theorem cut3 {G : Prop} {R : World → Jm → Nat → Prop} {P : World → Jm → Nat → Prop} (T : ∀ X m g, R X m g → P X m g) (M : (∀ X m g, R X m g → P X m g) → G) : G := M T
theorem pl_ldJ {o : Oper} {a : Act} {w : World} {g : Nat} {f : Pf} {x : Operand} (ho : o.op = .load 36 x) (hx : a.eval x = .pointer (some ⟨g, 0, none⟩)) (q : PlAt w g f) (hz : f.m.z) : (execOp a.eval o).run Tryz.prog w = .ok (.value (.agg (jmV f.m).toArray)) w :=
 ex_load ho hx (run_loadVar_mid w g 0 _ _ _ (q.jr hz) Tryz.underlying36 rfl (by rw [jmV_len hz]; exact jm_cells))
theorem pyApp_eq (p : Py) (e : Ev) (h : pyAppE p e = 0) (kk : Nat) (hk : p.evs.length = kk + 1) : pyApp p e = { p with J := (pyApp p e).J, evs := p.evs.set kk (p.evs.getD kk [] ++ [e]) } := by
 unfold pyApp
 simp only [if_pos h]
 rw [hk, Nat.add_sub_cancel]
theorem op_litK {P : Program} {o : Oper} {a : Act} {w : World} {K : Act → World → Prop} {Q : Exit → Act → World → Prop} (cs : Array Value) (T : TypeId) (n : Nat) (hrun : ∀ w : World, (execOp a.eval o).run P w = .ok (.value (.slice (some ⟨w.heap.size, 0, none⟩) n n)) (w.alloc (.cells cs T)))
  (h : ∀ g w', w.heap.size = g → w'.heap[g]? = some (.cells cs T (0, 0)) → Below w.heap.size w w' → w'.heap.size = g + 1 → K (a.put o.dst (.slice (some ⟨g, 0, none⟩) n n)) w') : o.wp P a w K Q :=
 op_value (hrun w) (h _ _ rfl (heap_alloc_new w _) ((below_self w).alloc (Nat.le_refl _) _) (by simp))
theorem op_valueS {P : Program} {o : Oper} {a : Act} {w : World} {K : Act → World → Prop} {Q : Exit → Act → World → Prop} {v : Value} (hrun : (execOp a.eval o).run P w = .ok (.value v) w) (h : K (a.put o.dst v) w) : o.wp P a w K Q := op_value hrun h
theorem cutE5 {G : Prop} {R : World → Nat → Option Addr → Nat → Nat → Prop} {P : World → Nat → Option Addr → Nat → Nat → Prop} (T : ∀ U g5 A c g16, R U g5 A c g16 → P U g5 A c g16) (M : (∀ U g5 A c g16, R U g5 A c g16 → P U g5 A c g16) → G) : G := M T
theorem do_app0 (n : Nat) (base g : Nat) (p : Py) (f : Pf) (a : Ac) (A : Option Addr) (na c : Nat) (B : Option Addr) (nb d : Nat) (w : World) (hI : PyI n p) (h : Pl base w g p f) (ha : a.ok) (hk : a.k = 0) (hb : base ≤ w.heap.size)
  (hA : BIn (fun j => base ≤ j) w A na c a.e.b) (hB : BIn (fun j => base ≤ j) w B nb d a.s) (hE : pyAppE p a.e = 0) :
  Calls Tryz.prog 12 #[.pointer (some ⟨g, 0, none⟩), .agg (acV a A na c B nb d)] w (RetPl base g w (pyApp p a.e) true) := by
 obtain ⟨V, hV⟩ : ∃ V, V = w.alloc (.cells (acV a A na c B nb d) 51) := ⟨_, rfl⟩
 have bV : Below w.heap.size w V := by rw [hV]; exact (below_self w).alloc (Nat.le_refl _) _
 have PV := Lib.hid (h.below bV)
 have qa : V.heap[w.heap.size]? = some (.cells (acV a A na c B nb d) 51 (0, 0)) := by rw [hV]; exact drw_at _ rfl
 have k0 := (cell_of_row V w.heap.size 0 _ _ _ qa).trans (show _ = some (.int .i64 a.k) from rfl)
 have k2 := (cell_of_row V w.heap.size 2 _ _ _ qa).trans (show _ = some (.int .u64 (a.e.t : Int)) from rfl)
 have k3 := (cell_of_row V w.heap.size 3 _ _ _ qa).trans (show _ = some (.int .i64 a.e.k) from rfl)
 have k4 := (cell_of_row V w.heap.size 4 _ _ _ qa).trans (show _ = some (.int .u64 (a.e.c : Int)) from rfl)
 have k5 := (cell_of_row V w.heap.size 5 _ _ _ qa).trans (show _ = some (.slice A na c) from rfl)
 rw [hk] at k0
 have QA := Lib.hid qa
 clear qa
 have hg := h.row.lt
 have hPV : ∀ j, PlP g f j → j < V.heap.size := fun j hj => (PV.out.base_ j hj).2
 have HV := Lib.hid hV
 clear hV
 go_enter Tryz.func12, Tryz.ntmps12
 go_wp2_with (first | (rw [← HV.out]) | (refine pl_loadJ rfl _ rfl rfl PV.out.row PV.out.z ?_))
 have HJ : Hid (∀ W, Below V.heap.size V W → Calls Tryz.prog 14 #[.agg (jmV f.m).toArray, .int .u32 1, .agg #[.int .u64 (a.e.t : Int), .int .i64 a.e.k, .int .u64 (a.e.c : Int), .slice A na c]] W (RetJ (PNew (PlP g f) V W) W (pyApp p a.e).J 0)) := Lib.hid (fun W hW => by
  have hh := jrnApp_any (PNew (PlP g f) V W) f.m p.J 1 a.e.t a.e.k a.e.c A na c a.e.b W (PV.out.j.to (below_agr hW _) (fun j hj => hj.imp_right And.left)) (fun j hj => by rcases hj with hj | hj; (have := hPV j hj; have := hW.size; omega); exact hj.2) ((hA.below bV).below hW).now (by decide) ha.1.1 ha.1.2.1 ha.1.2.2
  have hE' : jnAppE p.J a.e.k a.e.c a.e.b.length = 0 := hE
  rw [hE'] at hh
  exact hh)
 have hgV : g < V.heap.size := PV.out.row.lt
 have BV := Lib.hid bV
 apply cut3 (R := fun X m q => Hid (JmAt X q m) ∧ Hid (JIn (PlP g f) X m (pyApp p a.e).J) ∧ V.heap.size ≤ q ∧ Below V.heap.size V X)
 rotate_left
 ·intro TL
  refine wp_region_seg (S := fun w' => Below V.heap.size V w') 7 (brw9 13 63) [(0, true), (1, true), (2, true), (3, true), (4, true), (5, true)] (by kernel_rfl) (by kernel_rfl) (fun _ _ d _ _ h => by first | (cases d <;> exact h) | cases h.1) ((Below.refl V.heap.size V).drew) ?_
  have HB := (Below.refl V.heap.size V).drew
  iterate 3 (refine seg_take (v := ?_) rfl (Or.inl ⟨by rfl, ?_⟩) ?_; rotate_left; (focus (intro w' hw'; have k2 := (World.cell?_of_block (hw'.block _ (by have := BV.out.size; have := drw_lt QA.out; omega))).trans k2; have k3 := (World.cell?_of_block (hw'.block _ (by have := BV.out.size; have := drw_lt QA.out; omega))).trans k3; have k4 := (World.cell?_of_block (hw'.block _ (by have := BV.out.size; have := drw_lt QA.out; omega))).trans k4; have k5 := (World.cell?_of_block (hw'.block _ (by have := BV.out.size; have := drw_lt QA.out; omega))).trans k5; go_simp <;> with_reducible rfl)); try simp only [Act.put, pst3])
  refine seg_take (v := .agg (jmV f.m).toArray) rfl (Or.inl ⟨by rfl, fun w' hw' => ?_⟩) ?_
  focus (exact pl_ldJ rfl rfl (PV.out.row.up hw') PV.out.z)
  try simp only [Act.put, pst3]
  iterate 2 (refine seg_take (v := ?_) rfl (Or.inl ⟨by rfl, ?_⟩) ?_; rotate_left; (focus (intro w' hw'; have k2 := (World.cell?_of_block (hw'.block _ (by have := BV.out.size; have := drw_lt QA.out; omega))).trans k2; have k3 := (World.cell?_of_block (hw'.block _ (by have := BV.out.size; have := drw_lt QA.out; omega))).trans k3; have k4 := (World.cell?_of_block (hw'.block _ (by have := BV.out.size; have := drw_lt QA.out; omega))).trans k4; have k5 := (World.cell?_of_block (hw'.block _ (by have := BV.out.size; have := drw_lt QA.out; omega))).trans k5; go_simp <;> with_reducible rfl)); try simp only [Act.put, pst3])
  refine seg_done (fun _ => ?_)
  refine wpAnyH_two (i := 6) (j := 10) (f := 6) (by kernel_rfl) ?_ ?_
  ·skip
   refine op_run rfl (fun K hK => ?_)
   go_simp
   refine (HJ.out _ HB).mono ?_
   rintro e_ wC ⟨m1, rfl, j1, bC⟩
   try have qL := qL.up bC
   try have j1 := j1.sub (P' := fun j => PlP g f j ∨ j = g1) (fun j hj => by rcases hj with hj | hj; exact .inl hj; exact .inr (by omega))
   try have lL := Nat.lt_of_lt_of_le lL bC.size
   have HB := below_then HB bC
   refine hK.out _ _ (HB) ?_
   clear hK
   try simp only [Act.put, pst3]
   refine wpAnyH_seg (by kernel_rfl) (fun _ _ d _ _ h => by first | (cases d <;> exact h) | cases h.1) 0 (brw9 13 8191) [(7, true), (8, true), (9, true), (10, false), (11, false), (12, true)] _ _ _ (by kernel_rfl) (HB) ?_
   iterate 3 (refine seg_take (v := ?_) rfl (Or.inl ⟨by rfl, ?_⟩) ?_; rotate_left; (focus (intro w' hw'; have k2 := (World.cell?_of_block (hw'.block _ (by have := BV.out.size; have := drw_lt QA.out; omega))).trans k2; have k3 := (World.cell?_of_block (hw'.block _ (by have := BV.out.size; have := drw_lt QA.out; omega))).trans k3; have k4 := (World.cell?_of_block (hw'.block _ (by have := BV.out.size; have := drw_lt QA.out; omega))).trans k4; have k5 := (World.cell?_of_block (hw'.block _ (by have := BV.out.size; have := drw_lt QA.out; omega))).trans k5; go_simp <;> with_reducible rfl)); try simp only [Act.put, pst3])
   refine seg_run rfl (fun K hK => ?_)
   rw [if_pos (by rfl)]
   refine op_new Tryz.zeroCells36 36 (fun w => by go_simp) ?_
   intro g1 wL eL hL bL zL
   have qL : JmAt wL g1 jmZ := by rw [jmZ_zero] at hL; exact hL
   have HBz := HB.size
   have hgle : V.heap.size ≤ g1 := by omega
   have lL : g1 < wL.heap.size := by omega
   try have j1 := j1.to (P' := fun j => PlP g f j ∨ j = g1) (below_agr bL _) (fun j hj => by rcases hj with hj | hj; exact .inl (.inl hj); exact .inr (by omega))
   have HB := below_then HB bL
   clear eL hL zL HBz
   refine hK.out _ _ (HB) ?_
   clear hK
   try simp only [Act.put, pst3]
   refine seg_run rfl (fun K hK => ?_)
   rw [if_pos (by rfl)]
   refine op_jmst j1.z jmZ_z _ _ rfl rfl rfl qL ?_
   intro X zX qX bX nX
   have jX := (j1.agr (AgrP.one (AgrP.refl _ _) (r := g1) (Or.inr rfl) zX nX)).sub (P' := PlP g f) (fun j hj => .inl hj)
   have HB := HB.trans (bX _ hgle)
   refine hK.out _ _ (HB) ?_
   clear hK
   try simp only [Act.put, pst3]
   iterate 1 (refine seg_take (v := ?_) rfl (Or.inl ⟨by rfl, ?_⟩) ?_; rotate_left; (focus (intro w' hw'; have k2 := (World.cell?_of_block (hw'.block _ (by have := BV.out.size; have := drw_lt QA.out; omega))).trans k2; have k3 := (World.cell?_of_block (hw'.block _ (by have := BV.out.size; have := drw_lt QA.out; omega))).trans k3; have k4 := (World.cell?_of_block (hw'.block _ (by have := BV.out.size; have := drw_lt QA.out; omega))).trans k4; have k5 := (World.cell?_of_block (hw'.block _ (by have := BV.out.size; have := drw_lt QA.out; omega))).trans k5; go_simp <;> with_reducible rfl)); try simp only [Act.put, pst3])
   refine seg_done (fun _ => ?_)
   refine wpAnyH_done (by kernel_rfl) ?_ _
   exact TL X m1 g1 ⟨Lib.hid qX, Lib.hid jX, hgle, HB⟩
  ·skip
   refine op_run rfl (fun K hK => ?_)
   rw [if_pos (by rfl)]
   refine op_new Tryz.zeroCells36 36 (fun w => by go_simp) ?_
   intro g1 wL eL hL bL zL
   have qL : JmAt wL g1 jmZ := by rw [jmZ_zero] at hL; exact hL
   have HBz := HB.size
   have hgle : V.heap.size ≤ g1 := by omega
   have lL : g1 < wL.heap.size := by omega
   try have j1 := j1.to (P' := fun j => PlP g f j ∨ j = g1) (below_agr bL _) (fun j hj => by rcases hj with hj | hj; exact .inl (.inl hj); exact .inr (by omega))
   have HB := below_then HB bL
   clear eL hL zL HBz
   refine hK.out _ _ (HB) ?_
   clear hK
   try simp only [Act.put, pst3]
   refine wpAnyH_seg (by kernel_rfl) (fun _ _ d _ _ h => by first | (cases d <;> exact h) | cases h.1) 0 (brw9 13 8191) [(6, false), (7, true), (8, true), (9, true), (11, false), (12, true)] _ _ _ (by kernel_rfl) (HB) ?_
   refine seg_run rfl (fun K hK => ?_)
   go_simp
   refine (HJ.out _ HB).mono ?_
   rintro e_ wC ⟨m1, rfl, j1, bC⟩
   try have qL := qL.up bC
   try have j1 := j1.sub (P' := fun j => PlP g f j ∨ j = g1) (fun j hj => by rcases hj with hj | hj; exact .inl hj; exact .inr (by omega))
   try have lL := Nat.lt_of_lt_of_le lL bC.size
   have HB := below_then HB bC
   refine hK.out _ _ (HB) ?_
   clear hK
   try simp only [Act.put, pst3]
   iterate 3 (refine seg_take (v := ?_) rfl (Or.inl ⟨by rfl, ?_⟩) ?_; rotate_left; (focus (intro w' hw'; have k2 := (World.cell?_of_block (hw'.block _ (by have := BV.out.size; have := drw_lt QA.out; omega))).trans k2; have k3 := (World.cell?_of_block (hw'.block _ (by have := BV.out.size; have := drw_lt QA.out; omega))).trans k3; have k4 := (World.cell?_of_block (hw'.block _ (by have := BV.out.size; have := drw_lt QA.out; omega))).trans k4; have k5 := (World.cell?_of_block (hw'.block _ (by have := BV.out.size; have := drw_lt QA.out; omega))).trans k5; go_simp <;> with_reducible rfl)); try simp only [Act.put, pst3])
   refine seg_run rfl (fun K hK => ?_)
   rw [if_pos (by rfl)]
   refine op_jmst j1.z jmZ_z _ _ rfl rfl rfl qL ?_
   intro X zX qX bX nX
   have jX := (j1.agr (AgrP.one (AgrP.refl _ _) (r := g1) (Or.inr rfl) zX nX)).sub (P' := PlP g f) (fun j hj => .inl hj)
   have HB := HB.trans (bX _ hgle)
   refine hK.out _ _ (HB) ?_
   clear hK
   try simp only [Act.put, pst3]
   iterate 1 (refine seg_take (v := ?_) rfl (Or.inl ⟨by rfl, ?_⟩) ?_; rotate_left; (focus (intro w' hw'; have k2 := (World.cell?_of_block (hw'.block _ (by have := BV.out.size; have := drw_lt QA.out; omega))).trans k2; have k3 := (World.cell?_of_block (hw'.block _ (by have := BV.out.size; have := drw_lt QA.out; omega))).trans k3; have k4 := (World.cell?_of_block (hw'.block _ (by have := BV.out.size; have := drw_lt QA.out; omega))).trans k4; have k5 := (World.cell?_of_block (hw'.block _ (by have := BV.out.size; have := drw_lt QA.out; omega))).trans k5; go_simp <;> with_reducible rfl)); try simp only [Act.put, pst3])
   refine seg_done (fun _ => ?_)
   refine wpAnyH_done (by kernel_rfl) ?_ _
   exact TL X m1 g1 ⟨Lib.hid qX, Lib.hid jX, hgle, HB⟩
 rintro X1 m1 q1 ⟨QX, JX, hq, bX⟩
 have PX := Lib.hid (PV.out.below bX)
 obtain ⟨kk, hkk⟩ : ∃ kk : Nat, kk = p.J.g := ⟨_, rfl⟩
 have hen : f.en = kk + 1 := by rw [← PX.out.lens.2.2.2, hI.b.el, hkk]
 have hk32 : kk < 4294967296 := by rw [hkk]; exact hI.b.g2
 have HKK := Lib.hid hkk
 have c83 := PX.out.row.c83 PX.out.z
 rw [hen] at c83
 obtain ⟨be, Ae, ne, ce, hea, hbe, hblk, hce, hin⟩ := PX.out.evAt kk (by omega)
 rw [hea] at c83
 have HEA := Lib.hid hea
 have HEN := Lib.hid hen
 have HIN := Lib.hid hin
 have HBE := Lib.hid hblk
 obtain ⟨eu, e1, e2⟩ := PX.out.e
 obtain ⟨_, curE, hcurE⟩ := own_typ e1 hblk
 have ngE : ¬ Blk f.ea g := fun ⟨a, h1, h2⟩ => by rw [hea] at h1; injection h1 with h1; subst h1; simp only at h2; subst h2; exact row_typ PX.out.row hcurE (by decide)
 have qaX := drw_up QA.out bX
 have nqE : ¬ Blk f.ea w.heap.size := fun ⟨a, h1, h2⟩ => by rw [hea] at h1; injection h1 with h1; subst h1; simp only at h2; subst h2; exact row_typ qaX hcurE (by decide)
 have lqX : w.heap.size < X1.heap.size := drw_lt qaX
 have HS : Hid (∀ w', Agr (Blk f.ea) X1 w' → w'.cell? ⟨g, 83, none⟩ = some (.slice (some ⟨be, 0, none⟩) (kk + 1) f.ec) ∧ w'.cell? ⟨w.heap.size, 2, none⟩ = some (.int .u64 (a.e.t : Int)) ∧ w'.cell? ⟨w.heap.size, 3, none⟩ = some (.int .i64 a.e.k) ∧ w'.cell? ⟨w.heap.size, 4, none⟩ = some (.int .u64 (a.e.c : Int)) ∧ w'.cell? ⟨w.heap.size, 5, none⟩ = some (.slice A na c)) := Lib.hid (fun w' hw => by
  have u : ∀ (i : Nat), w'.cell? ⟨w.heap.size, i, none⟩ = X1.cell? ⟨w.heap.size, i, none⟩ := fun i => World.cell?_of_block (hw.2.2.2.2 _ lqX nqE)
  have v : ∀ (i : Nat), X1.cell? ⟨w.heap.size, i, none⟩ = V.cell? ⟨w.heap.size, i, none⟩ := fun i => World.cell?_of_block (bX.block _ (drw_lt QA.out))
  exact ⟨(World.cell?_of_block (hw.2.2.2.2 g PX.out.row.lt ngE)).trans c83, (u 2).trans ((v 2).trans k2), (u 3).trans ((v 3).trans k3), (u 4).trans ((v 4).trans k4), (u 5).trans ((v 5).trans k5)⟩)
 have HCE := Lib.hid hce
 obtain ⟨eus, er, el, enc, ecm, erows⟩ := hin
 have elen : eus.length = ne * 4 := by rw [erows.len, el]
 have nev : ne ≤ 158 := by rw [← el, hkk]; show (pyEv p p.J.g).length ≤ 158; rw [← hI.b.next]; have := hI.b.nr; have := hI.b.n98; omega
 have ek : ((kk + 1 : Nat) : Int) - 1 = (kk : Int) := by omega
 have wk : IntKind.i64.wrap (kk : Int) = (kk : Int) := wi64n (by omega)
 have CC83 := Lib.hid c83
 have HCUR := Lib.hid hcurE
 clear hkk hen hea hblk e1 e2 hcurE ngE nqE qaX
 go_wp2_with fail
 clear c83 k2 k3 k4 k5 ek wk k0 hce
 have ik : (kk : Int) < (kk : Int) + 1 := by omega
 have HX : Below X1.heap.size X1 X1.drew := (Below.refl _ X1).drew
 apply cutE5 (R := fun U g5 A13 c13 g16 => Hid (U.ownsRow X1.heap.size 49 4 (.slice A13 ne c13) ne eus) ∧ U.heap[g16]? = some (.cells #[.int .u64 (a.e.t : Int), .int .i64 a.e.k, .int .u64 (a.e.c : Int), .slice A na c] 49 (0, 0)) ∧ Below X1.heap.size X1 U)
 rotate_left
 ·intro TL
  refine wp_region_seg (S := fun w' => Agr (Blk f.ea) X1 w') 7 (brw9 20 53215) [(0, true), (1, true), (2, true), (3, true), (4, true), (6, true), (7, true), (8, true), (9, true), (10, true), (11, true), (14, true), (15, true)] (by kernel_rfl) (by kernel_rfl) (fun _ _ d _ _ h => by first | (cases d <;> exact h) | cases h.1) (Agr.of_below (Blk f.ea) (Below.refl _ X1).drew) ?_
  have HB := Agr.of_below (Blk f.ea) (Below.refl _ X1).drew
  iterate 13 (refine seg_take (v := ?_) rfl (Or.inl ⟨by rfl, ?_⟩) ?_; rotate_left; (focus (intro w' hw'; obtain ⟨c83, k2, k3, k4, k5⟩ := HS.out w' hw'; go_simp <;> with_reducible rfl)); try simp only [Act.put, pst3])
  refine seg_done (fun _ => ?_)
  refine wpAnyH_three (i := 5) (j := 12) (k := 16) (f := 6) (by kernel_rfl) ?_ ?_ ?_
  ·skip
   refine op_run rfl (fun K hK => ?_)
   rw [if_pos (by rfl)]
   refine op_lit #[] 49 0 rfl (fun w => by go_simp) ?_
   intro g5 w5 e5 r5 b5 z5
   have hz := HX.size
   have le5 : X1.heap.size ≤ g5 := by omega
   try have hne : g5 ≠ g16 := by have := drw_lt r16; omega
   try have r16 := drw_up r16 b5
   have o5 : w5.ownsRow g5 49 4 (.slice (some ⟨g5, 0, none⟩) 0 0) 0 [] := own_emptyK r5
   have HX := below_then HX b5
   have HB := Agr.of_below (Blk f.ea) HX
   clear hz
   refine hK.out _ _ (HB) ?_
   clear hK
   try simp only [Act.put, pst3]
   refine wpAnyH_seg (by kernel_rfl) (fun _ _ d _ _ h => by first | (cases d <;> exact h) | cases h.1) 6 (brw9 20 53247) [] _ _ _ (by kernel_rfl) (HB) ?_
   refine seg_done (fun _ => ?_)
   refine wpAnyH_two (i := 12) (j := 16) (f := 5) (by kernel_rfl) ?_ ?_
   ·skip
    refine op_run rfl (fun K hK => ?_)
    rw [if_pos (by rfl)]
    have c12 := (World.cell?_of_block (HX.block be hbe)).trans HCE.out
    refine op_valueS (v := .slice Ae ne ce) (by go_simp) ?_
    clear c12
    refine hK.out _ _ (HB) ?_
    clear hK
    try simp only [Act.put, pst3]
    refine wpAnyH_seg (by kernel_rfl) (fun _ _ d _ _ h => by first | (cases d <;> exact h) | cases h.1) 5 (brw9 20 57343) [] _ _ _ (by kernel_rfl) (HB) ?_
    refine seg_done (fun _ => ?_)
    refine wpAnyH_two (i := 13) (j := 16) (f := 4) (by kernel_rfl) ?_ ?_
    ·skip
     refine op_run rfl (fun K hK => ?_)
     rw [if_pos (by rfl)]
     refine op_appQ elV (by decide) _ _ rfl g5 _ 0 [] rfl o5 Ae ne ce eus rfl (er _ (below_agr HX _)) elen erows.one (by omega) (Nat.le_of_lt (drw_lt r5)) ne eus (by omega) rfl ?_
     intro A13 c13 w13 o13 g13 n13
     have o13 := own_monoK o13 le5
     try have r16 := (g13.block g16 (drw_lt r16) (fun e => hne (by injection e with e; exact e.symm))).trans r16
     have HX := grown_beyond HX g13 (fun j hj => by obtain ⟨a', h1, h2⟩ := hj; injection h1 with h1; subst h1; simp only at h2; omega)
     have HB := Agr.of_below (Blk f.ea) HX
     clear g13 n13
     refine hK.out _ _ (HB) ?_
     clear hK
     try simp only [Act.put, pst3]
     refine wpAnyH_seg (by kernel_rfl) (fun _ _ d _ _ h => by first | (cases d <;> exact h) | cases h.1) 3 (brw9 20 131071) [(16, false)] _ _ _ (by kernel_rfl) (HB) ?_
     refine seg_run rfl (fun K hK => ?_)
     rw [if_pos (by rfl)]
     refine op_litK #[.int .u64 (a.e.t : Int), .int .i64 a.e.k, .int .u64 (a.e.c : Int), .slice A na c] 49 1 (fun w => by go_simp) ?_
     intro g16 w16 e16 r16 b16 z16
     try have hne : g5 ≠ g16 := by have := drw_lt r5; omega
     try have r5 := drw_up r5 b16
     try have o5 := own_up o5 b16
     try have o13 := own_up o13 b16
     have HX := below_then HX b16
     have HB := Agr.of_below (Blk f.ea) HX
     refine hK.out _ _ (HB) ?_
     clear hK
     try simp only [Act.put, pst3]
     refine seg_done (fun _ => ?_)
     exact TL _ g5 A13 c13 g16 ⟨Lib.hid o13, r16, HX⟩
    ·skip
     refine op_run rfl (fun K hK => ?_)
     rw [if_pos (by rfl)]
     refine op_litK #[.int .u64 (a.e.t : Int), .int .i64 a.e.k, .int .u64 (a.e.c : Int), .slice A na c] 49 1 (fun w => by go_simp) ?_
     intro g16 w16 e16 r16 b16 z16
     try have hne : g5 ≠ g16 := by have := drw_lt r5; omega
     try have r5 := drw_up r5 b16
     try have o5 := own_up o5 b16
     try have o13 := own_up o13 b16
     have HX := below_then HX b16
     have HB := Agr.of_below (Blk f.ea) HX
     refine hK.out _ _ (HB) ?_
     clear hK
     try simp only [Act.put, pst3]
     refine wpAnyH_seg (by kernel_rfl) (fun _ _ d _ _ h => by first | (cases d <;> exact h) | cases h.1) 3 (brw9 20 131071) [(13, false)] _ _ _ (by kernel_rfl) (HB) ?_
     refine seg_run rfl (fun K hK => ?_)
     rw [if_pos (by rfl)]
     refine op_appQ elV (by decide) _ _ rfl g5 _ 0 [] rfl o5 Ae ne ce eus rfl (er _ (below_agr HX _)) elen erows.one (by omega) (Nat.le_of_lt (drw_lt r5)) ne eus (by omega) rfl ?_
     intro A13 c13 w13 o13 g13 n13
     have o13 := own_monoK o13 le5
     try have r16 := (g13.block g16 (drw_lt r16) (fun e => hne (by injection e with e; exact e.symm))).trans r16
     have HX := grown_beyond HX g13 (fun j hj => by obtain ⟨a', h1, h2⟩ := hj; injection h1 with h1; subst h1; simp only at h2; omega)
     have HB := Agr.of_below (Blk f.ea) HX
     clear g13 n13
     refine hK.out _ _ (HB) ?_
     clear hK
     try simp only [Act.put, pst3]
     refine seg_done (fun _ => ?_)
     exact TL _ g5 A13 c13 g16 ⟨Lib.hid o13, r16, HX⟩
   ·skip
    refine op_run rfl (fun K hK => ?_)
    rw [if_pos (by rfl)]
    refine op_litK #[.int .u64 (a.e.t : Int), .int .i64 a.e.k, .int .u64 (a.e.c : Int), .slice A na c] 49 1 (fun w => by go_simp) ?_
    intro g16 w16 e16 r16 b16 z16
    try have hne : g5 ≠ g16 := by have := drw_lt r5; omega
    try have r5 := drw_up r5 b16
    try have o5 := own_up o5 b16
    try have o13 := own_up o13 b16
    have HX := below_then HX b16
    have HB := Agr.of_below (Blk f.ea) HX
    refine hK.out _ _ (HB) ?_
    clear hK
    try simp only [Act.put, pst3]
    refine wpAnyH_seg (by kernel_rfl) (fun _ _ d _ _ h => by first | (cases d <;> exact h) | cases h.1) 3 (brw9 20 131071) [(12, false), (13, false)] _ _ _ (by kernel_rfl) (HB) ?_
    refine seg_run rfl (fun K hK => ?_)
    rw [if_pos (by rfl)]
    have c12 := (World.cell?_of_block (HX.block be hbe)).trans HCE.out
    refine op_valueS (v := .slice Ae ne ce) (by go_simp) ?_
    clear c12
    refine hK.out _ _ (HB) ?_
    clear hK
    try simp only [Act.put, pst3]
    refine seg_run rfl (fun K hK => ?_)
    rw [if_pos (by rfl)]
    refine op_appQ elV (by decide) _ _ rfl g5 _ 0 [] rfl o5 Ae ne ce eus rfl (er _ (below_agr HX _)) elen erows.one (by omega) (Nat.le_of_lt (drw_lt r5)) ne eus (by omega) rfl ?_
    intro A13 c13 w13 o13 g13 n13
    have o13 := own_monoK o13 le5
    try have r16 := (g13.block g16 (drw_lt r16) (fun e => hne (by injection e with e; exact e.symm))).trans r16
    have HX := grown_beyond HX g13 (fun j hj => by obtain ⟨a', h1, h2⟩ := hj; injection h1 with h1; subst h1; simp only at h2; omega)
    have HB := Agr.of_below (Blk f.ea) HX
    clear g13 n13
    refine hK.out _ _ (HB) ?_
    clear hK
    try simp only [Act.put, pst3]
    refine seg_done (fun _ => ?_)
    exact TL _ g5 A13 c13 g16 ⟨Lib.hid o13, r16, HX⟩
  ·skip
   refine op_run rfl (fun K hK => ?_)
   rw [if_pos (by rfl)]
   have c12 := (World.cell?_of_block (HX.block be hbe)).trans HCE.out
   refine op_valueS (v := .slice Ae ne ce) (by go_simp) ?_
   clear c12
   refine hK.out _ _ (HB) ?_
   clear hK
   try simp only [Act.put, pst3]
   refine wpAnyH_seg (by kernel_rfl) (fun _ _ d _ _ h => by first | (cases d <;> exact h) | cases h.1) 6 (brw9 20 57311) [] _ _ _ (by kernel_rfl) (HB) ?_
   refine seg_done (fun _ => ?_)
   refine wpAnyH_two (i := 5) (j := 16) (f := 5) (by kernel_rfl) ?_ ?_
   ·skip
    refine op_run rfl (fun K hK => ?_)
    rw [if_pos (by rfl)]
    refine op_lit #[] 49 0 rfl (fun w => by go_simp) ?_
    intro g5 w5 e5 r5 b5 z5
    have hz := HX.size
    have le5 : X1.heap.size ≤ g5 := by omega
    try have hne : g5 ≠ g16 := by have := drw_lt r16; omega
    try have r16 := drw_up r16 b5
    have o5 : w5.ownsRow g5 49 4 (.slice (some ⟨g5, 0, none⟩) 0 0) 0 [] := own_emptyK r5
    have HX := below_then HX b5
    have HB := Agr.of_below (Blk f.ea) HX
    clear hz
    refine hK.out _ _ (HB) ?_
    clear hK
    try simp only [Act.put, pst3]
    refine wpAnyH_seg (by kernel_rfl) (fun _ _ d _ _ h => by first | (cases d <;> exact h) | cases h.1) 5 (brw9 20 57343) [] _ _ _ (by kernel_rfl) (HB) ?_
    refine seg_done (fun _ => ?_)
    refine wpAnyH_two (i := 13) (j := 16) (f := 4) (by kernel_rfl) ?_ ?_
    ·skip
     refine op_run rfl (fun K hK => ?_)
     rw [if_pos (by rfl)]
     refine op_appQ elV (by decide) _ _ rfl g5 _ 0 [] rfl o5 Ae ne ce eus rfl (er _ (below_agr HX _)) elen erows.one (by omega) (Nat.le_of_lt (drw_lt r5)) ne eus (by omega) rfl ?_
     intro A13 c13 w13 o13 g13 n13
     have o13 := own_monoK o13 le5
     try have r16 := (g13.block g16 (drw_lt r16) (fun e => hne (by injection e with e; exact e.symm))).trans r16
     have HX := grown_beyond HX g13 (fun j hj => by obtain ⟨a', h1, h2⟩ := hj; injection h1 with h1; subst h1; simp only at h2; omega)
     have HB := Agr.of_below (Blk f.ea) HX
     clear g13 n13
     refine hK.out _ _ (HB) ?_
     clear hK
     try simp only [Act.put, pst3]
     refine wpAnyH_seg (by kernel_rfl) (fun _ _ d _ _ h => by first | (cases d <;> exact h) | cases h.1) 3 (brw9 20 131071) [(16, false)] _ _ _ (by kernel_rfl) (HB) ?_
     refine seg_run rfl (fun K hK => ?_)
     rw [if_pos (by rfl)]
     refine op_litK #[.int .u64 (a.e.t : Int), .int .i64 a.e.k, .int .u64 (a.e.c : Int), .slice A na c] 49 1 (fun w => by go_simp) ?_
     intro g16 w16 e16 r16 b16 z16
     try have hne : g5 ≠ g16 := by have := drw_lt r5; omega
     try have r5 := drw_up r5 b16
     try have o5 := own_up o5 b16
     try have o13 := own_up o13 b16
     have HX := below_then HX b16
     have HB := Agr.of_below (Blk f.ea) HX
     refine hK.out _ _ (HB) ?_
     clear hK
     try simp only [Act.put, pst3]
     refine seg_done (fun _ => ?_)
     exact TL _ g5 A13 c13 g16 ⟨Lib.hid o13, r16, HX⟩
    ·skip
     refine op_run rfl (fun K hK => ?_)
     rw [if_pos (by rfl)]
     refine op_litK #[.int .u64 (a.e.t : Int), .int .i64 a.e.k, .int .u64 (a.e.c : Int), .slice A na c] 49 1 (fun w => by go_simp) ?_
     intro g16 w16 e16 r16 b16 z16
     try have hne : g5 ≠ g16 := by have := drw_lt r5; omega
     try have r5 := drw_up r5 b16
     try have o5 := own_up o5 b16
     try have o13 := own_up o13 b16
     have HX := below_then HX b16
     have HB := Agr.of_below (Blk f.ea) HX
     refine hK.out _ _ (HB) ?_
     clear hK
     try simp only [Act.put, pst3]
     refine wpAnyH_seg (by kernel_rfl) (fun _ _ d _ _ h => by first | (cases d <;> exact h) | cases h.1) 3 (brw9 20 131071) [(13, false)] _ _ _ (by kernel_rfl) (HB) ?_
     refine seg_run rfl (fun K hK => ?_)
     rw [if_pos (by rfl)]
     refine op_appQ elV (by decide) _ _ rfl g5 _ 0 [] rfl o5 Ae ne ce eus rfl (er _ (below_agr HX _)) elen erows.one (by omega) (Nat.le_of_lt (drw_lt r5)) ne eus (by omega) rfl ?_
     intro A13 c13 w13 o13 g13 n13
     have o13 := own_monoK o13 le5
     try have r16 := (g13.block g16 (drw_lt r16) (fun e => hne (by injection e with e; exact e.symm))).trans r16
     have HX := grown_beyond HX g13 (fun j hj => by obtain ⟨a', h1, h2⟩ := hj; injection h1 with h1; subst h1; simp only at h2; omega)
     have HB := Agr.of_below (Blk f.ea) HX
     clear g13 n13
     refine hK.out _ _ (HB) ?_
     clear hK
     try simp only [Act.put, pst3]
     refine seg_done (fun _ => ?_)
     exact TL _ g5 A13 c13 g16 ⟨Lib.hid o13, r16, HX⟩
   ·skip
    refine op_run rfl (fun K hK => ?_)
    rw [if_pos (by rfl)]
    refine op_litK #[.int .u64 (a.e.t : Int), .int .i64 a.e.k, .int .u64 (a.e.c : Int), .slice A na c] 49 1 (fun w => by go_simp) ?_
    intro g16 w16 e16 r16 b16 z16
    try have hne : g5 ≠ g16 := by have := drw_lt r5; omega
    try have r5 := drw_up r5 b16
    try have o5 := own_up o5 b16
    try have o13 := own_up o13 b16
    have HX := below_then HX b16
    have HB := Agr.of_below (Blk f.ea) HX
    refine hK.out _ _ (HB) ?_
    clear hK
    try simp only [Act.put, pst3]
    refine wpAnyH_seg (by kernel_rfl) (fun _ _ d _ _ h => by first | (cases d <;> exact h) | cases h.1) 3 (brw9 20 131071) [(5, false), (13, false)] _ _ _ (by kernel_rfl) (HB) ?_
    refine seg_run rfl (fun K hK => ?_)
    rw [if_pos (by rfl)]
    refine op_lit #[] 49 0 rfl (fun w => by go_simp) ?_
    intro g5 w5 e5 r5 b5 z5
    have hz := HX.size
    have le5 : X1.heap.size ≤ g5 := by omega
    try have hne : g5 ≠ g16 := by have := drw_lt r16; omega
    try have r16 := drw_up r16 b5
    have o5 : w5.ownsRow g5 49 4 (.slice (some ⟨g5, 0, none⟩) 0 0) 0 [] := own_emptyK r5
    have HX := below_then HX b5
    have HB := Agr.of_below (Blk f.ea) HX
    clear hz
    refine hK.out _ _ (HB) ?_
    clear hK
    try simp only [Act.put, pst3]
    refine seg_run rfl (fun K hK => ?_)
    rw [if_pos (by rfl)]
    refine op_appQ elV (by decide) _ _ rfl g5 _ 0 [] rfl o5 Ae ne ce eus rfl (er _ (below_agr HX _)) elen erows.one (by omega) (Nat.le_of_lt (drw_lt r5)) ne eus (by omega) rfl ?_
    intro A13 c13 w13 o13 g13 n13
    have o13 := own_monoK o13 le5
    try have r16 := (g13.block g16 (drw_lt r16) (fun e => hne (by injection e with e; exact e.symm))).trans r16
    have HX := grown_beyond HX g13 (fun j hj => by obtain ⟨a', h1, h2⟩ := hj; injection h1 with h1; subst h1; simp only at h2; omega)
    have HB := Agr.of_below (Blk f.ea) HX
    clear g13 n13
    refine hK.out _ _ (HB) ?_
    clear hK
    try simp only [Act.put, pst3]
    refine seg_done (fun _ => ?_)
    exact TL _ g5 A13 c13 g16 ⟨Lib.hid o13, r16, HX⟩
  ·skip
   refine op_run rfl (fun K hK => ?_)
   rw [if_pos (by rfl)]
   refine op_litK #[.int .u64 (a.e.t : Int), .int .i64 a.e.k, .int .u64 (a.e.c : Int), .slice A na c] 49 1 (fun w => by go_simp) ?_
   intro g16 w16 e16 r16 b16 z16
   try have hne : g5 ≠ g16 := by have := drw_lt r5; omega
   try have r5 := drw_up r5 b16
   try have o5 := own_up o5 b16
   try have o13 := own_up o13 b16
   have HX := below_then HX b16
   have HB := Agr.of_below (Blk f.ea) HX
   refine hK.out _ _ (HB) ?_
   clear hK
   try simp only [Act.put, pst3]
   refine wpAnyH_seg (by kernel_rfl) (fun _ _ d _ _ h => by first | (cases d <;> exact h) | cases h.1) 6 (brw9 20 118751) [] _ _ _ (by kernel_rfl) (HB) ?_
   refine seg_done (fun _ => ?_)
   refine wpAnyH_two (i := 5) (j := 12) (f := 5) (by kernel_rfl) ?_ ?_
   ·skip
    refine op_run rfl (fun K hK => ?_)
    rw [if_pos (by rfl)]
    refine op_lit #[] 49 0 rfl (fun w => by go_simp) ?_
    intro g5 w5 e5 r5 b5 z5
    have hz := HX.size
    have le5 : X1.heap.size ≤ g5 := by omega
    try have hne : g5 ≠ g16 := by have := drw_lt r16; omega
    try have r16 := drw_up r16 b5
    have o5 : w5.ownsRow g5 49 4 (.slice (some ⟨g5, 0, none⟩) 0 0) 0 [] := own_emptyK r5
    have HX := below_then HX b5
    have HB := Agr.of_below (Blk f.ea) HX
    clear hz
    refine hK.out _ _ (HB) ?_
    clear hK
    try simp only [Act.put, pst3]
    refine wpAnyH_seg (by kernel_rfl) (fun _ _ d _ _ h => by first | (cases d <;> exact h) | cases h.1) 3 (brw9 20 131071) [(12, false), (13, false)] _ _ _ (by kernel_rfl) (HB) ?_
    refine seg_run rfl (fun K hK => ?_)
    rw [if_pos (by rfl)]
    have c12 := (World.cell?_of_block (HX.block be hbe)).trans HCE.out
    refine op_valueS (v := .slice Ae ne ce) (by go_simp) ?_
    clear c12
    refine hK.out _ _ (HB) ?_
    clear hK
    try simp only [Act.put, pst3]
    refine seg_run rfl (fun K hK => ?_)
    rw [if_pos (by rfl)]
    refine op_appQ elV (by decide) _ _ rfl g5 _ 0 [] rfl o5 Ae ne ce eus rfl (er _ (below_agr HX _)) elen erows.one (by omega) (Nat.le_of_lt (drw_lt r5)) ne eus (by omega) rfl ?_
    intro A13 c13 w13 o13 g13 n13
    have o13 := own_monoK o13 le5
    try have r16 := (g13.block g16 (drw_lt r16) (fun e => hne (by injection e with e; exact e.symm))).trans r16
    have HX := grown_beyond HX g13 (fun j hj => by obtain ⟨a', h1, h2⟩ := hj; injection h1 with h1; subst h1; simp only at h2; omega)
    have HB := Agr.of_below (Blk f.ea) HX
    clear g13 n13
    refine hK.out _ _ (HB) ?_
    clear hK
    try simp only [Act.put, pst3]
    refine seg_done (fun _ => ?_)
    exact TL _ g5 A13 c13 g16 ⟨Lib.hid o13, r16, HX⟩
   ·skip
    refine op_run rfl (fun K hK => ?_)
    rw [if_pos (by rfl)]
    have c12 := (World.cell?_of_block (HX.block be hbe)).trans HCE.out
    refine op_valueS (v := .slice Ae ne ce) (by go_simp) ?_
    clear c12
    refine hK.out _ _ (HB) ?_
    clear hK
    try simp only [Act.put, pst3]
    refine wpAnyH_seg (by kernel_rfl) (fun _ _ d _ _ h => by first | (cases d <;> exact h) | cases h.1) 3 (brw9 20 131071) [(5, false), (13, false)] _ _ _ (by kernel_rfl) (HB) ?_
    refine seg_run rfl (fun K hK => ?_)
    rw [if_pos (by rfl)]
    refine op_lit #[] 49 0 rfl (fun w => by go_simp) ?_
    intro g5 w5 e5 r5 b5 z5
    have hz := HX.size
    have le5 : X1.heap.size ≤ g5 := by omega
    try have hne : g5 ≠ g16 := by have := drw_lt r16; omega
    try have r16 := drw_up r16 b5
    have o5 : w5.ownsRow g5 49 4 (.slice (some ⟨g5, 0, none⟩) 0 0) 0 [] := own_emptyK r5
    have HX := below_then HX b5
    have HB := Agr.of_below (Blk f.ea) HX
    clear hz
    refine hK.out _ _ (HB) ?_
    clear hK
    try simp only [Act.put, pst3]
    refine seg_run rfl (fun K hK => ?_)
    rw [if_pos (by rfl)]
    refine op_appQ elV (by decide) _ _ rfl g5 _ 0 [] rfl o5 Ae ne ce eus rfl (er _ (below_agr HX _)) elen erows.one (by omega) (Nat.le_of_lt (drw_lt r5)) ne eus (by omega) rfl ?_
    intro A13 c13 w13 o13 g13 n13
    have o13 := own_monoK o13 le5
    try have r16 := (g13.block g16 (drw_lt r16) (fun e => hne (by injection e with e; exact e.symm))).trans r16
    have HX := grown_beyond HX g13 (fun j hj => by obtain ⟨a', h1, h2⟩ := hj; injection h1 with h1; subst h1; simp only at h2; omega)
    have HB := Agr.of_below (Blk f.ea) HX
    clear g13 n13
    refine hK.out _ _ (HB) ?_
    clear hK
    try simp only [Act.put, pst3]
    refine seg_done (fun _ => ?_)
    exact TL _ g5 A13 c13 g16 ⟨Lib.hid o13, r16, HX⟩
 rintro U g5 A13 c13 g16 ⟨O13, r16, HX⟩
 have HB := Agr.of_below (Blk f.ea) HX
 refine wpAnyH_seg (by kernel_rfl) (fun _ _ d _ _ h => by first | (cases d <;> exact h) | cases h.1) 0 (brw9 20 1048575) [(17, false), (18, true), (19, false)] _ _ _ (by kernel_rfl) (HB) ?_
 refine seg_run rfl (fun K hK => ?_)
 rw [if_pos (by rfl)]
 refine op_appQ elV (by decide) _ _ rfl X1.heap.size _ ne eus rfl O13.out (some ⟨g16, 0, none⟩) 1 1 [.int .u64 (a.e.t : Int), .int .i64 a.e.k, .int .u64 (a.e.c : Int), .slice A na c] rfl (rd_rowC r16) rfl (by simp [Value.oneCell']) (by omega) HX.size (ne + 1) _ rfl rfl ?_
 intro A17 c17 w17 o17 g17 n17
 have HX := grown_beyond HX g17 (fun j hj => by have := (own_typ O13.out hj).1; omega)
 have HB := Agr.of_below (Blk f.ea) HX
 have PW := PX.out.below HX
 have hev : EvIn (PlP g f) w17 A17 (ne + 1) c17 (p.evs.getD kk [] ++ [a.e]) := evIn_new o17 (fun j hj => by have := (PX.out.base_ j hj).2; exact this) (Rows.app (Rows.mk1 (K := 4) (E := EvE (PlP g f) w17) (x := a.e) (c := [.int .u64 (a.e.t : Int), .int .i64 a.e.k, .int .u64 (a.e.c : Int), .slice A na c]) rfl (by simp [Value.oneCell']) ⟨A, na, c, rfl, ha.1, hA.to (below_agr (below_then (below_then BV.out bX) HX) _) (fun j hj => .inl (PX.out.base_ j hj).1)⟩) (erows.imp fun _ _ x => x.to (below_agr HX _) (fun _ h => .inl h)))
 obtain ⟨b', hb', lb', sb', fb', PY⟩ := PW.setE kk (by rw [HEN.out]; omega) hev
 obtain rfl : be = b' := by have := HEA.out.symm.trans hb'; injection this with this; injection this
 have c19 := (World.cell?_of_block (HX.block be hbe)).trans HCE.out
 clear hb' lb' sb' n17
 refine hK.out _ _ (HB) ?_
 clear hK
 try simp only [Act.put, pst3]
 iterate 1 (refine seg_take (v := ?_) rfl (Or.inl ⟨by rfl, ?_⟩) ?_; rotate_left; (focus (intro w' hw'; obtain ⟨c83, k2, k3, k4, k5⟩ := HS.out w' hw'; go_simp <;> with_reducible rfl)); try simp only [Act.put, pst3])
 refine seg_run rfl (fun K hK => ?_)
 go_simp
 have HB := HB.comp (Agr.cellT (P := Blk f.ea) (g := be) (o := kk) (Value.slice A17 (ne + 1) c17) HBE.out) (fun j hj => .inl hj)
 refine hK.out _ _ (HB) ?_
 clear hK
 try simp only [Act.put, pst3]
 refine seg_done (fun _ => ?_)
 refine wpAnyH_done (by kernel_rfl) ?_ _
 have hbp : PlP g f be := .inr (.inr (.inr (.inr HBE.out)))
 have nq : be ≠ q1 := fun e => by subst e; have := (PX.out.base_ _ hbp).2; have q' := QX.out; exact row_typ q' HCUR.out (by decide)
 have qY : JmAt (w17.setCell ⟨be, kk, none⟩ (.slice A17 (ne + 1) c17)) q1 m1 := (QX.out.up HX).far nq
 have jY : JIn (PlP g f) (w17.setCell ⟨be, kk, none⟩ (.slice A17 (ne + 1) c17)) m1 (pyApp p a.e).J := (JX.out.below HX).agr (Agr.cellT (P := PlP g f) (g := be) (o := kk) (Value.slice A17 (ne + 1) c17) hbp).p
 have bY : Below base w (w17.setCell ⟨be, kk, none⟩ (.slice A17 (ne + 1) c17)) := ((below_then (below_then BV.out bX) HX).mono hb).trans ((Below.refl _ _).setCell (PX.out.base_ _ hbp).1 _)
 clear o17 g17 c19 fb' hev
 generalize w17.setCell ⟨be, kk, none⟩ (.slice A17 (ne + 1) c17) = Y at PY qY jY bY ⊢
 have PYh := Lib.hid PY
 have QYh := Lib.hid qY
 have JYh := Lib.hid jY
 clear PY qY jY PW HB
 go_wp2_with (first | (refine jm_load JYh.out.z rfl _ rfl rfl QYh.out ?_) | (refine pl_storeJ rfl _ _ rfl rfl rfl PYh.out.row PYh.out.z JYh.out.z ?_))
 go_ret
 refine ⟨rfl, bY.trans ((Agr.cellsT (P := fun j => j = g) (g := g) (o := 0) (vs := jmV m1) rfl rfl).below (fun j hj => by rw [hj]; exact PYh.out.gb) (Nat.le_trans PYh.out.gb (Nat.le_of_lt PYh.out.row.lt))), { f with m := m1 }, ?_⟩
 rw [pyApp_eq p a.e hE kk (by rw [hI.b.el, HKK.out])]
 exact PYh.out.setJ JYh.out
set_option maxHeartbeats 8000000
theorem do_app1 (n : Nat) (base g : Nat) (p : Py) (f : Pf) (a : Ac) (A : Option Addr) (na c : Nat) (B : Option Addr) (nb d : Nat) (w : World) (hI : PyI n p) (h : Pl base w g p f) (ha : a.ok) (hk : a.k = 0) (hb : base ≤ w.heap.size)
  (hA : BIn (fun j => base ≤ j) w A na c a.e.b) (hB : BIn (fun j => base ≤ j) w B nb d a.s) (hE : pyAppE p a.e ≠ 0) :
  Calls Tryz.prog 12 #[.pointer (some ⟨g, 0, none⟩), .agg (acV a A na c B nb d)] w (RetPl base g w p true) := by
 obtain ⟨V, hV⟩ : ∃ V, V = w.alloc (.cells (acV a A na c B nb d) 51) := ⟨_, rfl⟩
 have bV : Below w.heap.size w V := by rw [hV]; exact (below_self w).alloc (Nat.le_refl _) _
 have PV := Lib.hid (h.below bV)
 have qa : V.heap[w.heap.size]? = some (.cells (acV a A na c B nb d) 51 (0, 0)) := by rw [hV]; exact drw_at _ rfl
 have k0 := (cell_of_row V w.heap.size 0 _ _ _ qa).trans (show _ = some (.int .i64 a.k) from rfl)
 have k2 := (cell_of_row V w.heap.size 2 _ _ _ qa).trans (show _ = some (.int .u64 (a.e.t : Int)) from rfl)
 have k3 := (cell_of_row V w.heap.size 3 _ _ _ qa).trans (show _ = some (.int .i64 a.e.k) from rfl)
 have k4 := (cell_of_row V w.heap.size 4 _ _ _ qa).trans (show _ = some (.int .u64 (a.e.c : Int)) from rfl)
 have k5 := (cell_of_row V w.heap.size 5 _ _ _ qa).trans (show _ = some (.slice A na c) from rfl)
 rw [hk] at k0
 have QA := Lib.hid qa
 clear qa
 have hg := h.row.lt
 have hPV : ∀ j, PlP g f j → j < V.heap.size := fun j hj => (PV.out.base_ j hj).2
 have HV := Lib.hid hV
 clear hV
 go_enter Tryz.func12, Tryz.ntmps12
 go_wp2_with (first | (rw [← HV.out]) | (refine pl_loadJ rfl _ rfl rfl PV.out.row PV.out.z ?_))
 obtain ⟨er, her⟩ : ∃ er : Int, er = pyAppE p a.e := ⟨_, rfl⟩
 have hne : er ≠ 0 := by rw [her]; exact hE
 have HER := Lib.hid her
 have hbq : (er == 0) = false := beq_eq_false_iff_ne.2 hne
 clear her
 have HJ : Hid (∀ W, Below V.heap.size V W → Calls Tryz.prog 14 #[.agg (jmV f.m).toArray, .int .u32 1, .agg #[.int .u64 (a.e.t : Int), .int .i64 a.e.k, .int .u64 (a.e.c : Int), .slice A na c]] W (RetJ (PNew (PlP g f) V W) W p.J er)) := Lib.hid (fun W hW => by
  have hh := jrnApp_any (PNew (PlP g f) V W) f.m p.J 1 a.e.t a.e.k a.e.c A na c a.e.b W (PV.out.j.to (below_agr hW _) (fun j hj => hj.imp_right And.left)) (fun j hj => by rcases hj with hj | hj; (have := hPV j hj; have := hW.size; omega); exact hj.2) ((hA.below bV).below hW).now (by decide) ha.1.1 ha.1.2.1 ha.1.2.2
  have hE' : jnAppE p.J a.e.k a.e.c a.e.b.length = er := HER.out.symm
  have hJ' : jnApp p.J 1 a.e.t a.e.k a.e.c a.e.b = p.J := by unfold jnApp; rw [if_neg (by rw [hE']; exact hne)]
  rw [hE', hJ'] at hh
  exact hh)
 have hgV : g < V.heap.size := PV.out.row.lt
 have BV := Lib.hid bV
 apply cut3 (R := fun X m q => Hid (JmAt X q m) ∧ Hid (JIn (PlP g f) X m p.J) ∧ V.heap.size ≤ q ∧ Below V.heap.size V X)
 rotate_left
 ·intro TL
  refine wp_region_seg (S := fun w' => Below V.heap.size V w') 7 (brw9 13 63) [(0, true), (1, true), (2, true), (3, true), (4, true), (5, true)] (by kernel_rfl) (by kernel_rfl) (fun _ _ d _ _ h => by first | (cases d <;> exact h) | cases h.1) ((Below.refl V.heap.size V).drew) ?_
  have HB := (Below.refl V.heap.size V).drew
  iterate 3 (refine seg_take (v := ?_) rfl (Or.inl ⟨by rfl, ?_⟩) ?_; rotate_left; (focus (intro w' hw'; have k2 := (World.cell?_of_block (hw'.block _ (by have := BV.out.size; have := drw_lt QA.out; omega))).trans k2; have k3 := (World.cell?_of_block (hw'.block _ (by have := BV.out.size; have := drw_lt QA.out; omega))).trans k3; have k4 := (World.cell?_of_block (hw'.block _ (by have := BV.out.size; have := drw_lt QA.out; omega))).trans k4; have k5 := (World.cell?_of_block (hw'.block _ (by have := BV.out.size; have := drw_lt QA.out; omega))).trans k5; go_simp <;> with_reducible rfl)); try simp only [Act.put, pst3])
  refine seg_take (v := .agg (jmV f.m).toArray) rfl (Or.inl ⟨by rfl, fun w' hw' => ?_⟩) ?_
  focus (exact pl_ldJ rfl rfl (PV.out.row.up hw') PV.out.z)
  try simp only [Act.put, pst3]
  iterate 2 (refine seg_take (v := ?_) rfl (Or.inl ⟨by rfl, ?_⟩) ?_; rotate_left; (focus (intro w' hw'; have k2 := (World.cell?_of_block (hw'.block _ (by have := BV.out.size; have := drw_lt QA.out; omega))).trans k2; have k3 := (World.cell?_of_block (hw'.block _ (by have := BV.out.size; have := drw_lt QA.out; omega))).trans k3; have k4 := (World.cell?_of_block (hw'.block _ (by have := BV.out.size; have := drw_lt QA.out; omega))).trans k4; have k5 := (World.cell?_of_block (hw'.block _ (by have := BV.out.size; have := drw_lt QA.out; omega))).trans k5; go_simp <;> with_reducible rfl)); try simp only [Act.put, pst3])
  refine seg_done (fun _ => ?_)
  refine wpAnyH_two (i := 6) (j := 10) (f := 6) (by kernel_rfl) ?_ ?_
  ·skip
   refine op_run rfl (fun K hK => ?_)
   go_simp
   refine (HJ.out _ HB).mono ?_
   rintro e_ wC ⟨m1, rfl, j1, bC⟩
   try have qL := qL.up bC
   try have j1 := j1.sub (P' := fun j => PlP g f j ∨ j = g1) (fun j hj => by rcases hj with hj | hj; exact .inl hj; exact .inr (by omega))
   try have lL := Nat.lt_of_lt_of_le lL bC.size
   have HB := below_then HB bC
   refine hK.out _ _ (HB) ?_
   clear hK
   try simp only [Act.put, pst3]
   refine wpAnyH_seg (by kernel_rfl) (fun _ _ d _ _ h => by first | (cases d <;> exact h) | cases h.1) 0 (brw9 13 8191) [(7, true), (8, true), (9, true), (10, false), (11, false), (12, true)] _ _ _ (by kernel_rfl) (HB) ?_
   iterate 3 (refine seg_take (v := ?_) rfl (Or.inl ⟨by rfl, ?_⟩) ?_; rotate_left; (focus (intro w' hw'; have k2 := (World.cell?_of_block (hw'.block _ (by have := BV.out.size; have := drw_lt QA.out; omega))).trans k2; have k3 := (World.cell?_of_block (hw'.block _ (by have := BV.out.size; have := drw_lt QA.out; omega))).trans k3; have k4 := (World.cell?_of_block (hw'.block _ (by have := BV.out.size; have := drw_lt QA.out; omega))).trans k4; have k5 := (World.cell?_of_block (hw'.block _ (by have := BV.out.size; have := drw_lt QA.out; omega))).trans k5; go_simp <;> with_reducible rfl)); try simp only [Act.put, pst3])
   refine seg_run rfl (fun K hK => ?_)
   rw [if_pos (by rfl)]
   refine op_new Tryz.zeroCells36 36 (fun w => by go_simp) ?_
   intro g1 wL eL hL bL zL
   have qL : JmAt wL g1 jmZ := by rw [jmZ_zero] at hL; exact hL
   have HBz := HB.size
   have hgle : V.heap.size ≤ g1 := by omega
   have lL : g1 < wL.heap.size := by omega
   try have j1 := j1.to (P' := fun j => PlP g f j ∨ j = g1) (below_agr bL _) (fun j hj => by rcases hj with hj | hj; exact .inl (.inl hj); exact .inr (by omega))
   have HB := below_then HB bL
   clear eL hL zL HBz
   refine hK.out _ _ (HB) ?_
   clear hK
   try simp only [Act.put, pst3]
   refine seg_run rfl (fun K hK => ?_)
   rw [if_pos (by rfl)]
   refine op_jmst j1.z jmZ_z _ _ rfl rfl rfl qL ?_
   intro X zX qX bX nX
   have jX := (j1.agr (AgrP.one (AgrP.refl _ _) (r := g1) (Or.inr rfl) zX nX)).sub (P' := PlP g f) (fun j hj => .inl hj)
   have HB := HB.trans (bX _ hgle)
   refine hK.out _ _ (HB) ?_
   clear hK
   try simp only [Act.put, pst3]
   iterate 1 (refine seg_take (v := ?_) rfl (Or.inl ⟨by rfl, ?_⟩) ?_; rotate_left; (focus (intro w' hw'; have k2 := (World.cell?_of_block (hw'.block _ (by have := BV.out.size; have := drw_lt QA.out; omega))).trans k2; have k3 := (World.cell?_of_block (hw'.block _ (by have := BV.out.size; have := drw_lt QA.out; omega))).trans k3; have k4 := (World.cell?_of_block (hw'.block _ (by have := BV.out.size; have := drw_lt QA.out; omega))).trans k4; have k5 := (World.cell?_of_block (hw'.block _ (by have := BV.out.size; have := drw_lt QA.out; omega))).trans k5; go_simp <;> with_reducible rfl)); try simp only [Act.put, pst3])
   refine seg_done (fun _ => ?_)
   refine wpAnyH_done (by kernel_rfl) ?_ _
   exact TL X m1 g1 ⟨Lib.hid qX, Lib.hid jX, hgle, HB⟩
  ·skip
   refine op_run rfl (fun K hK => ?_)
   rw [if_pos (by rfl)]
   refine op_new Tryz.zeroCells36 36 (fun w => by go_simp) ?_
   intro g1 wL eL hL bL zL
   have qL : JmAt wL g1 jmZ := by rw [jmZ_zero] at hL; exact hL
   have HBz := HB.size
   have hgle : V.heap.size ≤ g1 := by omega
   have lL : g1 < wL.heap.size := by omega
   try have j1 := j1.to (P' := fun j => PlP g f j ∨ j = g1) (below_agr bL _) (fun j hj => by rcases hj with hj | hj; exact .inl (.inl hj); exact .inr (by omega))
   have HB := below_then HB bL
   clear eL hL zL HBz
   refine hK.out _ _ (HB) ?_
   clear hK
   try simp only [Act.put, pst3]
   refine wpAnyH_seg (by kernel_rfl) (fun _ _ d _ _ h => by first | (cases d <;> exact h) | cases h.1) 0 (brw9 13 8191) [(6, false), (7, true), (8, true), (9, true), (11, false), (12, true)] _ _ _ (by kernel_rfl) (HB) ?_
   refine seg_run rfl (fun K hK => ?_)
   go_simp
   refine (HJ.out _ HB).mono ?_
   rintro e_ wC ⟨m1, rfl, j1, bC⟩
   try have qL := qL.up bC
   try have j1 := j1.sub (P' := fun j => PlP g f j ∨ j = g1) (fun j hj => by rcases hj with hj | hj; exact .inl hj; exact .inr (by omega))
   try have lL := Nat.lt_of_lt_of_le lL bC.size
   have HB := below_then HB bC
   refine hK.out _ _ (HB) ?_
   clear hK
   try simp only [Act.put, pst3]
   iterate 3 (refine seg_take (v := ?_) rfl (Or.inl ⟨by rfl, ?_⟩) ?_; rotate_left; (focus (intro w' hw'; have k2 := (World.cell?_of_block (hw'.block _ (by have := BV.out.size; have := drw_lt QA.out; omega))).trans k2; have k3 := (World.cell?_of_block (hw'.block _ (by have := BV.out.size; have := drw_lt QA.out; omega))).trans k3; have k4 := (World.cell?_of_block (hw'.block _ (by have := BV.out.size; have := drw_lt QA.out; omega))).trans k4; have k5 := (World.cell?_of_block (hw'.block _ (by have := BV.out.size; have := drw_lt QA.out; omega))).trans k5; go_simp <;> with_reducible rfl)); try simp only [Act.put, pst3])
   refine seg_run rfl (fun K hK => ?_)
   rw [if_pos (by rfl)]
   refine op_jmst j1.z jmZ_z _ _ rfl rfl rfl qL ?_
   intro X zX qX bX nX
   have jX := (j1.agr (AgrP.one (AgrP.refl _ _) (r := g1) (Or.inr rfl) zX nX)).sub (P' := PlP g f) (fun j hj => .inl hj)
   have HB := HB.trans (bX _ hgle)
   refine hK.out _ _ (HB) ?_
   clear hK
   try simp only [Act.put, pst3]
   iterate 1 (refine seg_take (v := ?_) rfl (Or.inl ⟨by rfl, ?_⟩) ?_; rotate_left; (focus (intro w' hw'; have k2 := (World.cell?_of_block (hw'.block _ (by have := BV.out.size; have := drw_lt QA.out; omega))).trans k2; have k3 := (World.cell?_of_block (hw'.block _ (by have := BV.out.size; have := drw_lt QA.out; omega))).trans k3; have k4 := (World.cell?_of_block (hw'.block _ (by have := BV.out.size; have := drw_lt QA.out; omega))).trans k4; have k5 := (World.cell?_of_block (hw'.block _ (by have := BV.out.size; have := drw_lt QA.out; omega))).trans k5; go_simp <;> with_reducible rfl)); try simp only [Act.put, pst3])
   refine seg_done (fun _ => ?_)
   refine wpAnyH_done (by kernel_rfl) ?_ _
   exact TL X m1 g1 ⟨Lib.hid qX, Lib.hid jX, hgle, HB⟩
 rintro X1 m1 q1 ⟨QX, JX, hq, bX⟩
 have PX := Lib.hid (PV.out.below bX)
 go_wp2_with (first | (refine jm_load JX.out.z rfl _ rfl rfl QX.out ?_) | (refine pl_storeJ rfl _ _ rfl rfl rfl PX.out.row PX.out.z JX.out.z ?_))
 go_ret
 refine ⟨rfl, ((below_then BV.out bX).mono hb).trans ((Agr.cellsT (P := fun j => j = g) (g := g) (o := 0) (vs := jmV m1) rfl rfl).below (fun j hj => by rw [hj]; exact PX.out.gb) (Nat.le_trans PX.out.gb (Nat.le_of_lt PX.out.row.lt))), { f with m := m1 }, ?_⟩
 exact PX.out.setJ JX.out
theorem do_none (n : Nat) (base g : Nat) (p : Py) (f : Pf) (a : Ac) (A : Option Addr) (na c : Nat) (B : Option Addr) (nb d : Nat) (w : World) (hI : PyI n p) (h : Pl base w g p f) (ha : a.ok) (hk0 : ¬ a.k = 0) (hk1 : ¬ a.k = 1) (hk2 : ¬ a.k = 2) (hk3 : ¬ a.k = 3) (hb : base ≤ w.heap.size)
  (hA : BIn (fun j => base ≤ j) w A na c a.e.b) (hB : BIn (fun j => base ≤ j) w B nb d a.s) :
  Calls Tryz.prog 12 #[.pointer (some ⟨g, 0, none⟩), .agg (acV a A na c B nb d)] w (RetPl base g w p true) := by
 obtain ⟨V, hV⟩ : ∃ V, V = w.alloc (.cells (acV a A na c B nb d) 51) := ⟨_, rfl⟩
 have bV : Below w.heap.size w V := by rw [hV]; exact (below_self w).alloc (Nat.le_refl _) _
 have PV := Lib.hid (h.below bV)
 have qa : V.heap[w.heap.size]? = some (.cells (acV a A na c B nb d) 51 (0, 0)) := by rw [hV]; exact drw_at _ rfl
 have k0 := (cell_of_row V w.heap.size 0 _ _ _ qa).trans (show _ = some (.int .i64 a.k) from rfl)
 have k2 := (cell_of_row V w.heap.size 2 _ _ _ qa).trans (show _ = some (.int .u64 (a.e.t : Int)) from rfl)
 have k3 := (cell_of_row V w.heap.size 3 _ _ _ qa).trans (show _ = some (.int .i64 a.e.k) from rfl)
 have k4 := (cell_of_row V w.heap.size 4 _ _ _ qa).trans (show _ = some (.int .u64 (a.e.c : Int)) from rfl)
 have k5 := (cell_of_row V w.heap.size 5 _ _ _ qa).trans (show _ = some (.slice A na c) from rfl)
 have q0 : (a.k == 0) = false := beq_eq_false_iff_ne.2 hk0
 have q1 : (a.k == 1) = false := beq_eq_false_iff_ne.2 hk1
 have q2 : (a.k == 2) = false := beq_eq_false_iff_ne.2 hk2
 have q3 : (a.k == 3) = false := beq_eq_false_iff_ne.2 hk3
 have QA := Lib.hid qa
 clear qa
 have hg := h.row.lt
 have hPV : ∀ j, PlP g f j → j < V.heap.size := fun j hj => (PV.out.base_ j hj).2
 have HV := Lib.hid hV
 clear hV
 go_enter Tryz.func12, Tryz.ntmps12
 go_wp2_with (first | (rw [← HV.out]) | (refine pl_loadJ rfl _ rfl rfl PV.out.row PV.out.z ?_))
 go_ret
 exact ⟨rfl, bV.mono hb, f, PV.out⟩
end Go.Proofs.YtpahicfnhhhifaaGreat
