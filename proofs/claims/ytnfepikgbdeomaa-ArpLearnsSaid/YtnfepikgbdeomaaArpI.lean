/-
  Layer 19: arp: who goes: cmp.Or, MinFunc, Index, oldest. Which one it is nobody asks here.
-/
import Derived.Test.YtnfepikgbdeomaaArpH
import Derived.Test.YtnfepikgbdeomaaSupE
namespace Go.Proofs.Ytnfepikgbdeomaa
set_option maxRecDepth 20000
open Go.RowKit
set_option linter.unusedVariables false
set_option linter.unusedSimpArgs false
set_option maxHeartbeats 8000000

/-- Some number. -/
def RetI (w : World) (e : Ending) (w' : World) : Prop := ∃ z : Int, e = .returned (.int .i64 z) ∧ Below w.heap.size w w'
theorem cmpOr_any (a b : Int) (g : Nat) (w : World) (hg : w.heap[g]? = some (.cells #[.int .i64 a, .int .i64 b] 3 (0, 0))) : Calls Try.prog 140 #[.slice (some ⟨g, 0, none⟩) 2 2] w (RetI w) := by
  have c0 : w.cell? ⟨g, 0, none⟩ = some (.int .i64 a) := (cell_of_row w g 0 _ _ _ hg).trans rfl
  have c1 : w.cell? ⟨g, 1, none⟩ = some (.int .i64 b) := (cell_of_row w g 1 _ _ _ hg).trans rfl
  have hl := drw_lt hg
  clear hg
  go_enter Try.func140, Try.ntmps140
  go_wp2_with fail
  go_loopw [8] (fun i wr => (i = .int .i64 0 ∨ i = .int .i64 1 ∨ i = .int .i64 2) ∧ Below w.heap.size w wr) (fun i _ => 2 - (intOf i).toNat)
  case atStart => exact ⟨.inl rfl, Below.refl _ _⟩
  case round =>
  obtain ⟨hi, hB⟩ := hrel
  have k0 := (hB.cell (p := ⟨g, 0, none⟩) hl).trans c0
  have k1 := (hB.cell (p := ⟨g, 1, none⟩) hl).trans c1
  rcases hi with rfl | rfl | rfl
  · by_cases h : a = 0
    · subst h
      go_wp2_with fail
      go_roundw
      case rel => exact ⟨.inr (.inl rfl), hB⟩
      case measure => simp [intOf]
    · have d1 : (a != 0) = true := by simpa using h
      have d2 : (a == 0) = false := by simpa using h
      go_wp2_with fail
      go_ret
      exact ⟨a, rfl, hB⟩
  · by_cases h : b = 0
    · subst h
      go_wp2_with fail
      go_roundw
      case rel => exact ⟨.inr (.inr rfl), hB⟩
      case measure => simp [intOf]
    · have d1 : (b != 0) = true := by simpa using h
      have d2 : (b == 0) = false := by simpa using h
      go_wp2_with fail
      go_ret
      exact ⟨b, rfl, hB⟩
  · go_wp2_with fail
    go_ret
    exact ⟨0, rfl, hB⟩
theorem arpOldest1_any (x y : Nb) (w : World) : Calls Try.prog 139 #[.agg (nbA x), .agg (nbA y)] w (RetI w) := by
  obtain ⟨V, hV⟩ : ∃ V, V = (w.alloc (.cells (nbA x) 109)).alloc (.cells (nbA y) 109) := ⟨_, rfl⟩
  have bV : Below w.heap.size w V := by rw [hV]; exact ((below_self w).alloc (Nat.le_refl _) _).alloc (by simp) _
  have qx : NbAt V w.heap.size x := by rw [hV]; exact drw_old _ (drw_at _ rfl)
  have qy : NbAt V (w.heap.size + 1) y := by rw [hV]; exact drw_at _ (by simp)
  have HV := Lib.hid hV
  have x7 := qx.c7
  have y7 := qy.c7
  have lx := qx.lt
  have ly := qy.lt
  have HX := Lib.hid qx
  have HY := Lib.hid qy
  have HC := Lib.hid (fun W => compare64_any x.t y.t W)
  have HB2 := Lib.hid (fun W => byIP_any x y W)
  obtain ⟨za, hza⟩ : ∃ z, cmpN x.t y.t = z := ⟨_, rfl⟩
  obtain ⟨zb, hzb⟩ : ∃ z, cmpN x.ip y.ip = z := ⟨_, rfl⟩
  rw [hza] at HC
  rw [hzb] at HB2
  clear hV qx qy hza hzb
  go_enter Try.func139, Try.ntmps139
  go_wp2_with (rw [← HV.out])
  refine wp_region_seg (S := fun w' => Below V.heap.size V w') 0 #[true, true, true, true, true, true, true, true, true, true, true] [(0, true), (1, true), (2, true), (3, true), (4, true), (5, true), (6, true), (7, false), (8, false), (9, false), (10, true)] (by kernel_rfl) (by kernel_rfl) (fun _ _ d _ _ h => by first | (cases d <;> exact h) | cases h.1) ((Below.refl V.heap.size V).drew) ?_
  have HB := (Below.refl V.heap.size V).drew
  iterate 4 (refine seg_take (v := ?_) rfl (Or.inl ⟨by rfl, ?_⟩) ?_; rotate_left; (focus (intro w' hw'; have j0 := (hw'.cell (p := ⟨w.heap.size, 7, none⟩) lx).trans x7; have j1 := (hw'.cell (p := ⟨w.heap.size + 1, 7, none⟩) ly).trans y7; go_simp <;> with_reducible rfl)); try simp only [Act.put, List.setIfInBounds_toArray, List.set_cons_zero, List.set_cons_succ])
  refine seg_pure (v := .int .i64 za) (f := ?_) (args := ?_) rfl (by rfl) (fun w' hw' => ?_) (fun w' hw' => ?_) ?_
  rotate_left 2
  focus (have j0 := (hw'.cell (p := ⟨w.heap.size, 7, none⟩) lx).trans x7; have j1 := (hw'.cell (p := ⟨w.heap.size + 1, 7, none⟩) ly).trans y7; go_simp <;> first | (refine ⟨?_, ?_⟩ <;> with_reducible rfl) | with_reducible rfl)
  focus (exact (HC.out w').mono (fun e w1 h => ⟨h.1, h.2.symm⟩))
  try simp only [Act.put, List.setIfInBounds_toArray, List.set_cons_zero, List.set_cons_succ]
  refine seg_take (v := .agg (nbA x)) rfl (Or.inl ⟨by rfl, fun w' hw' => ?_⟩) ?_
  focus (exact nbx_load rfl rfl (nb_run HX.out hw'))
  try simp only [Act.put, List.setIfInBounds_toArray, List.set_cons_zero, List.set_cons_succ]
  refine seg_take (v := .agg (nbA y)) rfl (Or.inl ⟨by rfl, fun w' hw' => ?_⟩) ?_
  focus (exact nbx_load rfl rfl (nb_run HY.out hw'))
  try simp only [Act.put, List.setIfInBounds_toArray, List.set_cons_zero, List.set_cons_succ]
  refine seg_run rfl (fun K hK => ?_)
  go_simp
  refine (HB2.out _).mono ?_
  rintro e_ wA ⟨rfl, hbA⟩
  have HB := below_then HB hbA
  refine hK.out _ _ (HB) ?_
  clear hK
  try simp only [Act.put, List.setIfInBounds_toArray, List.set_cons_zero, List.set_cons_succ]
  refine seg_run rfl (fun K hK => ?_)
  rw [if_pos (by rfl)]
  refine op_lit #[.int .i64 za, .int .i64 zb] 3 2 rfl (fun w => by go_simp) ?_
  intro gI wI eI hIrow HIb hIsz
  have HB := below_then HB HIb
  refine hK.out _ _ (HB) ?_
  clear hK
  try simp only [Act.put, List.setIfInBounds_toArray, List.set_cons_zero, List.set_cons_succ]
  refine seg_run rfl (fun K hK => ?_)
  go_simp
  refine (cmpOr_any za zb gI wI hIrow).mono ?_
  rintro e_ wR ⟨zr, rfl, hbR⟩
  have HB := below_then HB hbR
  refine hK.out _ _ (HB) ?_
  clear hK
  try simp only [Act.put, List.setIfInBounds_toArray, List.set_cons_zero, List.set_cons_succ]
  iterate 1 (refine seg_take (v := ?_) rfl (Or.inl ⟨by rfl, ?_⟩) ?_; rotate_left; (focus (intro w' hw'; have j0 := (hw'.cell (p := ⟨w.heap.size, 7, none⟩) lx).trans x7; have j1 := (hw'.cell (p := ⟨w.heap.size + 1, 7, none⟩) ly).trans y7; go_simp <;> with_reducible rfl)); try simp only [Act.put, List.setIfInBounds_toArray, List.set_cons_zero, List.set_cons_succ])
  refine seg_done (fun _ => ?_)
  refine wpAnyH_done (by kernel_rfl) ?_ _
  go_wp2_with fail
  go_ret
  exact ⟨zr, rfl, below_then bV HB⟩
/-! ### neighbours compared -/
def nbLits (x : Nb) : List Lit := [[.int .u32 (x.ip : Int)], x.m.l.map litB, [.int .u64 (x.t : Int)]].flatten
theorem keyLits_mac (d : Nat) (m : Mc) : Try.prog.keyLits (d + 2) 96 [.int .u8 (m.a0.toNat : Int), .int .u8 (m.a1.toNat : Int), .int .u8 (m.a2.toNat : Int), .int .u8 (m.a3.toNat : Int), .int .u8 (m.a4.toNat : Int), .int .u8 (m.a5.toNat : Int)] = some (m.l.map litB) := by
  have c1 : Try.prog.cellsOf 5 = 1 := by kernel_rfl
  have c2 : Try.prog.cellsOf 96 = 6 := by kernel_rfl
  have h : m.l.length = 6 := rfl
  show Try.prog.keyLits (d + 2) 96 (m.l.map vB) = _
  unfold Program.keyLits
  rw [Try.underlying96]
  simp only []
  rw [if_pos (by rw [c2, List.length_map, h])]
  rw [mapM_some _ (fun i => [litB (m.l.getD i 0)]) (List.range 6) (fun i hi => ?_)]
  · have e := flat_single m.l litB
    rw [h] at e
    rw [Option.map_some, e]
  · have hi' : i < m.l.length := by rw [h]; simpa using hi
    rw [c1, Nat.mul_one, List.drop_eq_getElem_cons (by simpa using hi')]
    simp only [List.getElem_map, List.take_succ_cons, List.take_zero]
    rw [keyLits_u8]
    simp [List.getD, hi']
theorem keyLits_nb (x : Nb) (h : x.ok) : Try.prog.keyLits 4 109 (nbA x).toList = some (nbLits x) := by
  obtain ⟨h1, h2⟩ := h
  have c0 : Try.prog.cellsOf 109 = 8 := by kernel_rfl
  have c1 : Try.prog.cellsOf 23 = 1 := by kernel_rfl
  have c2 : Try.prog.cellsOf 42 = 1 := by kernel_rfl
  have c3 : Try.prog.cellsOf 96 = 6 := by kernel_rfl
  have k0 : Try.prog.keyLits 3 23 [.int .u32 (x.ip : Int)] = some [.int .u32 (x.ip : Int)] := by
    unfold Program.keyLits; rw [Try.underlying23]; simp [Lit.wf, IntKind.min, IntKind.max, IntKind.signed, IntKind.bits]; omega
  have k1 : Try.prog.keyLits 3 42 [.int .u64 (x.t : Int)] = some [.int .u64 (x.t : Int)] := by
    unfold Program.keyLits; rw [Try.underlying42]; simp [Lit.wf, IntKind.min, IntKind.max, IntKind.signed, IntKind.bits]; omega
  have k3 := keyLits_mac 1 x.m
  have hv : (nbA x).toList = [.int .u32 (x.ip : Int), .int .u8 (x.m.a0.toNat : Int), .int .u8 (x.m.a1.toNat : Int), .int .u8 (x.m.a2.toNat : Int), .int .u8 (x.m.a3.toNat : Int), .int .u8 (x.m.a4.toNat : Int), .int .u8 (x.m.a5.toNat : Int), .int .u64 (x.t : Int)] := rfl
  rw [hv]
  unfold Program.keyLits
  rw [Try.underlying109]
  simp only []
  rw [if_pos ⟨by rw [c0]; rfl, by decide +kernel⟩]
  simp [c1, c2, c3, k0, k1, k3, nbLits]
theorem formed_nb (x : Nb) : (Value.agg (nbA x)).formed Try.prog 109 = true := by
  have c2 : Try.prog.cellsOf 109 = 8 := by kernel_rfl
  unfold Value.formed; rw [Try.underlying109]
  simp [c2, nbA]
theorem ex_eqlP {P : Program} {o : Oper} {a : Act} {w : World} {ty : TypeId} {x y : Operand} {xs ys : Array Value} {r : Bool} (ho : o.op = .binOp .eql ty x y ty) (hx : a.eval x = .agg xs) (hy : a.eval y = .agg ys) (hm : P.eqGuardType P.depth ty = false)
    (h : (binOp .eql ty (.agg xs) (.agg ys)).run P w = .ok (.bool r) w) : (execOp a.eval o).run P w = .ok (.value (.bool r)) w := by
  unfold execOp
  simp only [ho, hx, hy, Sem.run_bind, run_eqGuard_agg (hm := hm), Result.andThen_ok, h, Sem.run_pure]
/-- Whether neighbours are the same: at least each is the same as itself. -/
theorem run_eql_nb (x y : Nb) (hx : x.ok) (hy : y.ok) : ∃ r : Bool, (x = y → r = true) ∧ ∀ w, (binOp .eql 109 (.agg (nbA x)) (.agg (nbA y))).run Try.prog w = .ok (.bool r) w := by
  obtain ⟨r, hr⟩ : ∃ r : Bool, (r = true ↔ nbLits x = nbLits y) := by
    by_cases h : nbLits x = nbLits y
    · exact ⟨true, by simp [h]⟩
    · exact ⟨false, by simp [h]⟩
  refine ⟨r, fun h => hr.2 (by rw [h]), fun w => ?_⟩
  obtain ⟨r', hr', hiff⟩ := run_equalIn_deep (P := Try.prog) 9996 4 109 (by kernel_rfl) w 4 4 _ _ _ _ (formed_nb x) (formed_nb y) (keyLits_nb x hx) (keyLits_nb y hy)
  have e : r' = r := by rw [Bool.eq_iff_iff, hiff, hr]
  rw [run_eql_struct, show (10000 : Nat) = 9996 + 4 from rfl, hr', e]; rfl
theorem nb_cells {w : World} {h : Nat} {x y : Nb} (hrow : NbAt w h x) : (storeCells ⟨h, 0, none⟩ (nbA y).toList).run Try.prog w = .ok () (w.setRow h (nbA y)) := by
  have := run_storeCells_at Try.prog h 0 109 (nbA y).toList 0 (nbA x) w hrow (by simp [nbA]) (by simp [nbA, Value.oneCell'])
  refine this.trans ?_
  congr 2
theorem nbA_size (x : Nb) : (nbA x).size = 8 := rfl
theorem NbAt.set {w : World} {h : Nat} {x : Nb} (hrow : NbAt w h x) (y : Nb) : NbAt (w.setRow h (nbA y)) h y := setRow_heap _ _ _ (nbA y) _ _ hrow
theorem NbIn.far {w w' : World} {b o B : Nat} {x : Nb} (h : NbIn w b o x) (hb : Below B w w') (hlt : b < B) : NbIn w' b o x := ⟨Nat.lt_of_lt_of_le h.1 hb.size, fun j v hv => (hb.cell (p := ⟨b, o + j, none⟩) hlt).trans (h.2 j v hv)⟩
/-- The box's and the row's facts at the loop's head. -/
def MinI (W : World) (gm : Nat) (l : List Nb) (n : Nat) (i : Value) (wr : World) : Prop := ∃ k j : Nat, 1 ≤ k ∧ k ≤ n ∧ i = .int .i64 (k : Int) ∧ j < n ∧ NbAt wr gm (l.getD j nb0) ∧ Below gm W wr
theorem dres_cell1 {P : Program} {fn : Func} {p : Tmp} {ty : TypeId} (h : fn.results = #[.cell p ty]) (tmps : Array Value) (w : World) (g : Nat) (t : TypeId) (cs : Array Value) (fr : Nat × Nat) (d : TypeDesc)
    (hp : tmps.getD p undef = .pointer (some ⟨g, 0, none⟩)) (hg : w.heap[g]? = some (.cells cs t fr))
    (hu : P.underlying ty = some d) (hd : (match d with | .struct _ | .array _ _ => true | _ => false) = true) (hi : (P.info? ty).map (·.size) = some cs.size) :
    (results fn tmps).run P w = .ok (.agg cs) w := by
  have hp' : tmps[p]?.getD undef = .pointer (some ⟨g, 0, none⟩) := by simpa using hp
  simp [results, h, hp', asAddr, run_loadVar_row w g t ty cs fr d hg hu hd hi]
/-- One of them. -/
def RetOne (w : World) (l : List Nb) (n : Nat) (e : Ending) (w' : World) : Prop := ∃ j : Nat, j < n ∧ e = .returned (.agg (nbA (l.getD j nb0))) ∧ Below w.heap.size w w'
theorem minNb_any (A : Option Addr) (n c : Nat) (l : List Nb) (w : World) (hr : RdNb w A n c l) (hn : 1 ≤ n) :
    Calls Try.prog 138 #[.slice A n c, .func (.func 139) #[] #[]] w (RetOne w l n) := by
  have hn63 := hr.n63
  obtain ⟨V, hV⟩ : ∃ V, V = w.alloc (.cells #[.int .u32 0, .int .u8 0, .int .u8 0, .int .u8 0, .int .u8 0, .int .u8 0, .int .u8 0, .int .u64 0] 109) := ⟨_, rfl⟩
  have bV : Below w.heap.size w V := by rw [hV]; exact (below_self w).alloc (Nat.le_refl _) _
  have zV : V.heap.size = w.heap.size + 1 := by rw [hV]; simp
  have qV : NbAt V w.heap.size nb0 := by rw [hV]; exact drw_at _ rfl
  have HV := Lib.hid hV
  have ZV := Lib.hid zV
  have HQ := Lib.hid qV
  obtain ⟨b, o, rfl, hb, hok, hin⟩ := (hr.below bV).nb 0 (by omega)
  have HIN := Lib.hid hin
  have HR := Lib.hid hr
  have d1 : decide ((n : Int) < 1) = false := decide_eq_false (by omega)
  have l0 : (0 : Int) < (n : Int) := by omega
  obtain ⟨x0, hx0⟩ : ∃ x, l.getD 0 nb0 = x := ⟨_, rfl⟩
  rw [hx0] at HIN
  have HX0 := Lib.hid hx0
  clear hV zV qV hin hx0 hr
  rw [Nat.zero_mul, Nat.add_zero] at HIN
  go_enter Try.func138, Try.ntmps138
  go_wp2_with (first | (rw [← HV.out]; refine nb_mid rfl _ rfl b o rfl HIN.out ?_) | (refine nb_fresh rfl _ _ rfl rfl rfl V rfl rfl ?_; intro X q x1))
  obtain ⟨gm, hgm⟩ : ∃ g, g = V.heap.size := ⟨_, rfl⟩
  rw [← hgm] at q x1 ⊢
  have HGM := Lib.hid hgm
  have BX := below_then bV (hgm ▸ x1 : Below V.heap.size V X)
  have RX := HR.out.below BX
  have XV := Lib.hid (show V.heap.size ≤ gm by omega)
  have x1V := Lib.hid (hgm ▸ x1 : Below V.heap.size V X)
  clear hgm
  go_loopw [6] (MinI X gm l n) (fun i _ => n - (intOf i).toNat)
  case atStart => exact ⟨1, 0, by omega, hn, rfl, by omega, by rw [HX0.out]; exact q.out, Below.refl _ _⟩
  case round =>
  obtain ⟨k, j, hk1, hk, rfl, hj, hbox, hB⟩ := hrel
  by_cases hlt : k < n
  · obtain ⟨b', o', he, hb1, hok1, hin1⟩ := RX.nb k hlt
    injection he with he; injection he with e2 e3; subst e2 e3
    have hbg : b < gm := Nat.lt_of_lt_of_le hb XV.out
    have hink : NbIn wr b (o + k * 8) (l.getD k nb0) := hin1.far hB hbg
    obtain ⟨xk, hxk⟩ : ∃ x, l.getD k nb0 = x := ⟨_, rfl⟩
    obtain ⟨yj, hyj⟩ : ∃ x, l.getD j nb0 = x := ⟨_, rfl⟩
    rw [hxk] at hink
    rw [hyj] at hbox
    have HXK := Lib.hid hxk
    have HYJ := Lib.hid hyj
    have HIK := Lib.hid hink
    have HBX := Lib.hid hbox
    have HC := Lib.hid (fun W => arpOldest1_any xk yj W)
    have lk : (k : Int) < (n : Int) := by omega
    clear hxk hyj hink hbox hin1
    go_wp2_with fail
    refine wp_region_seg (S := fun w' => Below wr.heap.size wr w') 0 #[true, true, true, true, true, true, true, true] [(0, true), (1, true), (2, true), (3, true), (4, true), (5, true), (6, false), (7, true)] (by kernel_rfl) (by kernel_rfl) (fun _ _ d _ _ h => by first | (cases d <;> exact h) | cases h.1) ((Below.refl wr.heap.size wr).drew) ?_
    have HB := (Below.refl wr.heap.size wr).drew
    iterate 4 (refine seg_take (v := ?_) rfl (Or.inl ⟨by rfl, ?_⟩) ?_; rotate_left; (focus (intro w' hw'; go_simp <;> with_reducible rfl)); try simp only [Act.put, List.setIfInBounds_toArray, List.set_cons_zero, List.set_cons_succ])
    refine seg_take (v := .agg (nbA xk)) rfl (Or.inl ⟨by rfl, fun w' hw' => ?_⟩) ?_
    focus (exact nbx_load rfl rfl (nb_runm HIK.out hw'))
    try simp only [Act.put, List.setIfInBounds_toArray, List.set_cons_zero, List.set_cons_succ]
    refine seg_take (v := .agg (nbA yj)) rfl (Or.inl ⟨by rfl, fun w' hw' => ?_⟩) ?_
    focus (exact nbx_load rfl rfl (nb_run HBX.out hw'))
    try simp only [Act.put, List.setIfInBounds_toArray, List.set_cons_zero, List.set_cons_succ]
    refine seg_run rfl (fun K hK => ?_)
    go_simp
    refine (HC.out _).mono ?_
    rintro e_ wA ⟨z, rfl, hbA⟩
    have HB := below_then HB hbA
    refine hK.out _ _ (HB) ?_
    clear hK
    try simp only [Act.put, List.setIfInBounds_toArray, List.set_cons_zero, List.set_cons_succ]
    iterate 1 (refine seg_take (v := ?_) rfl (Or.inl ⟨by rfl, ?_⟩) ?_; rotate_left; (focus (intro w' hw'; go_simp <;> with_reducible rfl)); try simp only [Act.put, List.setIfInBounds_toArray, List.set_cons_zero, List.set_cons_succ])
    refine seg_done (fun _ => ?_)
    refine wpAnyH_done (by kernel_rfl) ?_ _
    have hboxA := HBX.out.up HB
    have hgl := hboxA.lt
    by_cases hz : z < 0
    · have d2 : decide (z < 0) = true := decide_eq_true hz
      have hst := nb_cells (y := xk) hboxA
      have hsz := nbA_size xk
      have HS := Lib.hid (hboxA.set xk)
      have HBS := Lib.hid (below_setRow ((Below.refl gm wA)) (Nat.le_refl gm) (nbA xk))
      have HIA := Lib.hid (HIK.out.up HB)
      clear hboxA
      go_wp2_with (refine nb_mid rfl _ rfl b (o + k * 8) rfl HIA.out ?_)
      go_roundw
      case rel => exact ⟨k + 1, k, by omega, by omega, by go_num, hlt, by rw [HXK.out]; exact HS.out, (hB.trans (HB.mono (Nat.le_of_lt HBX.out.lt))).trans HBS.out⟩
      case measure => simp [intOf]; omega
    · have d2 : decide (z < 0) = false := decide_eq_false hz
      have HS := Lib.hid hboxA
      clear hboxA
      go_wp2_with fail
      go_roundw
      case rel => exact ⟨k + 1, j, by omega, by omega, by go_num, hj, by rw [HYJ.out]; exact HS.out, hB.trans (HB.mono (Nat.le_of_lt HBX.out.lt))⟩
      case measure => simp [intOf]; omega
  · obtain rfl : n = k := by omega
    obtain ⟨yj, hyj⟩ : ∃ x, l.getD j nb0 = x := ⟨_, rfl⟩
    rw [hyj] at hbox
    have HYJ := Lib.hid hyj
    have HBX := Lib.hid hbox
    have hr4 : NbAt wr w.heap.size nb0 := by
      have h1 := HQ.out.up x1V.out
      exact (hB.block _ (by have := ZV.out; have := XV.out; omega)).trans h1
    have hst := nb_cells (y := yj) hr4
    have hsz := nbA_size yj
    have HS := Lib.hid (hr4.set yj)
    clear hyj hbox hr4
    go_wp2_with (refine nb_load rfl _ rfl rfl HBX.out ?_)
    exact bodyPost_ret (v := .agg (nbA yj)) (dres_cell1 Try.results138 _ _ _ _ _ _ _ rfl HS.out Try.underlying109 rfl (nb_info yj)) rfl ⟨j, hj, by rw [HYJ.out], below_setRow (BX.trans (hB.mono (by have := ZV.out; have := XV.out; omega))) (Nat.le_refl _) _⟩
/-- A place. -/
def RetAt (w : World) (n : Nat) (e : Ending) (w' : World) : Prop := ∃ j : Nat, j < n ∧ e = .returned (.int .i64 (j : Int)) ∧ Below w.heap.size w w'
theorem idxEq_any (A : Option Addr) (n c : Nat) (l : List Nb) (w : World) (hr : RdNb w A n c l) (j : Nat) (hj : j < n) :
    Calls Try.prog 142 #[.slice A n c, .agg (nbA (l.getD j nb0))] w (RetAt w n) := by
  have hn63 := hr.n63
  obtain ⟨y, hy⟩ : ∃ y, l.getD j nb0 = y := ⟨_, rfl⟩
  rw [hy]
  have hoky : y.ok := by obtain ⟨b, o, _, _, h, _⟩ := hr.nb j hj; rw [← hy]; exact h
  obtain ⟨V, hV⟩ : ∃ V, V = w.alloc (.cells (nbA y) 109) := ⟨_, rfl⟩
  have bV : Below w.heap.size w V := by rw [hV]; exact (below_self w).alloc (Nat.le_refl _) _
  have qV : NbAt V w.heap.size y := by rw [hV]; exact drw_at _ rfl
  have HV := Lib.hid hV
  have HQ := Lib.hid qV
  have HY := Lib.hid hy
  have HR := Lib.hid hr
  clear hV qV hy hr
  go_enter Try.func142, Try.ntmps142
  go_wp2_with (rw [← HV.out])
  go_loopw [8] (fun i wr => ∃ k : Nat, k ≤ j ∧ i = .int .i64 (k : Int) ∧ Below V.heap.size V wr) (fun i _ => n - (intOf i).toNat)
  case atStart => exact ⟨0, Nat.zero_le _, rfl, Below.refl _ _⟩
  case round =>
  obtain ⟨k, hk, rfl, hB⟩ := hrel
  obtain ⟨b, o, rfl, hb, hok, hin⟩ := (HR.out.below (below_then bV hB)).nb k (by omega)
  have HB1 := Lib.hid (HQ.out.up hB)
  obtain ⟨x, hx⟩ : ∃ x, l.getD k nb0 = x := ⟨_, rfl⟩
  rw [hx] at hok hin
  have HIN := Lib.hid hin
  have lk : (k : Int) < (n : Int) := by omega
  obtain ⟨r, hr1, hr2⟩ := run_eql_nb y x hoky hok
  have hkj : k = j → r = true := fun e => hr1 (by rw [← HY.out, ← hx, e])
  have HKJ := Lib.hid hkj
  have HE := Lib.hid hr2
  clear hx hin hr1 hr2 hkj
  go_wp2_with fail
  refine wp_region_seg (S := fun w' => Below wr.heap.size wr w') 0 #[true, true, true, true, true, true] [(0, true), (1, true), (2, true), (3, true), (4, true), (5, true)] (by kernel_rfl) (by kernel_rfl) (fun _ _ d _ _ h => by first | (cases d <;> exact h) | cases h.1) ((Below.refl wr.heap.size wr).drew) ?_
  have HB := (Below.refl wr.heap.size wr).drew
  refine seg_take (v := .agg (nbA y)) rfl (Or.inl ⟨by rfl, fun w' hw' => ?_⟩) ?_
  focus (exact nbx_load rfl rfl (nb_run HB1.out hw'))
  try simp only [Act.put, List.setIfInBounds_toArray, List.set_cons_zero, List.set_cons_succ]
  iterate 3 (refine seg_take (v := ?_) rfl (Or.inl ⟨by rfl, ?_⟩) ?_; rotate_left; (focus (intro w' hw'; go_simp <;> with_reducible rfl)); try simp only [Act.put, List.setIfInBounds_toArray, List.set_cons_zero, List.set_cons_succ])
  refine seg_take (v := .agg (nbA x)) rfl (Or.inl ⟨by rfl, fun w' hw' => ?_⟩) ?_
  focus (exact nbx_load rfl rfl (nb_runm HIN.out hw'))
  try simp only [Act.put, List.setIfInBounds_toArray, List.set_cons_zero, List.set_cons_succ]
  refine seg_take (v := .bool r) rfl (Or.inl ⟨by rfl, fun w' hw' => ?_⟩) ?_
  focus (exact ex_eqlP rfl rfl rfl (by kernel_rfl) (HE.out w'))
  try simp only [Act.put, List.setIfInBounds_toArray, List.set_cons_zero, List.set_cons_succ]
  refine seg_done (fun _ => ?_)
  refine wpAnyH_done (by kernel_rfl) ?_ _
  cases r with
  | true =>
    go_wp2_with fail
    go_ret
    exact ⟨k, by omega, rfl, below_then bV (below_then hB HB)⟩
  | false =>
    have hne : k ≠ j := fun e => by have := HKJ.out e; cases this
    go_wp2_with fail
    go_roundw
    case rel => exact ⟨k + 1, by omega, by go_num, below_then hB HB⟩
    case measure => simp [intOf]; omega
theorem arpOldest_any (A : Option Addr) (n c : Nat) (l : List Nb) (w : World) (hr : RdNb w A n c l) (hn : 1 ≤ n) :
    Calls Try.prog 113 #[.slice A n c] w (RetAt w n) := by
  have H1 := Lib.hid (minNb_any A n c l w hr hn)
  have HR := Lib.hid hr
  clear hr
  go_enter Try.func113, Try.ntmps113
  go_wp2_with fail
  refine H1.out.mono ?_
  rintro e w1 ⟨j, hj, rfl, hb1⟩
  obtain ⟨y, hy⟩ : ∃ y, l.getD j nb0 = y := ⟨_, rfl⟩
  rw [hy]
  have HY := Lib.hid hy
  clear hy
  go_wp2_with (first | (refine nb_load rfl _ rfl rfl q.out ?_) | (refine nb_fresh rfl _ _ rfl rfl rfl w1 rfl rfl ?_; intro X q x1))
  have BX := below_then hb1 x1
  have H2 := Lib.hid (idxEq_any A n c l X (HR.out.below BX) j hj)
  rw [HY.out] at H2
  refine H2.out.mono ?_
  rintro e w2 ⟨k, hk, rfl, hb2⟩
  go_wp2_with fail
  go_ret
  exact ⟨k, hk, rfl, below_then BX hb2⟩
end Go.Proofs.Ytnfepikgbdeomaa
