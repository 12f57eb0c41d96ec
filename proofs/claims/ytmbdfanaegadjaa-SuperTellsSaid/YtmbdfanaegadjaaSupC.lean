/-
  Layer 13: Get of the package.
-/
import Derived.Test.YtmbdfanaegadjaaSupB
namespace Go.Proofs.Ytmbdfanaegadjaa
set_option maxRecDepth 20000
open Go.RowKit
set_option linter.unusedVariables false
set_option linter.unusedSimpArgs false
set_option maxHeartbeats 8000000

def RetSu (w : World) (x : Su) (er : Int) (e : Ending) (w' : World) : Prop := e = .returned (.tuple #[.agg x.v, .int .i64 er]) ∧ Below w.heap.size w w'
theorem beq_any (A1 A2 : Option Addr) (n c m d : Nat) (xs ys : List UInt8) (w : World) (h1 : RdB w A1 n c xs) (h2 : RdB w A2 m d ys) :
    Calls Try.prog 50 #[.slice A1 n c, .slice A2 m d] w fun e w' => e = .returned (.bool (decide (xs = ys))) ∧ w = w' := by
  have k1 := h1.str
  have k2 := h2.str
  have k3 := strOf_eq xs ys
  go_enter Try.func50, Try.ntmps50
  go_wp2
  go_ret
  exact ⟨rfl, rfl⟩
theorem suZ_v : suZ.v = #[.int .u32 0, .int .i64 0, .int .i64 0, .int .u8 0, .int .u8 0, .int .u8 0, .int .u8 0, .int .u8 0, .int .u8 0, .int .u8 0, .int .u8 0, .int .u8 0, .int .u8 0, .int .u8 0, .int .u8 0, .int .u8 0, .int .u8 0, .int .u8 0, .int .u8 0, .int .u8 0, .int .u8 0, .int .u8 0, .int .u8 0, .int .u8 0, .int .u8 0, .int .u8 0, .int .u8 0, .int .u8 0, .int .u8 0, .int .u8 0, .int .u8 0, .int .u8 0, .int .u8 0, .int .u8 0, .int .u8 0] := by rfl
theorem built_su (g : Nat) (s l : Int) (D : List UInt8) (hD : D.length = 32) : Try.prog.built 26 [(0, .int .u32 g), (2, .int .i64 l), (1, .int .i64 s), (3, .agg (D.map vB).toArray)] = some (suV g s l D) := by
  match D, hD with
  | [d0, d1, d2, d3, d4, d5, d6, d7, d8, d9, d10, d11, d12, d13, d14, d15, d16, d17, d18, d19, d20, d21, d22, d23, d24, d25, d26, d27, d28, d29, d30, d31], _ =>
    show Try.prog.built _ _ = some _
    kernel_rfl
theorem build_su (w : World) (g : Nat) (s l : Int) (D : List UInt8) (hD : D.length = 32) : (Instr.build 26 #[(0, .int .u32 g), (2, .int .i64 l), (1, .int .i64 s), (3, .agg (D.map vB).toArray)]).run Try.prog w = .ok (.agg (suV g s l D)) w :=
  run_build w _ _ _ (built_su g s l D hD)
theorem load_dig {w : World} {b o n c : Nat} {D : List UInt8} (hr : RdB w (some ⟨b, o, none⟩) n c D) (hD : D.length = 32) : (loadVar 24 ⟨b, o, none⟩).run Try.prog w = .ok (.agg (D.map vB).toArray) w := by
  have hl : (loadCells ⟨b, o, none⟩ (D.map vB).length).run Try.prog w = .ok (D.map vB).toArray w :=
    run_loadCells_list (P := Try.prog) w ⟨b, o, none⟩ (D.map vB) (fun j v hv => by
      rcases hr.1 with h | ⟨b', o', he, _, hc⟩
      · rw [h] at hv; simp at hv
      · injection he with he
        injection he with e1 e2
        subst e1 e2
        rw [Addr.add_lit]
        exact hc j v hv)
  have hq : ∃ i, Try.prog.info? 24 = some i ∧ i.size = 32 := by
    have : (Try.prog.info? 24).map (·.size) = some 32 := by kernel_rfl
    cases hq : Try.prog.info? 24 with
    | none => rw [hq] at this; cases this
    | some i => rw [hq] at this; exact ⟨i, rfl, by simpa using this⟩
  obtain ⟨i, hi, hs⟩ := hq
  have hagg : (isAgg 24).run Try.prog w = .ok true w := by
    unfold isAgg
    rw [Sem.run_bind, run_underlying Try.underlying24 w]
    rfl
  rw [List.length_map, hD] at hl
  simp [loadVar, Sem.run_bind, hagg, sizeOf, typeInfo, hi, hs, hl]
theorem arr_dig (w : World) (A : Option Addr) (c : Nat) : (Instr.arrayAt 24 (.slice A 32 c)).run Try.prog w = .ok (.pointer A) w := by
  simp [Instr.arrayAt, run_underlying Try.underlying24]
theorem ex_load {P : Program} {o : Oper} {a : Act} {w : World} {ty : TypeId} {x : Operand} {p : Addr} {v : Value} (ho : o.op = .load ty x) (hx : a.eval x = .pointer (some p)) (hl : (loadVar ty p).run P w = .ok v w) : (execOp a.eval o).run P w = .ok (.value v) w := by
  unfold execOp
  simp only [ho, hx, Instr.loadAt, Instr.sureAddr, Sem.run_bind, Sem.run_pure, Result.andThen_ok, hl]
theorem ex_build {P : Program} {o : Oper} {a : Act} {w : World} {ty : TypeId} {parts : Array (Nat × Operand)} {v : Value} (ho : o.op = .build ty parts) (vals : Array (Nat × Value)) (hv : (parts.toList.map fun p => (p.1, a.eval p.2)) = vals.toList) (hl : (Instr.build ty vals).run P w = .ok v w) : (execOp a.eval o).run P w = .ok (.value v) w := by
  have hv2 : (parts.map fun p => (p.1, a.eval p.2)) = vals := by
    rw [← Array.toList_inj, Array.toList_map]; exact hv
  subst hv2
  unfold execOp
  simp only [ho, Sem.run_bind, Sem.run_pure, Result.andThen_ok, hl]
theorem suV_one (g : Nat) (s l : Int) (D : List UInt8) : (suV g s l D).all (·.oneCell') = true := by
  simp [suV, Value.oneCell', vB]

/-- Two results: a variable that lies in a block, and a slot. -/
theorem results_row_tmp {P : Program} {fn : Func} {p q : Tmp} {ty : TypeId} (h : fn.results = #[.cell p ty, .tmp q]) (tmps : Array Value) (w : World) (g : Nat) (t : TypeId) (cs : Array Value) (fr : Nat × Nat) (d : TypeDesc)
    (hp : tmps.getD p undef = .pointer (some ⟨g, 0, none⟩)) (hg : w.heap[g]? = some (.cells cs t fr))
    (hu : P.underlying ty = some d) (hd : (match d with | .struct _ | .array _ _ => true | _ => false) = true) (hi : (P.info? ty).map (·.size) = some cs.size) :
    (results fn tmps).run P w = .ok (.tuple #[.agg cs, tmps.getD q undef]) w := by
  have hp' : tmps[p]?.getD undef = .pointer (some ⟨g, 0, none⟩) := by simpa using hp
  simp [results, h, hp', asAddr, run_loadVar_row w g t ty cs fr d hg hu hd hi]
theorem Su.info (x : Su) (hD : x.D.length = 32) : (Try.prog.info? 26).map (·.size) = some x.v.size := suInfo _ _ _ _ hD
theorem suZ_len : suZ.D.length = 32 := rfl
theorem suGet_early (A : Option Addr) (n c : Nat) (xs : List UInt8) (w : World) (hr : RdB w A n c xs) (h : n ≠ 256) :
    Calls Try.prog 25 #[.slice A n c] w (RetSu w suZ 2) := by
  have hn := hr.n63
  have d1 : ((n : Int) != 256) = true := by rw [bne_iff_ne]; omega
  go_enter Try.func25, Try.ntmps25
  have hrow : (w.alloc (.cells #[.int .u32 0, .int .i64 0, .int .i64 0, .int .u8 0, .int .u8 0, .int .u8 0, .int .u8 0, .int .u8 0, .int .u8 0, .int .u8 0, .int .u8 0, .int .u8 0, .int .u8 0, .int .u8 0, .int .u8 0, .int .u8 0, .int .u8 0, .int .u8 0, .int .u8 0, .int .u8 0, .int .u8 0, .int .u8 0, .int .u8 0, .int .u8 0, .int .u8 0, .int .u8 0, .int .u8 0, .int .u8 0, .int .u8 0, .int .u8 0, .int .u8 0, .int .u8 0, .int .u8 0, .int .u8 0, .int .u8 0] 26)).heap[w.heap.size]? = some (.cells suZ.v 26 (0, 0)) := by rw [suZ_v]; exact row1 ..
  have HR := Lib.hid hrow
  clear hrow h
  go_wp2_with (refine wpList_store_row rfl 26 _ _ rfl w.heap.size suZ.v rfl rfl 26 suZ.v HR.out (suZ.info suZ_len) rfl (suV_one ..) ?_)
  refine bodyPost_ret (results_row_tmp Try.results25 _ _ w.heap.size 26 suZ.v (0, 0) _ rfl (setRow_heap _ _ _ suZ.v _ _ HR.out) Try.underlying26 rfl (suZ.info suZ_len)) rfl ?_
  exact ⟨rfl, below_setRow ((below_self w).alloc (Nat.le_refl _) _) (Nat.le_refl _) _⟩
theorem suGet_sum (A : Option Addr) (c : Nat) (xs : List UInt8) (w : World) (hr : RdB w A 256 c xs) (h : crcHolds xs = false) :
    Calls Try.prog 25 #[.slice A 256 c] w (RetSu w suZ 6) := by
  have d1 : ((256 : Int) != 256) = false := by decide
  have H := Lib.hid h
  clear h
  go_enter Try.func25, Try.ntmps25
  go_wp2_with fail
  refine named ?_
  intro W hW
  have bW : Below w.heap.size w W := by rw [hW]; repeat' (first | exact Below.refl _ _ | (refine Below.alloc ?_ ?_ _; rotate_left; (simp <;> omega)) | refine Below.drew ?_)
  have zW := bW.size
  have HW := Lib.hid hW
  clear hW
  have xW : w.heap.size < W.heap.size := by rw [HW.out]; simp
  have hrow : W.heap[w.heap.size]? = some (.cells suZ.v 26 (0, 0)) := by rw [HW.out, suZ_v]; exact row1 ..
  have hh := holds_any A 256 c xs W (hr.below bW) (by omega)
  rw [H.out] at hh
  refine hh.mono ?_
  clear hh
  rintro e w1 ⟨rfl, hb1⟩
  have hrow1 := (hb1.block _ xW).trans hrow
  go_wp2_with (refine wpList_store_row rfl 26 _ _ rfl w.heap.size suZ.v rfl rfl 26 suZ.v hrow1 (suZ.info suZ_len) rfl (suV_one ..) ?_)
  refine bodyPost_ret (results_row_tmp Try.results25 _ _ w.heap.size 26 suZ.v (0, 0) _ rfl (setRow_heap _ _ _ suZ.v _ _ hrow1) Try.underlying26 rfl (suZ.info suZ_len)) rfl ?_
  exact ⟨rfl, below_setRow (below_then bW hb1) (Nat.le_refl _) _⟩

theorem fromLe_part (xs : List UInt8) (k : Nat) : fromLe ((xs.drop k).take 4) = lev ((xs.drop k).take 4) := by
  unfold fromLe; rw [List.take_take]; rfl
theorem Su.row (x : Su) : x.v = suV x.g x.s x.l x.D := rfl
theorem suGet_main (A : Option Addr) (c : Nat) (xs : List UInt8) (w : World) (hr : RdB w A 256 c xs) (h : crcHolds xs = true) :
    Calls Try.prog 25 #[.slice A 256 c] w (RetSu w (suGet xs) (suGetE xs)) := by
  have d1 : ((256 : Int) != 256) = false := by decide
  have hlen := hr.2.1
  have hc := hr.2.2.1
  have hc63 := hr.c63
  obtain ⟨b, o, u, rfl, hbl, _⟩ := hr.at_ 0 (by omega)
  have hcut : ∀ k j, k + j ≤ 256 → k < 256 → RdB w (some ⟨b, o + k, none⟩) j (c - k) ((xs.drop k).take j) := fun k j hkj hk => (hr.cutS k (256 - k) (by omega) (by omega)).take j (by omega)
  have r4 := hcut 4 4 (by omega) (by omega)
  have r8 := hcut 8 4 (by omega) (by omega)
  have r13 := hcut 13 32 (by omega) (by omega)
  have c12 := hr.cellS 12 (by omega)
  obtain ⟨b1, ⟨b2, b3⟩, ⟨b4, b5⟩, b6⟩ := suOf_bounds xs hlen
  obtain ⟨G, hG⟩ : ∃ G, lev ((xs.drop 4).take 4) = G := ⟨_, rfl⟩
  obtain ⟨L, hL⟩ : ∃ G, lev ((xs.drop 8).take 4) = G := ⟨_, rfl⟩
  obtain ⟨S, hS⟩ : ∃ G, (xs.getD 12 0).toNat = G := ⟨_, rfl⟩
  obtain ⟨D, hD⟩ : ∃ G, (xs.drop 13).take 32 = G := ⟨_, rfl⟩
  have hX : suOf xs = ⟨G, S, L, D⟩ := by unfold suOf; rw [hG, hL, hS, hD]
  rw [hX] at b1 b2 b3 b4 b5 b6
  simp only at b1 b2 b3 b4 b5 b6
  have hE : suGetE xs = if suCheck S L = true ∧ suPutL G S L D = xs then 0 else 3 := by
    unfold suGetE; rw [if_neg (by simp [hlen]), if_neg (by simp [h]), hX]
  have hGt : suGet xs = if suGetE xs = 0 then ⟨G, S, L, D⟩ else suZ := by unfold suGet; rw [hX]
  have f4 := fromLe_part xs 4
  have f8 := fromLe_part xs 8
  rw [hG] at f4
  rw [hL] at f8
  rw [hD] at r13
  rw [hS] at c12
  have F4 := Lib.hid f4
  have F8 := Lib.hid f8
  have wG : IntKind.u32.wrap (G : Int) = G := by rw [IntKind.wrap_u32]; omega
  have wL := wi64n (k := L) (by omega)
  have cb4 : ¬ (c = 4) := by omega
  have cb8 : ¬ (c = 8) := by omega
  have cb13 : ¬ (c = 13) := by omega
  have ci8 : (8 : Int) ≤ (c : Int) := by omega
  have ci12 : (12 : Int) ≤ (c : Int) := by omega
  have ci45 : (45 : Int) ≤ (c : Int) := by omega
  have H := Lib.hid h
  have HE := Lib.hid hE
  have HGt := Lib.hid hGt
  have HD := Lib.hid b6
  have HS9 := Lib.hid hlen
  have hSz : (S : Int) < 256 := by omega
  clear h hE hGt f4 f8 hX hG hL hS hD b6 hlen hcut
  have wS := wi64n (k := S) (by omega)
  have ka := arr_dig
  go_enter Try.func25, Try.ntmps25
  go_wp2_with fail
  refine named ?_
  intro W0 hW0
  have bW0 : Below w.heap.size w W0 := by rw [hW0]; repeat' (first | exact Below.refl _ _ | (refine Below.alloc ?_ ?_ _; rotate_left; (simp <;> omega)) | refine Below.drew ?_)
  have zW0 := bW0.size
  have HW0 := Lib.hid hW0
  clear hW0
  have xW : w.heap.size < W0.heap.size := by rw [HW0.out]; simp
  have hrow0 : W0.heap[w.heap.size]? = some (.cells suZ.v 26 (0, 0)) := by rw [HW0.out, suZ_v]; exact row1 ..
  have hh := holds_any _ 256 c xs W0 (hr.below bW0) (by omega)
  rw [H.out] at hh
  refine hh.mono ?_
  clear hh
  rintro e W ⟨rfl, hb1⟩
  have bW := below_then bW0 hb1
  have hrow := (hb1.block _ xW).trans hrow0
  have xW1 : w.heap.size < W.heap.size := Nat.lt_of_lt_of_le xW hb1.size
  have HROW := Lib.hid hrow
  clear hrow hrow0
  have j12 := (bW.cell (p := ⟨b, o + 12, none⟩) hbl).trans c12
  have q4 := r4.below bW
  have q8 := r8.below bW
  have q13 := r13.below bW
  have hbW : b < W.heap.size := by omega
  clear r4 r8 r13 c12
  go_wp2_with fail
  refine wp_region_seg (S := fun w' => Below W.heap.size W w') 0 #[true, true, true, true, true, true, true, true, true, true, true, true, true, true, true, true, true, true, true] [(0, true), (1, true), (2, true), (3, true), (4, true), (5, true), (6, true), (7, true), (8, true), (9, true), (10, true), (11, true), (12, true), (13, true), (14, true), (15, true), (16, true), (17, false), (18, false)] (by kernel_rfl) (by kernel_rfl) (fun _ _ d _ _ h => by cases d <;> exact h) ((Below.refl W.heap.size W).drew) ?_
  have HB := (Below.refl W.heap.size W).drew
  iterate 2 (refine seg_take (v := ?_) rfl (Or.inl ⟨by rfl, ?_⟩) ?_; rotate_left; (focus (intro w' hw'; have jj := (hw'.cell (p := ⟨b, o + 12, none⟩) hbW).trans j12; go_simp <;> with_reducible rfl)); try simp only [Act.put, List.setIfInBounds_toArray, List.set_cons_zero, List.set_cons_succ])
  refine seg_pure (v := .int .u64 (G : Int)) (f := ?_) (args := ?_) rfl (by rfl) (fun w' hw' => ?_) (fun w' hw' => ?_) ?_
  rotate_left 2
  focus (have jj := (hw'.cell (p := ⟨b, o + 12, none⟩) hbW).trans j12; go_simp <;> first | (refine ⟨?_, ?_⟩ <;> with_reducible rfl) | with_reducible rfl)
  focus (exact (F4.out ▸ fromLe_any _ _ _ _ w' (q4.below hw')))
  try simp only [Act.put, List.setIfInBounds_toArray, List.set_cons_zero, List.set_cons_succ]
  iterate 3 (refine seg_take (v := ?_) rfl (Or.inl ⟨by rfl, ?_⟩) ?_; rotate_left; (focus (intro w' hw'; have jj := (hw'.cell (p := ⟨b, o + 12, none⟩) hbW).trans j12; go_simp <;> with_reducible rfl)); try simp only [Act.put, List.setIfInBounds_toArray, List.set_cons_zero, List.set_cons_succ])
  refine seg_pure (v := .int .u64 (L : Int)) (f := ?_) (args := ?_) rfl (by rfl) (fun w' hw' => ?_) (fun w' hw' => ?_) ?_
  rotate_left 2
  focus (have jj := (hw'.cell (p := ⟨b, o + 12, none⟩) hbW).trans j12; go_simp <;> first | (refine ⟨?_, ?_⟩ <;> with_reducible rfl) | with_reducible rfl)
  focus (exact (F8.out ▸ fromLe_any _ _ _ _ w' (q8.below hw')))
  try simp only [Act.put, List.setIfInBounds_toArray, List.set_cons_zero, List.set_cons_succ]
  iterate 8 (refine seg_take (v := ?_) rfl (Or.inl ⟨by rfl, ?_⟩) ?_; rotate_left; (focus (intro w' hw'; have jj := (hw'.cell (p := ⟨b, o + 12, none⟩) hbW).trans j12; go_simp <;> with_reducible rfl)); try simp only [Act.put, List.setIfInBounds_toArray, List.set_cons_zero, List.set_cons_succ])
  refine seg_take (v := .agg (D.map vB).toArray) rfl (Or.inl ⟨by rfl, fun w' hw' => ?_⟩) ?_
  focus (exact ex_load rfl rfl (load_dig (q13.below hw') HD.out))
  try simp only [Act.put, List.setIfInBounds_toArray, List.set_cons_zero, List.set_cons_succ]
  refine seg_take (v := .agg (suV G S L D)) rfl (Or.inl ⟨by rfl, fun w' hw' => ?_⟩) ?_
  focus (exact ex_build rfl #[(0, .int .u32 (G : Int)), (2, .int .i64 (L : Int)), (1, .int .i64 (S : Int)), (3, .agg (D.map vB).toArray)] rfl (build_su w' G S L D HD.out))
  try simp only [Act.put, List.setIfInBounds_toArray, List.set_cons_zero, List.set_cons_succ]
  refine seg_run rfl (fun K hK => ?_)
  rw [if_pos (by rfl)]
  refine op_new #[.int .u32 0, .int .i64 0, .int .i64 0, .int .u8 0, .int .u8 0, .int .u8 0, .int .u8 0, .int .u8 0, .int .u8 0, .int .u8 0, .int .u8 0, .int .u8 0, .int .u8 0, .int .u8 0, .int .u8 0, .int .u8 0, .int .u8 0, .int .u8 0, .int .u8 0, .int .u8 0, .int .u8 0, .int .u8 0, .int .u8 0, .int .u8 0, .int .u8 0, .int .u8 0, .int .u8 0, .int .u8 0, .int .u8 0, .int .u8 0, .int .u8 0, .int .u8 0, .int .u8 0, .int .u8 0, .int .u8 0] 26 (fun w => by go_simp) ?_
  intro gL wL eL hL HBl hLsz
  have HB0 := HB.size
  have HB := below_then HB HBl
  refine hK.out _ _ (HB) ?_
  clear hK
  try simp only [Act.put, List.setIfInBounds_toArray, List.set_cons_zero, List.set_cons_succ]
  refine seg_run rfl (fun K hK => ?_)
  rw [if_pos (by rfl)]
  have hLW : W.heap.size ≤ gL := by omega
  refine wp_store_row _ _ _ rfl gL (suV G S L D) rfl rfl _ _ hL (suInfo _ _ _ _ HD.out) (by rw [suVn, HD.out]; rfl) (suV_one ..) ?_
  have HB := below_setRow HB hLW (suV G S L D)
  refine hK.out _ _ (HB) ?_
  clear hK
  try simp only [Act.put, List.setIfInBounds_toArray, List.set_cons_zero, List.set_cons_succ]
  refine seg_done (fun _ => ?_)
  refine wpAnyH_done (by kernel_rfl) ?_ _
  have hrowL := setRow_heap _ gL _ (suV G S L D) _ _ hL
  have xL : gL < (wL.setRow gL (suV G S L D)).heap.size := by simp; omega
  obtain ⟨V, hV⟩ : ∃ V, V = wL.setRow gL (suV G S L D) := ⟨_, rfl⟩
  rw [← hV] at hrowL xL HB ⊢
  clear hV hL HBl hLsz HB0
  have bV := below_then bW HB
  have zV := HB.size
  have hrowR := (HB.block _ xW1).trans HROW.out
  have hge := HE.out
  have hgt := HGt.out
  have HRL := Lib.hid hrowL
  have HRR := Lib.hid hrowR
  clear hrowL hrowR q4 q8 q13 j12
  cases hsc : suCheck S L with
  | false =>
    rw [if_neg (by simp [hsc])] at hge
    rw [if_neg (by rw [hge]; decide)] at hgt
    have HGE2 := Lib.hid hge
    have HGT2 := Lib.hid hgt
    have hh := suPut_any G S L D V b1 (by omega) HD.out
    unfold suPutE suPutL at hh
    rw [if_neg (by simp [hsc]), if_neg (by simp [hsc])] at hh
    have HH := Lib.hid hh
    clear hge hgt hsc hh
    go_wp2_with (refine wpList_load_row rfl 26 _ rfl gL rfl 26 (suV G S L D) (0, 0) _ HRL.out Try.underlying26 rfl (suInfo G S L D HD.out) ?_)
    refine HH.out.mono ?_
    rintro e w5 ⟨A5, n5, c5, rfl, ho5, hb5⟩
    have hrow5 := (hb5.block _ (by omega)).trans HRR.out
    go_wp2_with (refine wpList_store_row rfl 26 _ _ rfl w.heap.size suZ.v rfl rfl 26 suZ.v hrow5 (suZ.info suZ_len) rfl (suV_one ..) ?_)
    refine bodyPost_ret (results_row_tmp Try.results25 _ _ w.heap.size 26 suZ.v (0, 0) _ rfl (setRow_heap _ _ _ suZ.v _ _ hrow5) Try.underlying26 rfl (suZ.info suZ_len)) rfl ?_
    exact ⟨by rw [HGT2.out, HGE2.out]; rfl, below_setRow (below_then bV hb5) (Nat.le_refl _) _⟩
  | true =>
    have hh := suPut_any G S L D V b1 (by omega) HD.out
    unfold suPutE at hh
    rw [if_pos hsc] at hh
    obtain ⟨P, hP⟩ : ∃ P, suPutL G S L D = P := ⟨suPutL G S L D, rfl⟩
    rw [hP] at hh hge
    have HH := Lib.hid hh
    have HP := Lib.hid hP
    by_cases heq : P = xs
    · rw [if_pos ⟨hsc, heq⟩] at hge
      rw [if_pos hge] at hgt
      have HGE2 := Lib.hid hge
      have HGT2 := Lib.hid hgt
      have HQ := Lib.hid heq
      clear hge hgt hsc hh hP heq
      go_wp2_with (refine wpList_load_row rfl 26 _ rfl gL rfl 26 (suV G S L D) (0, 0) _ HRL.out Try.underlying26 rfl (suInfo G S L D HD.out) ?_)
      refine HH.out.mono ?_
      rintro e w5 ⟨A5, n5, c5, rfl, ho5, hb5⟩
      have hrow5 := (hb5.block _ (by omega)).trans HRR.out
      have hrowL5 := (hb5.block _ xL).trans HRL.out
      have B5 := below_then bV hb5
      have HR5 := Lib.hid hrow5
      have HL5 := Lib.hid hrowL5
      clear hrow5 hrowL5
      go_wp2_with fail
      have hh := beq_any _ _ _ _ _ _ P xs w5 ho5.rd (hr.below B5)
      rw [decide_eq_true HQ.out] at hh
      refine hh.mono ?_
      clear hh
      rintro e w6 ⟨rfl, rfl⟩
      go_wp2_with (first
        | (refine wpList_load_row rfl 26 _ rfl gL rfl 26 (suV G S L D) (0, 0) _ HL5.out Try.underlying26 rfl (suInfo G S L D HD.out) ?_)
        | (refine wpList_store_row rfl 26 _ _ rfl w.heap.size (suV G S L D) rfl rfl 26 suZ.v HR5.out (suInfo G S L D HD.out) (by rw [suVn, HD.out]; rfl) (suV_one ..) ?_))
      refine bodyPost_ret (results_row_tmp Try.results25 _ _ w.heap.size 26 (suV G S L D) (0, 0) _ rfl (setRow_heap _ _ _ (suV G S L D) _ _ HR5.out) Try.underlying26 rfl (suInfo G S L D HD.out)) rfl ?_
      exact ⟨by rw [HGT2.out, HGE2.out]; rfl, below_setRow B5 (Nat.le_refl _) _⟩
    · rw [if_neg (fun h => heq h.2)] at hge
      rw [if_neg (by rw [hge]; decide)] at hgt
      have HGE2 := Lib.hid hge
      have HGT2 := Lib.hid hgt
      have HQ := Lib.hid heq
      clear hge hgt hsc hh hP heq
      go_wp2_with (refine wpList_load_row rfl 26 _ rfl gL rfl 26 (suV G S L D) (0, 0) _ HRL.out Try.underlying26 rfl (suInfo G S L D HD.out) ?_)
      refine HH.out.mono ?_
      rintro e w5 ⟨A5, n5, c5, rfl, ho5, hb5⟩
      have hrow5 := (hb5.block _ (by omega)).trans HRR.out
      have B5 := below_then bV hb5
      have HR5 := Lib.hid hrow5
      clear hrow5
      go_wp2_with fail
      have hh := beq_any _ _ _ _ _ _ P xs w5 ho5.rd (hr.below B5)
      rw [decide_eq_false HQ.out] at hh
      refine hh.mono ?_
      clear hh
      rintro e w6 ⟨rfl, rfl⟩
      go_wp2_with (refine wpList_store_row rfl 26 _ _ rfl w.heap.size suZ.v rfl rfl 26 suZ.v HR5.out (suZ.info suZ_len) rfl (suV_one ..) ?_)
      refine bodyPost_ret (results_row_tmp Try.results25 _ _ w.heap.size 26 suZ.v (0, 0) _ rfl (setRow_heap _ _ _ suZ.v _ _ HR5.out) Try.underlying26 rfl (suZ.info suZ_len)) rfl ?_
      exact ⟨by rw [HGT2.out, HGE2.out]; rfl, below_setRow B5 (Nat.le_refl _) _⟩

theorem suGet_any (A : Option Addr) (n c : Nat) (xs : List UInt8) (w : World) (hr : RdB w A n c xs) :
    Calls Try.prog 25 #[.slice A n c] w (RetSu w (suGet xs) (suGetE xs)) := by
  by_cases h : n = 256
  · subst h
    cases hh : crcHolds xs with
    | true => exact suGet_main A c xs w hr hh
    | false =>
      have e : suGetE xs = 6 := by unfold suGetE; rw [if_neg (by simp [hr.2.1]), if_pos hh]
      have e2 : suGet xs = suZ := by unfold suGet; rw [if_neg (by rw [e]; decide)]
      rw [e, e2]
      exact suGet_sum A c xs w hr hh
  · have e : suGetE xs = 2 := by unfold suGetE; rw [if_pos (by rw [hr.2.1]; exact h)]
    have e2 : suGet xs = suZ := by unfold suGet; rw [if_neg (by rw [e]; decide)]
    rw [e, e2]
    exact suGet_early A n c xs w hr h
end Go.Proofs.Ytmbdfanaegadjaa
