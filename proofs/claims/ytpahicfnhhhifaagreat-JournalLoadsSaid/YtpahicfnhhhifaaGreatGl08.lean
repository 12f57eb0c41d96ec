/-
 Proved here, for the statement JournalLoads:
 Layer 13: Get of the package.
 Layer 14: journals in memory.
-/
import Derived.Deep.MidRow
import Derived.Test.YtpahicfnhhhifaaGreatGl07
set_option linter.unusedVariables false
set_option linter.unusedSimpArgs false
namespace Go.Proofs.YtpahicfnhhhifaaGreat
set_option maxRecDepth 20000
open Go.RowKit
set_option maxHeartbeats 8000000
def RetSu (w : World) (x : Su) (er : Int) (e : Ending) (w' : World) : Prop := e = .returned (.tuple #[.agg x.v, .int .i64 er]) ∧ Below w.heap.size w w'
theorem beq_any (A1 A2 : Option Addr) (n c m d : Nat) (xs ys : List UInt8) (w : World) (h1 : RdB w A1 n c xs) (h2 : RdB w A2 m d ys) :
  Calls Tryz.prog 147 #[.slice A1 n c, .slice A2 m d] w fun e w' => e = .returned (.bool (decide (xs = ys))) ∧ w = w' := by
 have k1 := h1.str
 have k2 := h2.str
 have k3 := strOf_eq xs ys
 go_enter Tryz.func147, Tryz.ntmps147
 go_wp2
 go_ret
 exact ⟨rfl, rfl⟩
theorem suZ_v : suZ.v = #[.int .u32 0, .int .i64 0, .int .i64 0, .int .u8 0, .int .u8 0, .int .u8 0, .int .u8 0, .int .u8 0, .int .u8 0, .int .u8 0, .int .u8 0, .int .u8 0, .int .u8 0, .int .u8 0, .int .u8 0, .int .u8 0, .int .u8 0, .int .u8 0, .int .u8 0, .int .u8 0, .int .u8 0, .int .u8 0, .int .u8 0, .int .u8 0, .int .u8 0, .int .u8 0, .int .u8 0, .int .u8 0, .int .u8 0, .int .u8 0, .int .u8 0, .int .u8 0, .int .u8 0, .int .u8 0, .int .u8 0] := by rfl
theorem built_su (g : Nat) (s l : Int) (D : List UInt8) (hD : D.length = 32) : Tryz.prog.built 33 [(0, .int .u32 g), (2, .int .i64 l), (1, .int .i64 s), (3, .agg (D.map vB).toArray)] = some (suV g s l D) := by
 match D, hD with
 | [d0, d1, d2, d3, d4, d5, d6, d7, d8, d9, d10, d11, d12, d13, d14, d15, d16, d17, d18, d19, d20, d21, d22, d23, d24, d25, d26, d27, d28, d29, d30, d31], _ =>
  show Tryz.prog.built _ _ = some _
  kernel_rfl
theorem build_su (w : World) (g : Nat) (s l : Int) (D : List UInt8) (hD : D.length = 32) : (Instr.build 33 #[(0, .int .u32 g), (2, .int .i64 l), (1, .int .i64 s), (3, .agg (D.map vB).toArray)]).run Tryz.prog w = .ok (.agg (suV g s l D)) w :=
 run_build w _ _ _ (built_su g s l D hD)
theorem load_dig {w : World} {b o n c : Nat} {D : List UInt8} (hr : RdB w (some ⟨b, o, none⟩) n c D) (hD : D.length = 32) : (loadVar 30 ⟨b, o, none⟩).run Tryz.prog w = .ok (.agg (D.map vB).toArray) w := by
 have hl : (loadCells ⟨b, o, none⟩ (D.map vB).length).run Tryz.prog w = .ok (D.map vB).toArray w :=
  run_loadCells_list (P := Tryz.prog) w ⟨b, o, none⟩ (D.map vB) (fun j v hv => by
   rcases hr.1 with h | ⟨b', o', he, _, hc⟩
   ·rw [h] at hv; simp at hv
   ·injection he with he
    injection he with e1 e2
    subst e1 e2
    rw [Addr.add_lit]
    exact hc j v hv)
 have hq : ∃ i, Tryz.prog.info? 30 = some i ∧ i.size = 32 := by
  have : (Tryz.prog.info? 30).map (·.size) = some 32 := by kernel_rfl
  cases hq : Tryz.prog.info? 30 with
  | none => rw [hq] at this; cases this
  | some i => rw [hq] at this; exact ⟨i, rfl, by simpa using this⟩
 obtain ⟨i, hi, hs⟩ := hq
 have hagg : (isAgg 30).run Tryz.prog w = .ok true w := by
  unfold isAgg
  rw [Sem.run_bind, run_underlying Tryz.underlying30 w]
  rfl
 rw [List.length_map, hD] at hl
 simp [loadVar, Sem.run_bind, hagg, sizeOf, typeInfo, hi, hs, hl]
theorem arr_dig (w : World) (A : Option Addr) (c : Nat) : (Instr.arrayAt 30 (.slice A 32 c)).run Tryz.prog w = .ok (.pointer A) w := by
 simp [Instr.arrayAt, run_underlying Tryz.underlying30]
theorem ex_load {P : Program} {o : Oper} {a : Act} {w : World} {ty : TypeId} {x : Operand} {p : Addr} {v : Value} (ho : o.op = .load ty x) (hx : a.eval x = .pointer (some p)) (hl : (loadVar ty p).run P w = .ok v w) : (execOp a.eval o).run P w = .ok (.value v) w := by
 unfold execOp
 simp only [ho, hx, Instr.loadAt, Instr.sureAddr, Sem.run_bind, Sem.run_pure, Result.andThen_ok, hl]
theorem ex_build {P : Program} {o : Oper} {a : Act} {w : World} {ty : TypeId} {parts : Array (Nat × Operand)} {v : Value} (ho : o.op = .build ty parts) (vals : Array (Nat × Value)) (hv : (parts.toList.map fun p => (p.1, a.eval p.2)) = vals.toList) (hl : (Instr.build ty vals).run P w = .ok v w) : (execOp a.eval o).run P w = .ok (.value v) w := by
 have hv2 : (parts.map fun p => (p.1, a.eval p.2)) = vals := by
  rw [← Array.toList_inj, Array.toList_map]; exact hv
 subst hv2
 unfold execOp
 simp only [ho, Sem.run_bind, Sem.run_pure, Result.andThen_ok, hl]
theorem suV_one (g : Nat) (s l : Int) (D : List UInt8) : (suV g s l D).all (·.oneCell') = true := by
 simp [suV, Value.oneCell', vB]
theorem results_row_tmp {P : Program} {fn : Func} {p q : Tmp} {ty : TypeId} (h : fn.results = #[.cell p ty, .tmp q]) (tmps : Array Value) (w : World) (g : Nat) (t : TypeId) (cs : Array Value) (fr : Nat × Nat) (d : TypeDesc)
  (hp : tmps.getD p undef = .pointer (some ⟨g, 0, none⟩)) (hg : w.heap[g]? = some (.cells cs t fr))
  (hu : P.underlying ty = some d) (hd : (match d with | .struct _ | .array _ _ => true | _ => false) = true) (hi : (P.info? ty).map (·.size) = some cs.size) :
  (results fn tmps).run P w = .ok (.tuple #[.agg cs, tmps.getD q undef]) w := by
 have hp' : tmps[p]?.getD undef = .pointer (some ⟨g, 0, none⟩) := by simpa using hp
 simp [results, h, hp', asAddr, run_loadVar_row w g t ty cs fr d hg hu hd hi]
theorem Su.info (x : Su) (hD : x.D.length = 32) : (Tryz.prog.info? 33).map (·.size) = some x.v.size := suInfo _ _ _ _ hD
theorem suZ_len : suZ.D.length = 32 := rfl
theorem suGet_early (A : Option Addr) (n c : Nat) (xs : List UInt8) (w : World) (hr : RdB w A n c xs) (h : n ≠ 256) :
  Calls Tryz.prog 115 #[.slice A n c] w (RetSu w suZ 2) := by
 have hn := hr.n63
 have d1 : ((n : Int) != 256) = true := by rw [bne_iff_ne]; omega
 go_enter Tryz.func115, Tryz.ntmps115
 have hrow : (w.alloc (.cells zz1 33)).heap[w.heap.size]? = some (.cells suZ.v 33 (0, 0)) := by rw [suZ_v]; exact row1 ..
 have HR := Lib.hid hrow
 clear hrow h
 go_wp2_with (refine wpList_store_row rfl 33 _ _ rfl w.heap.size suZ.v rfl rfl 33 suZ.v HR.out (suZ.info suZ_len) rfl (suV_one ..) ?_)
 refine bodyPost_ret (results_row_tmp Tryz.results115 _ _ w.heap.size 33 suZ.v (0, 0) _ rfl (setRow_heap _ _ _ suZ.v _ _ HR.out) Tryz.underlying33 rfl (suZ.info suZ_len)) rfl ?_
 exact ⟨rfl, below_setRow ((below_self w).alloc (Nat.le_refl _) _) (Nat.le_refl _) _⟩
theorem suGet_sum (A : Option Addr) (c : Nat) (xs : List UInt8) (w : World) (hr : RdB w A 256 c xs) (h : crcHolds xs = false) :
  Calls Tryz.prog 115 #[.slice A 256 c] w (RetSu w suZ 6) := by
 have d1 : ((256 : Int) != 256) = false := by decide
 have H := Lib.hid h
 clear h
 go_enter Tryz.func115, Tryz.ntmps115
 go_wp2_with fail
 refine named ?_
 intro W hW
 have bW : Below w.heap.size w W := by rw [hW]; repeat' (first | exact Below.refl _ _ | (refine Below.alloc ?_ ?_ _; rotate_left; (simp <;> omega)) | refine Below.drew ?_)
 have zW := bW.size
 have HW := Lib.hid hW
 clear hW
 have xW : w.heap.size < W.heap.size := by rw [HW.out]; simp
 have hrow : W.heap[w.heap.size]? = some (.cells suZ.v 33 (0, 0)) := by rw [HW.out, suZ_v]; exact row1 ..
 have hh := holds_any A 256 c xs W (hr.below bW) (by omega)
 rw [H.out] at hh
 refine hh.mono ?_
 clear hh
 rintro e w1 ⟨rfl, hb1⟩
 have hrow1 := (hb1.block _ xW).trans hrow
 go_wp2_with (refine wpList_store_row rfl 33 _ _ rfl w.heap.size suZ.v rfl rfl 33 suZ.v hrow1 (suZ.info suZ_len) rfl (suV_one ..) ?_)
 refine bodyPost_ret (results_row_tmp Tryz.results115 _ _ w.heap.size 33 suZ.v (0, 0) _ rfl (setRow_heap _ _ _ suZ.v _ _ hrow1) Tryz.underlying33 rfl (suZ.info suZ_len)) rfl ?_
 exact ⟨rfl, below_setRow (below_then bW hb1) (Nat.le_refl _) _⟩
theorem fromLe_part (xs : List UInt8) (k : Nat) : fromLe ((xs.drop k).take 4) = lev ((xs.drop k).take 4) := by
 unfold fromLe; rw [List.take_take]; rfl
theorem Su.row (x : Su) : x.v = suV x.g x.s x.l x.D := rfl
theorem suGet_main (A : Option Addr) (c : Nat) (xs : List UInt8) (w : World) (hr : RdB w A 256 c xs) (h : crcHolds xs = true) :
  Calls Tryz.prog 115 #[.slice A 256 c] w (RetSu w (suGet xs) (suGetE xs)) := by
 have d1 : ((256 : Int) != 256) = false := by decide
 have hlen := hr.2.1
 have hc := hr.2.2.1
 have hc63 := hr.c63
 obtain ⟨b, o, u, rfl, hbl, _⟩ := hr.at_ 0 (by omega)
 have hcut : ∀ k j, k + j ≤ 256 → k < 256 → RdB w (some ⟨b, o + k, none⟩) j (c - k) ((xs.drop k).take j) := fun k j hkj hk => (hr.cutS k (256 - k) (by omega) (by omega)).take j (by omega)
 have r4 := hcut 4 4 (by omega) (by omega)
 have r8 := hcut 8 4 (by omega) (by omega)
 have r13 := hcut 13 32 (by omega) (by omega)
 have c12 := hr.cellS 12 (by omega)
 obtain ⟨b1, ⟨b2, b3⟩, ⟨b4, b5⟩, b6⟩ := suOf_bounds xs hlen
 obtain ⟨G, hG⟩ : ∃ G, lev ((xs.drop 4).take 4) = G := ⟨_, rfl⟩
 obtain ⟨L, hL⟩ : ∃ G, lev ((xs.drop 8).take 4) = G := ⟨_, rfl⟩
 obtain ⟨S, hS⟩ : ∃ G, (xs.getD 12 0).toNat = G := ⟨_, rfl⟩
 obtain ⟨D, hD⟩ : ∃ G, (xs.drop 13).take 32 = G := ⟨_, rfl⟩
 have hX : suOf xs = ⟨G, S, L, D⟩ := by unfold suOf; rw [hG, hL, hS, hD]
 rw [hX] at b1 b2 b3 b4 b5 b6
 simp only at b1 b2 b3 b4 b5 b6
 have hE : suGetE xs = if suCheck S L = true ∧ suPutL G S L D = xs then 0 else 3 := by
  unfold suGetE; rw [if_neg (by simp [hlen]), if_neg (by simp [h]), hX]
 have hGt : suGet xs = if suGetE xs = 0 then ⟨G, S, L, D⟩ else suZ := by unfold suGet; rw [hX]
 have f4 := fromLe_part xs 4
 have f8 := fromLe_part xs 8
 rw [hG] at f4
 rw [hL] at f8
 rw [hD] at r13
 rw [hS] at c12
 have F4 := Lib.hid f4
 have F8 := Lib.hid f8
 have wG : IntKind.u32.wrap (G : Int) = G := by rw [IntKind.wrap_u32]; omega
 have wL := wi64n (k := L) (by omega)
 have cb4 : ¬ (c = 4) := by omega
 have cb8 : ¬ (c = 8) := by omega
 have cb13 : ¬ (c = 13) := by omega
 have ci8 : (8 : Int) ≤ (c : Int) := by omega
 have ci12 : (12 : Int) ≤ (c : Int) := by omega
 have ci45 : (45 : Int) ≤ (c : Int) := by omega
 have H := Lib.hid h
 have HE := Lib.hid hE
 have HGt := Lib.hid hGt
 have HD := Lib.hid b6
 have HS9 := Lib.hid hlen
 have hSz : (S : Int) < 256 := by omega
 clear h hE hGt f4 f8 hX hG hL hS hD b6 hlen hcut
 have wS := wi64n (k := S) (by omega)
 have ka := arr_dig
 go_enter Tryz.func115, Tryz.ntmps115
 go_wp2_with fail
 refine named ?_
 intro W0 hW0
 have bW0 : Below w.heap.size w W0 := by rw [hW0]; repeat' (first | exact Below.refl _ _ | (refine Below.alloc ?_ ?_ _; rotate_left; (simp <;> omega)) | refine Below.drew ?_)
 have zW0 := bW0.size
 have HW0 := Lib.hid hW0
 clear hW0
 have xW : w.heap.size < W0.heap.size := by rw [HW0.out]; simp
 have hrow0 : W0.heap[w.heap.size]? = some (.cells suZ.v 33 (0, 0)) := by rw [HW0.out, suZ_v]; exact row1 ..
 have hh := holds_any _ 256 c xs W0 (hr.below bW0) (by omega)
 rw [H.out] at hh
 refine hh.mono ?_
 clear hh
 rintro e W ⟨rfl, hb1⟩
 have bW := below_then bW0 hb1
 have hrow := (hb1.block _ xW).trans hrow0
 have xW1 : w.heap.size < W.heap.size := Nat.lt_of_lt_of_le xW hb1.size
 have HROW := Lib.hid hrow
 clear hrow hrow0
 have j12 := (bW.cell (p := ⟨b, o + 12, none⟩) hbl).trans c12
 have q4 := r4.below bW
 have q8 := r8.below bW
 have q13 := r13.below bW
 have hbW : b < W.heap.size := by omega
 clear r4 r8 r13 c12
 go_wp2_with fail
 refine wp_region_seg (S := fun w' => Below W.heap.size W w') 0 (brw9 19 524287) [(0, true), (1, true), (2, true), (3, true), (4, true), (5, true), (6, true), (7, true), (8, true), (9, true), (10, true), (11, true), (12, true), (13, true), (14, true), (15, true), (16, true), (17, false), (18, false)] (by kernel_rfl) (by kernel_rfl) (fun _ _ d _ _ h => by first | (cases d <;> exact h) | cases h.1) ((Below.refl W.heap.size W).drew) ?_
 have HB := (Below.refl W.heap.size W).drew
 iterate 2 (refine seg_take (v := ?_) rfl (Or.inl ⟨by rfl, ?_⟩) ?_; rotate_left; (focus (intro w' hw'; have jj := (hw'.cell (p := ⟨b, o + 12, none⟩) hbW).trans j12; go_simp <;> with_reducible rfl)); try simp only [Act.put, pst3])
 refine seg_pure (v := .int .u64 (G : Int)) (f := ?_) (args := ?_) rfl (by rfl) (fun w' hw' => ?_) (fun w' hw' => ?_) ?_
 rotate_left 2
 focus (have jj := (hw'.cell (p := ⟨b, o + 12, none⟩) hbW).trans j12; go_simp <;> first | (refine ⟨?_, ?_⟩ <;> with_reducible rfl) | with_reducible rfl)
 focus (exact (F4.out ▸ fromLe_any _ _ _ _ w' (q4.below hw')))
 try simp only [Act.put, pst3]
 iterate 3 (refine seg_take (v := ?_) rfl (Or.inl ⟨by rfl, ?_⟩) ?_; rotate_left; (focus (intro w' hw'; have jj := (hw'.cell (p := ⟨b, o + 12, none⟩) hbW).trans j12; go_simp <;> with_reducible rfl)); try simp only [Act.put, pst3])
 refine seg_pure (v := .int .u64 (L : Int)) (f := ?_) (args := ?_) rfl (by rfl) (fun w' hw' => ?_) (fun w' hw' => ?_) ?_
 rotate_left 2
 focus (have jj := (hw'.cell (p := ⟨b, o + 12, none⟩) hbW).trans j12; go_simp <;> first | (refine ⟨?_, ?_⟩ <;> with_reducible rfl) | with_reducible rfl)
 focus (exact (F8.out ▸ fromLe_any _ _ _ _ w' (q8.below hw')))
 try simp only [Act.put, pst3]
 iterate 8 (refine seg_take (v := ?_) rfl (Or.inl ⟨by rfl, ?_⟩) ?_; rotate_left; (focus (intro w' hw'; have jj := (hw'.cell (p := ⟨b, o + 12, none⟩) hbW).trans j12; go_simp <;> with_reducible rfl)); try simp only [Act.put, pst3])
 refine seg_take (v := .agg (D.map vB).toArray) rfl (Or.inl ⟨by rfl, fun w' hw' => ?_⟩) ?_
 focus (exact ex_load rfl rfl (load_dig (q13.below hw') HD.out))
 try simp only [Act.put, pst3]
 refine seg_take (v := .agg (suV G S L D)) rfl (Or.inl ⟨by rfl, fun w' hw' => ?_⟩) ?_
 focus (exact ex_build rfl #[(0, .int .u32 (G : Int)), (2, .int .i64 (L : Int)), (1, .int .i64 (S : Int)), (3, .agg (D.map vB).toArray)] rfl (build_su w' G S L D HD.out))
 try simp only [Act.put, pst3]
 refine seg_run rfl (fun K hK => ?_)
 rw [if_pos (by rfl)]
 refine op_new #[.int .u32 0, .int .i64 0, .int .i64 0, .int .u8 0, .int .u8 0, .int .u8 0, .int .u8 0, .int .u8 0, .int .u8 0, .int .u8 0, .int .u8 0, .int .u8 0, .int .u8 0, .int .u8 0, .int .u8 0, .int .u8 0, .int .u8 0, .int .u8 0, .int .u8 0, .int .u8 0, .int .u8 0, .int .u8 0, .int .u8 0, .int .u8 0, .int .u8 0, .int .u8 0, .int .u8 0, .int .u8 0, .int .u8 0, .int .u8 0, .int .u8 0, .int .u8 0, .int .u8 0, .int .u8 0, .int .u8 0] 33 (fun w => by go_simp) ?_
 intro gL wL eL hL HBl hLsz
 have HB0 := HB.size
 have HB := below_then HB HBl
 refine hK.out _ _ (HB) ?_
 clear hK
 try simp only [Act.put, pst3]
 refine seg_run rfl (fun K hK => ?_)
 rw [if_pos (by rfl)]
 have hLW : W.heap.size ≤ gL := by omega
 refine wp_store_row _ _ _ rfl gL (suV G S L D) rfl rfl _ _ hL (suInfo _ _ _ _ HD.out) (by rw [suVn, HD.out]; rfl) (suV_one ..) ?_
 have HB := below_setRow HB hLW (suV G S L D)
 refine hK.out _ _ (HB) ?_
 clear hK
 try simp only [Act.put, pst3]
 refine seg_done (fun _ => ?_)
 refine wpAnyH_done (by kernel_rfl) ?_ _
 have hrowL := setRow_heap _ gL _ (suV G S L D) _ _ hL
 have xL : gL < (wL.setRow gL (suV G S L D)).heap.size := by simp; omega
 obtain ⟨V, hV⟩ : ∃ V, V = wL.setRow gL (suV G S L D) := ⟨_, rfl⟩
 rw [← hV] at hrowL xL HB ⊢
 clear hV hL HBl hLsz HB0
 have bV := below_then bW HB
 have zV := HB.size
 have hrowR := (HB.block _ xW1).trans HROW.out
 have hge := HE.out
 have hgt := HGt.out
 have HRL := Lib.hid hrowL
 have HRR := Lib.hid hrowR
 clear hrowL hrowR q4 q8 q13 j12
 cases hsc : suCheck S L with
 | false =>
  rw [if_neg (by simp [hsc])] at hge
  rw [if_neg (by rw [hge]; decide)] at hgt
  have HGE2 := Lib.hid hge
  have HGT2 := Lib.hid hgt
  have hh := suPut_any G S L D V b1 (by omega) HD.out
  unfold suPutE suPutL at hh
  rw [if_neg (by simp [hsc]), if_neg (by simp [hsc])] at hh
  have HH := Lib.hid hh
  clear hge hgt hsc hh
  go_wp2_with (refine wpList_load_row rfl 33 _ rfl gL rfl 33 (suV G S L D) (0, 0) _ HRL.out Tryz.underlying33 rfl (suInfo G S L D HD.out) ?_)
  refine HH.out.mono ?_
  rintro e w5 ⟨A5, n5, c5, rfl, ho5, hb5⟩
  have hrow5 := (hb5.block _ (by omega)).trans HRR.out
  go_wp2_with (refine wpList_store_row rfl 33 _ _ rfl w.heap.size suZ.v rfl rfl 33 suZ.v hrow5 (suZ.info suZ_len) rfl (suV_one ..) ?_)
  refine bodyPost_ret (results_row_tmp Tryz.results115 _ _ w.heap.size 33 suZ.v (0, 0) _ rfl (setRow_heap _ _ _ suZ.v _ _ hrow5) Tryz.underlying33 rfl (suZ.info suZ_len)) rfl ?_
  exact ⟨by rw [HGT2.out, HGE2.out]; rfl, below_setRow (below_then bV hb5) (Nat.le_refl _) _⟩
 | true =>
  have hh := suPut_any G S L D V b1 (by omega) HD.out
  unfold suPutE at hh
  rw [if_pos hsc] at hh
  obtain ⟨P, hP⟩ : ∃ P, suPutL G S L D = P := ⟨suPutL G S L D, rfl⟩
  rw [hP] at hh hge
  have HH := Lib.hid hh
  have HP := Lib.hid hP
  by_cases heq : P = xs
  ·rw [if_pos ⟨hsc, heq⟩] at hge
   rw [if_pos hge] at hgt
   have HGE2 := Lib.hid hge
   have HGT2 := Lib.hid hgt
   have HQ := Lib.hid heq
   clear hge hgt hsc hh hP heq
   go_wp2_with (refine wpList_load_row rfl 33 _ rfl gL rfl 33 (suV G S L D) (0, 0) _ HRL.out Tryz.underlying33 rfl (suInfo G S L D HD.out) ?_)
   refine HH.out.mono ?_
   rintro e w5 ⟨A5, n5, c5, rfl, ho5, hb5⟩
   have hrow5 := (hb5.block _ (by omega)).trans HRR.out
   have hrowL5 := (hb5.block _ xL).trans HRL.out
   have B5 := below_then bV hb5
   have HR5 := Lib.hid hrow5
   have HL5 := Lib.hid hrowL5
   clear hrow5 hrowL5
   go_wp2_with fail
   have hh := beq_any _ _ _ _ _ _ P xs w5 ho5.rd (hr.below B5)
   rw [decide_eq_true HQ.out] at hh
   refine hh.mono ?_
   clear hh
   rintro e w6 ⟨rfl, rfl⟩
   go_wp2_with (first
    | (refine wpList_load_row rfl 33 _ rfl gL rfl 33 (suV G S L D) (0, 0) _ HL5.out Tryz.underlying33 rfl (suInfo G S L D HD.out) ?_)
    | (refine wpList_store_row rfl 33 _ _ rfl w.heap.size (suV G S L D) rfl rfl 33 suZ.v HR5.out (suInfo G S L D HD.out) (by rw [suVn, HD.out]; rfl) (suV_one ..) ?_))
   refine bodyPost_ret (results_row_tmp Tryz.results115 _ _ w.heap.size 33 (suV G S L D) (0, 0) _ rfl (setRow_heap _ _ _ (suV G S L D) _ _ HR5.out) Tryz.underlying33 rfl (suInfo G S L D HD.out)) rfl ?_
   exact ⟨by rw [HGT2.out, HGE2.out]; rfl, below_setRow B5 (Nat.le_refl _) _⟩
  ·rw [if_neg (fun h => heq h.2)] at hge
   rw [if_neg (by rw [hge]; decide)] at hgt
   have HGE2 := Lib.hid hge
   have HGT2 := Lib.hid hgt
   have HQ := Lib.hid heq
   clear hge hgt hsc hh hP heq
   go_wp2_with (refine wpList_load_row rfl 33 _ rfl gL rfl 33 (suV G S L D) (0, 0) _ HRL.out Tryz.underlying33 rfl (suInfo G S L D HD.out) ?_)
   refine HH.out.mono ?_
   rintro e w5 ⟨A5, n5, c5, rfl, ho5, hb5⟩
   have hrow5 := (hb5.block _ (by omega)).trans HRR.out
   have B5 := below_then bV hb5
   have HR5 := Lib.hid hrow5
   clear hrow5
   go_wp2_with fail
   have hh := beq_any _ _ _ _ _ _ P xs w5 ho5.rd (hr.below B5)
   rw [decide_eq_false HQ.out] at hh
   refine hh.mono ?_
   clear hh
   rintro e w6 ⟨rfl, rfl⟩
   go_wp2_with (refine wpList_store_row rfl 33 _ _ rfl w.heap.size suZ.v rfl rfl 33 suZ.v HR5.out (suZ.info suZ_len) rfl (suV_one ..) ?_)
   refine bodyPost_ret (results_row_tmp Tryz.results115 _ _ w.heap.size 33 suZ.v (0, 0) _ rfl (setRow_heap _ _ _ suZ.v _ _ HR5.out) Tryz.underlying33 rfl (suZ.info suZ_len)) rfl ?_
   exact ⟨by rw [HGT2.out, HGE2.out]; rfl, below_setRow B5 (Nat.le_refl _) _⟩
theorem suGet_any (A : Option Addr) (n c : Nat) (xs : List UInt8) (w : World) (hr : RdB w A n c xs) :
  Calls Tryz.prog 115 #[.slice A n c] w (RetSu w (suGet xs) (suGetE xs)) := by
 by_cases h : n = 256
 ·subst h
  cases hh : crcHolds xs with
  | true => exact suGet_main A c xs w hr hh
  | false =>
   have e : suGetE xs = 6 := by unfold suGetE; rw [if_neg (by simp [hr.2.1]), if_pos hh]
   have e2 : suGet xs = suZ := by unfold suGet; rw [if_neg (by rw [e]; decide)]
   rw [e, e2]
   exact suGet_sum A c xs w hr hh
 ·have e : suGetE xs = 2 := by unfold suGetE; rw [if_pos (by rw [hr.2.1]; exact h)]
  have e2 : suGet xs = suZ := by unfold suGet; rw [if_neg (by rw [e]; decide)]
  rw [e, e2]
  exact suGet_early A n c xs w hr h
set_option maxHeartbeats 4000000
def AgrP (P : Nat → Prop) (w W : World) : Prop := w.heap.size ≤ W.heap.size ∧ ∀ j, j < w.heap.size → ¬ P j → W.heap[j]? = w.heap[j]?
section
variable {P P' : Nat → Prop} {w w' W : World}
theorem AgrP.refl (P : Nat → Prop) (w : World) : AgrP P w w := ⟨Nat.le_refl _, fun _ _ _ => rfl⟩
theorem AgrP.of (h : AgrP P w' W) (hb : Below w.heap.size w w') : AgrP P w W := ⟨Nat.le_trans hb.size h.1, fun j hj hP => (h.2 j (Nat.lt_of_lt_of_le hj hb.size) hP).trans (hb.block j hj)⟩
theorem AgrP.more (h : AgrP P' w' W) (hb : Below w.heap.size w w') (hs : ∀ j, P' j → P j ∨ w.heap.size ≤ j) : AgrP P w W :=
 ⟨Nat.le_trans hb.size h.1, fun j hj hn => (h.2 j (Nat.lt_of_lt_of_le hj hb.size) (fun hp => by rcases hs j hp with q | q; exact hn q; omega)).trans (hb.block j hj)⟩
theorem rd_agr {P : Nat → Prop} {w W : World} {A : Option Addr} {vs : List Value} (h : Rd w A vs) (ha : AgrP P w W) (hA : ∀ a, A = some a → ¬ P a.block) : Rd W A vs := by
 rcases h with rfl | ⟨b, o, rfl, hb, hc⟩
 ·exact .inl rfl
 ·exact .inr ⟨b, o, rfl, Nat.lt_of_lt_of_le hb ha.1, fun i v hv => (World.cell?_of_block (w := w) (w' := W) (a := ⟨b, o + i, none⟩) (ha.2 b hb (hA _ rfl))).trans (hc i v hv)⟩
def BIn (P : Nat → Prop) (w : World) (A : Option Addr) (n c : Nat) (xs : List UInt8) : Prop := ∀ W, AgrP P w W → RdB W A n c xs
def WsIn (P : Nat → Prop) (w : World) (A : Option Addr) (n c : Nat) (l : List (Int × List UInt8)) : Prop := ∃ us, ∀ W, AgrP P w W → RdWs W A n c us l
theorem BIn.now {A : Option Addr} {n c : Nat} {xs : List UInt8} (h : BIn P w A n c xs) : RdB w A n c xs := h w (AgrP.refl _ _)
theorem WsIn.now {A : Option Addr} {n c : Nat} {l : List (Int × List UInt8)} (h : WsIn P w A n c l) : ∃ us, RdWs w A n c us l := by obtain ⟨us, h⟩ := h; exact ⟨us, h w (AgrP.refl _ _)⟩
theorem BIn.below {A : Option Addr} {n c : Nat} {xs : List UInt8} (h : BIn P w A n c xs) (hb : Below w.heap.size w w') : BIn P w' A n c xs := fun W hW => h W (hW.of hb)
theorem WsIn.below {A : Option Addr} {n c : Nat} {l : List (Int × List UInt8)} (h : WsIn P w A n c l) (hb : Below w.heap.size w w') : WsIn P w' A n c l := by obtain ⟨us, h⟩ := h; exact ⟨us, fun W hW => h W (hW.of hb)⟩
theorem BIn.more {A : Option Addr} {n c : Nat} {xs : List UInt8} (h : BIn P w A n c xs) (hb : Below w.heap.size w w') (hs : ∀ j, P' j → P j ∨ w.heap.size ≤ j) : BIn P' w' A n c xs := fun W hW => h W (hW.more hb hs)
theorem WsIn.more {A : Option Addr} {n c : Nat} {l : List (Int × List UInt8)} (h : WsIn P w A n c l) (hb : Below w.heap.size w w') (hs : ∀ j, P' j → P j ∨ w.heap.size ≤ j) : WsIn P' w' A n c l := by obtain ⟨us, h⟩ := h; exact ⟨us, fun W hW => h W (hW.more hb hs)⟩
theorem BIn.agr {A : Option Addr} {n c : Nat} {xs : List UInt8} (h : BIn P w A n c xs) (ha : AgrP P w W) : BIn P W A n c xs := fun W' hW => h W' ⟨Nat.le_trans ha.1 hW.1, fun j hj hP => (hW.2 j (Nat.lt_of_lt_of_le hj ha.1) hP).trans (ha.2 j hj hP)⟩
theorem WsIn.agr {A : Option Addr} {n c : Nat} {l : List (Int × List UInt8)} (h : WsIn P w A n c l) (ha : AgrP P w W) : WsIn P W A n c l := by
 obtain ⟨us, h⟩ := h
 exact ⟨us, fun W' hW => h W' ⟨Nat.le_trans ha.1 hW.1, fun j hj hP => (hW.2 j (Nat.lt_of_lt_of_le hj ha.1) hP).trans (ha.2 j hj hP)⟩⟩
theorem own_agr0 {base : Nat} {e : TypeId} {v : Value} {n size : Nat} {xs : List Value} (h : w.ownsRow base e size v n xs) (ha : AgrP P w W) (hs : ∀ j, P j → j < base) : W.ownsRow base e size v n xs := by
 refine ⟨h.1, ?_⟩
 rcases h.2 with h0 | ⟨g, cap, cur, hv, hb, hg, r⟩
 ·exact .inl h0
 ·exact .inr ⟨g, cap, cur, hv, hb, (ha.2 g (drw_lt hg) (fun hp => by have := hs g hp; omega)).trans hg, r⟩
theorem OwnB.inn {base : Nat} {A : Option Addr} {n c : Nat} {xs : List UInt8} (h : OwnB w base A n c xs) (hs : ∀ j, P j → j < base) : BIn P w A n c xs := fun W hW => OwnB.rd (base := base) (own_agr0 h hW hs)
end
structure Jm where
 g : Nat
 slot : Int
 next : Nat
 done : Nat
 will : Nat
 ch : List UInt8
 wa : Option Addr
 wn : Nat
 wc : Nat
 ph : Int
 ja : Option Addr
 jn : Nat
 jc : Nat
 out : Int
 su : Su
 room : Int
 err : Int
def Jm.of (m : Jm) (wl jl : List Jb) : Jn := ⟨m.g, m.slot, m.next, m.done, m.will, m.ch, wl, m.ph, jl, m.out, m.su, m.room, m.err⟩
def jmV (m : Jm) : List Value := [.int .u32 (m.g : Int), .int .i64 m.slot, .int .u32 (m.next : Int), .int .u32 (m.done : Int), .int .u32 (m.will : Int)] ++ (m.ch.map vB ++ ([.slice m.wa m.wn m.wc, .int .i64 m.ph, .slice m.ja m.jn m.jc, .int .i64 m.out, .int .u32 (m.su.g : Int), .int .i64 m.su.s, .int .i64 m.su.l] ++ (m.su.D.map vB ++ [.int .i64 m.room, .int .i64 m.err])))
def Jm.z (m : Jm) : Prop := m.ch.length = 32 ∧ m.su.D.length = 32
theorem jmV_len {m : Jm} (h : m.z) : (jmV m).length = 78 := by simp [jmV, h.1, h.2]
theorem jmV_one (m : Jm) : ∀ v ∈ jmV m, v.oneCell' = true := fun v hv => by
 simp only [jmV, List.mem_append, List.mem_cons, List.not_mem_nil, or_false, List.mem_map] at hv
 rcases hv with (rfl | rfl | rfl | rfl | rfl) | ⟨u, _, rfl⟩ | (rfl | rfl | rfl | rfl | rfl | rfl | rfl) | ⟨u, _, rfl⟩ | rfl | rfl <;> rfl
theorem jmV_mid {m : Jm} (h : m.z) (k : Nat) : (jmV m)[37 + k]? = ([Value.slice m.wa m.wn m.wc, .int .i64 m.ph, .slice m.ja m.jn m.jc, .int .i64 m.out, .int .u32 (m.su.g : Int), .int .i64 m.su.s, .int .i64 m.su.l] ++ (m.su.D.map vB ++ [.int .i64 m.room, .int .i64 m.err]))[k]? := by
 unfold jmV
 rw [List.getElem?_append_right (by simp; omega), List.getElem?_append_right (by simp [h.1]; omega)]
 simp [h.1]
 congr 1; omega
theorem jmV_end {m : Jm} (h : m.z) (k : Nat) : (jmV m)[76 + k]? = ([Value.int .i64 m.room, .int .i64 m.err])[k]? := by
 rw [show 76 + k = 37 + (39 + k) by omega, jmV_mid h, List.getElem?_append_right (by simp; omega), List.getElem?_append_right (by simp [h.2]; omega)]
 simp [h.2]
 congr 1; omega
def JmAt (w : World) (g : Nat) (m : Jm) : Prop := w.heap[g]? = some (.cells (jmV m).toArray 36 (0, 0))
section
variable {w w' : World} {g : Nat} {m : Jm}
theorem JmAt.lt (q : JmAt w g m) : g < w.heap.size := drw_lt q
theorem JmAt.up (q : JmAt w g m) (hb : Below w.heap.size w w') : JmAt w' g m := drw_up q hb
theorem JmAt.cell (q : JmAt w g m) (i : Nat) : w.cell? ⟨g, i, none⟩ = (jmV m)[i]? := by rw [cell_of_row w g i _ _ _ q]; simp
theorem JmAt.fr (q : JmAt w g m) (i : Nat) : w.frozen? ⟨g, i, none⟩ = false := frozen_of_row _ _ i _ _ q
theorem JmAt.c0 (q : JmAt w g m) : w.cell? ⟨g, 0, none⟩ = some (.int .u32 (m.g : Int)) := (q.cell 0).trans rfl
theorem JmAt.c1 (q : JmAt w g m) : w.cell? ⟨g, 1, none⟩ = some (.int .i64 m.slot) := (q.cell 1).trans rfl
theorem JmAt.c2 (q : JmAt w g m) : w.cell? ⟨g, 2, none⟩ = some (.int .u32 (m.next : Int)) := (q.cell 2).trans rfl
theorem JmAt.c3 (q : JmAt w g m) : w.cell? ⟨g, 3, none⟩ = some (.int .u32 (m.done : Int)) := (q.cell 3).trans rfl
theorem JmAt.c4 (q : JmAt w g m) : w.cell? ⟨g, 4, none⟩ = some (.int .u32 (m.will : Int)) := (q.cell 4).trans rfl
theorem JmAt.c37 (q : JmAt w g m) (h : m.z) : w.cell? ⟨g, 37, none⟩ = some (.slice m.wa m.wn m.wc) := (q.cell 37).trans ((jmV_mid h 0).trans rfl)
theorem JmAt.c38 (q : JmAt w g m) (h : m.z) : w.cell? ⟨g, 38, none⟩ = some (.int .i64 m.ph) := (q.cell 38).trans ((jmV_mid h 1).trans rfl)
theorem JmAt.c39 (q : JmAt w g m) (h : m.z) : w.cell? ⟨g, 39, none⟩ = some (.slice m.ja m.jn m.jc) := (q.cell 39).trans ((jmV_mid h 2).trans rfl)
theorem JmAt.c40 (q : JmAt w g m) (h : m.z) : w.cell? ⟨g, 40, none⟩ = some (.int .i64 m.out) := (q.cell 40).trans ((jmV_mid h 3).trans rfl)
theorem JmAt.c41 (q : JmAt w g m) (h : m.z) : w.cell? ⟨g, 41, none⟩ = some (.int .u32 (m.su.g : Int)) := (q.cell 41).trans ((jmV_mid h 4).trans rfl)
theorem JmAt.c76 (q : JmAt w g m) (h : m.z) : w.cell? ⟨g, 76, none⟩ = some (.int .i64 m.room) := (q.cell 76).trans ((jmV_end h 0).trans rfl)
theorem JmAt.c77 (q : JmAt w g m) (h : m.z) : w.cell? ⟨g, 77, none⟩ = some (.int .i64 m.err) := (q.cell 77).trans ((jmV_end h 1).trans rfl)
theorem JmAt.cells (q : JmAt w g m) (h : m.z) : (w.cell? ⟨g, 0, none⟩ = some (.int .u32 (m.g : Int)) ∧ w.cell? ⟨g, 1, none⟩ = some (.int .i64 m.slot) ∧ w.cell? ⟨g, 2, none⟩ = some (.int .u32 (m.next : Int)) ∧ w.cell? ⟨g, 3, none⟩ = some (.int .u32 (m.done : Int)) ∧ w.cell? ⟨g, 4, none⟩ = some (.int .u32 (m.will : Int))) ∧
  (w.cell? ⟨g, 37, none⟩ = some (.slice m.wa m.wn m.wc) ∧ w.cell? ⟨g, 38, none⟩ = some (.int .i64 m.ph) ∧ w.cell? ⟨g, 39, none⟩ = some (.slice m.ja m.jn m.jc) ∧ w.cell? ⟨g, 40, none⟩ = some (.int .i64 m.out) ∧ w.cell? ⟨g, 41, none⟩ = some (.int .u32 (m.su.g : Int)) ∧ w.cell? ⟨g, 76, none⟩ = some (.int .i64 m.room) ∧ w.cell? ⟨g, 77, none⟩ = some (.int .i64 m.err)) ∧ ∀ i, w.frozen? ⟨g, i, none⟩ = false :=
 ⟨⟨q.c0, q.c1, q.c2, q.c3, q.c4⟩, ⟨q.c37 h, q.c38 h, q.c39 h, q.c40 h, q.c41 h, q.c76 h, q.c77 h⟩, q.fr⟩
theorem JmAt.s2 (q : JmAt w g m) (v : Nat) : JmAt (w.setCell ⟨g, 2, none⟩ (.int .u32 (v : Int))) g { m with next := v } := (setc_rowT q).trans rfl
theorem JmAt.s3 (q : JmAt w g m) (v : Nat) : JmAt (w.setCell ⟨g, 3, none⟩ (.int .u32 (v : Int))) g { m with done := v } := (setc_rowT q).trans rfl
theorem JmAt.s4 (q : JmAt w g m) (v : Nat) : JmAt (w.setCell ⟨g, 4, none⟩ (.int .u32 (v : Int))) g { m with will := v } := (setc_rowT q).trans rfl
theorem JmAt.setK (q : JmAt w g m) (h : m.z) (m' : Jm) (k : Nat) (hk : k < 4) (v : Value) (hv : jmV m' = (jmV m).set (37 + k) v) : JmAt (w.setCell ⟨g, 37 + k, none⟩ v) g m' := by
 have h1 := setc_rowT (i := 37 + k) (v := v) q
 unfold JmAt
 rw [h1, hv, List.setIfInBounds_toArray]
theorem jmV_set {m : Jm} (h : m.z) (k : Nat) (hk : k < 7) (v : Value) : (jmV m).set (37 + k) v = [.int .u32 (m.g : Int), .int .i64 m.slot, .int .u32 (m.next : Int), .int .u32 (m.done : Int), .int .u32 (m.will : Int)] ++ (m.ch.map vB ++ (([.slice m.wa m.wn m.wc, .int .i64 m.ph, .slice m.ja m.jn m.jc, .int .i64 m.out, .int .u32 (m.su.g : Int), .int .i64 m.su.s, .int .i64 m.su.l] : List Value).set k v ++ (m.su.D.map vB ++ [.int .i64 m.room, .int .i64 m.err]))) := by
 unfold jmV
 rw [List.set_append_right _ _ (by simp; omega), List.set_append_right _ _ (by simp [h.1]; omega), List.set_append_left _ _ (by simp [h.1]; omega)]
 simp only [List.length_cons, List.length_nil, List.length_map, h.1]
 rw [show 37 + k - (0 + 1 + 1 + 1 + 1 + 1) - 32 = k by omega]
theorem JmAt.s37 (q : JmAt w g m) (h : m.z) (A : Option Addr) (n c : Nat) : JmAt (w.setCell ⟨g, 37, none⟩ (.slice A n c)) g { m with wa := A, wn := n, wc := c } := q.setK h _ 0 (by omega) _ (by rw [jmV_set h 0 (by omega)]; rfl)
theorem JmAt.s38 (q : JmAt w g m) (h : m.z) (v : Int) : JmAt (w.setCell ⟨g, 38, none⟩ (.int .i64 v)) g { m with ph := v } := q.setK h _ 1 (by omega) _ (by rw [jmV_set h 1 (by omega)]; rfl)
theorem JmAt.s39 (q : JmAt w g m) (h : m.z) (A : Option Addr) (n c : Nat) : JmAt (w.setCell ⟨g, 39, none⟩ (.slice A n c)) g { m with ja := A, jn := n, jc := c } := q.setK h _ 2 (by omega) _ (by rw [jmV_set h 2 (by omega)]; rfl)
theorem JmAt.s40 (q : JmAt w g m) (h : m.z) (v : Int) : JmAt (w.setCell ⟨g, 40, none⟩ (.int .i64 v)) g { m with out := v } := q.setK h _ 3 (by omega) _ (by rw [jmV_set h 3 (by omega)]; rfl)
theorem JmAt.s77 (q : JmAt w g m) (h : m.z) (v : Int) : JmAt (w.setCell ⟨g, 77, none⟩ (.int .i64 v)) g { m with err := v } := by
 have h1 := setc_rowT (i := 77) (v := .int .i64 v) q
 unfold JmAt
 rw [h1, List.setIfInBounds_toArray]
 congr 2
 unfold jmV
 rw [List.set_append_right _ _ (by simp), List.set_append_right _ _ (by simp [h.1]), List.set_append_right _ _ (by simp [h.1]), List.set_append_right _ _ (by simp [h.1, h.2])]
 simp [h.1, h.2]
theorem JmAt.dig (q : JmAt w g m) (h : m.z) : w.rangeAt g 5 (m.ch.map vB) := fun j v hv => by
 rw [q.cell]
 have hj : j < 32 := by have := (List.getElem?_eq_some_iff.1 hv).1; simpa [h.1] using this
 unfold jmV
 rw [List.getElem?_append_right (by simp), List.getElem?_append_left (by simp [h.1]; omega)]
 simpa using hv
theorem JmAt.sup (q : JmAt w g m) (h : m.z) : w.rangeAt g 41 (suV m.su.g m.su.s m.su.l m.su.D).toList := fun j v hv => by
 rw [q.cell, show 41 + j = 37 + (4 + j) by omega, jmV_mid h]
 have hj : j < 35 := by have := (List.getElem?_eq_some_iff.1 hv).1; simp [suV, h.2] at this; omega
 have e : ([Value.slice m.wa m.wn m.wc, .int .i64 m.ph, .slice m.ja m.jn m.jc, .int .i64 m.out, .int .u32 (m.su.g : Int), .int .i64 m.su.s, .int .i64 m.su.l] ++ (m.su.D.map vB ++ [Value.int .i64 m.room, .int .i64 m.err])) = [Value.slice m.wa m.wn m.wc, .int .i64 m.ph, .slice m.ja m.jn m.jc, .int .i64 m.out] ++ ((suV m.su.g m.su.s m.su.l m.su.D).toList ++ [Value.int .i64 m.room, .int .i64 m.err]) := by simp [suV]
 rw [e, List.getElem?_append_right (by simp), List.getElem?_append_left (by simp [suV, h.2]; omega)]
 simpa using hv
end
theorem jm_cells : (Tryz.prog.info? 36).map (·.size) = some 78 := by kernel_rfl
theorem jm_info {m : Jm} (h : m.z) : (Tryz.prog.info? 36).map (·.size) = some (jmV m).toArray.size := by rw [List.size_toArray, jmV_len h]; exact jm_cells
theorem jmV_all (m : Jm) : ((jmV m).toArray).all (·.oneCell') = true := by
 rw [Array.all_eq_true_iff_forall_mem]
 intro v hv
 exact jmV_one m v (by simpa using hv)
section
variable {ops : Array Oper} {rest : List Oper} {o : Oper} {a : Act} {w : World} {Q : Exit → Act → World → Prop} {h : Nat} {m m' : Jm}
theorem jm_load (hz : m.z) (hgd : o.guard = none) (x : Operand) (ho : o.op = .load 36 x) (hx : a.eval x = .pointer (some ⟨h, 0, none⟩)) (q : JmAt w h m)
  (hK : wpList Tryz.prog ops Q rest (a.put o.dst (.agg (jmV m).toArray)) w) : wpList Tryz.prog ops Q (o :: rest) a w :=
 wpList_load_row hgd 36 x ho h hx 36 _ (0, 0) _ q Tryz.underlying36 rfl (jm_info hz) hK
theorem jm_store (hz : m.z) (hz' : m'.z) (hgd : o.guard = none) (x y : Operand) (ho : o.op = .store 36 x y) (hx : a.eval x = .pointer (some ⟨h, 0, none⟩)) (hy : a.eval y = .agg (jmV m).toArray) (q : JmAt w h m')
  (hK : ∀ X, X.heap.size = w.heap.size → JmAt X h m → (∀ B, B ≤ h → Below B w X) → (∀ j, j ≠ h → X.heap[j]? = w.heap[j]?) → wpList Tryz.prog ops Q rest (a.put o.dst undef) X) : wpList Tryz.prog ops Q (o :: rest) a w :=
 wpList_store_row hgd 36 x y ho h _ hx hy 36 _ q (jm_info hz) (by rw [List.size_toArray, List.size_toArray, jmV_len hz, jmV_len hz']) (jmV_all m) (hK _ (by simp) (setRow_heap _ _ _ _ _ _ q) (fun B hB => below_setRow (Below.refl _ _) hB _) (fun j hj => setRow_other _ _ _ _ hj))
end
def JIn (P : Nat → Prop) (w : World) (m : Jm) (J : Jn) : Prop := J.ok ∧ m.of J.wait J.jobs = J ∧ WsIn P w m.wa m.wn m.wc J.wait ∧ WsIn P w m.ja m.jn m.jc J.jobs
theorem JIn.z {P : Nat → Prop} {w : World} {m : Jm} {J : Jn} (h : JIn P w m J) : m.z := ⟨by rw [show m.ch = J.ch from by rw [← h.2.1]; rfl]; exact h.1.ch, by rw [show m.su = J.su from by rw [← h.2.1]; rfl]; exact h.1.sD⟩
theorem JIn.below {P : Nat → Prop} {w w' : World} {m : Jm} {J : Jn} (h : JIn P w m J) (hb : Below w.heap.size w w') : JIn P w' m J := ⟨h.1, h.2.1, h.2.2.1.below hb, h.2.2.2.below hb⟩
theorem JIn.more {P P' : Nat → Prop} {w w' : World} {m : Jm} {J : Jn} (h : JIn P w m J) (hb : Below w.heap.size w w') (hs : ∀ j, P' j → P j ∨ w.heap.size ≤ j) : JIn P' w' m J := ⟨h.1, h.2.1, h.2.2.1.more hb hs, h.2.2.2.more hb hs⟩
theorem JIn.agr {P : Nat → Prop} {w W : World} {m : Jm} {J : Jn} (h : JIn P w m J) (ha : AgrP P w W) : JIn P W m J := ⟨h.1, h.2.1, h.2.2.1.agr ha, h.2.2.2.agr ha⟩
set_option maxHeartbeats 8000000
theorem jb1_any (a : Int) (A : Option Addr) (n c : Nat) (w : World) (hn : n ≤ 9223372036854775807) (ha : -9223372036854775808 ≤ a ∧ a ≤ 9223372036854775807) :
  Calls Tryz.prog 101 #[.agg #[.int .i64 a, .slice A n c]] w (RetV w (.bool (!(decide (0 ≤ a) && (decide (a < 256) && decide (n = 256)))))) := by
 by_cases h1 : 0 ≤ a
 ·have d1 : decide (a < 0) = false := decide_eq_false (by omega)
  by_cases h2 : a < 256
  ·have d2 : decide ((256 : Int) ≤ a) = false := decide_eq_false (by omega)
   by_cases h3 : n = 256
   ·have d3 : ((n : Int) != 256) = false := by simp; omega
    have e : (!(decide (0 ≤ a) && (decide (a < 256) && decide (n = 256)))) = false := by simp [h1, h2, h3]
    rw [e]
    clear e h3
    go_enter Tryz.func101, Tryz.ntmps101
    go_wp2_with fail
    go_ret
    exact ⟨rfl, (below_self w).alloc (Nat.le_refl _) _⟩
   ·have d3 : ((n : Int) != 256) = true := by simp; omega
    have e : (!(decide (0 ≤ a) && (decide (a < 256) && decide (n = 256)))) = true := by simp [h3]
    rw [e]
    clear e h3
    go_enter Tryz.func101, Tryz.ntmps101
    go_wp2_with fail
    go_ret
    exact ⟨rfl, (below_self w).alloc (Nat.le_refl _) _⟩
  ·have d2 : decide ((256 : Int) ≤ a) = true := decide_eq_true (by omega)
   have e : (!(decide (0 ≤ a) && (decide (a < 256) && decide (n = 256)))) = true := by simp [h2]
   rw [e]
   clear e
   go_enter Tryz.func101, Tryz.ntmps101
   go_wp2_with fail
   go_ret
   exact ⟨rfl, (below_self w).alloc (Nat.le_refl _) _⟩
 ·have d1 : decide (a < 0) = true := decide_eq_true (by omega)
  have e : (!(decide (0 ≤ a) && (decide (a < 256) && decide (n = 256)))) = true := by simp [h1]
  rw [e]
  clear e
  go_enter Tryz.func101, Tryz.ntmps101
  go_wp2_with fail
  go_ret
  exact ⟨rfl, (below_self w).alloc (Nat.le_refl _) _⟩
theorem jobsIdx_any (A : Option Addr) (kn kc : Nat) (us : List Value) (l : List Jb) (w : World) (hr : RdWs w A kn kc us l) (hn : kn ≤ 1000000) :
  Calls Tryz.prog 137 #[.slice A kn kc, .func (.func 101) #[] #[]] w (RetIx w kn (fun j => !jb1 (l.getD j (0, [])))) := by
 go_enter Tryz.func137, Tryz.ntmps137
 go_wp2_with fail
 go_loopw [8] (IxI w kn (fun j => !jb1 (l.getD j (0, [])))) (fun i _ => kn - (intOf i).toNat)
 case atStart => exact ⟨0, by omega, rfl, fun j hj => by omega, Below.refl _ _⟩
 case round =>
  obtain ⟨k, hk, rfl, hp, hB⟩ := hrel
  have HPp := Lib.hid hp
  clear hp
  by_cases hlt : k < kn
  ·obtain ⟨b, o, B, m, d, rfl, hb, hc0, hc1, hy, hrg⟩ := (hr.below hB).at_ k hlt
   have hm := hy.n63
   have hEq : jb1 (l.getD k (0, [])) = (decide (0 ≤ (l.getD k (0, [])).1) && (decide ((l.getD k (0, [])).1 < 256) && decide (m = 256))) := by unfold jb1; rw [hy.2.1]
   obtain ⟨a, ha⟩ : ∃ a, (l.getD k (0, [])).1 = a := ⟨_, rfl⟩
   rw [ha] at hc0 hrg hEq
   have H := Lib.hid (jb1_any a B m d wr hm hrg)
   rw [← hEq] at H
   obtain ⟨q, hq⟩ : ∃ q, jb1 (l.getD k (0, [])) = q := ⟨_, rfl⟩
   rw [hq] at H
   have HQ := Lib.hid hq
   clear hEq ha hq hy
   cases q with
   | true =>
    go_wp2_with fail
    refine H.out.mono ?_
    rintro e w2 ⟨rfl, hb2⟩
    go_wp2_with fail
    go_roundw
    case rel => exact ⟨k + 1, by omega, by go_num, fun j hj => by
     rcases Nat.lt_or_ge j k with h | h
     ·exact HPp.out j h
     ·obtain rfl : j = k := by omega
      show (!jb1 (l.getD j (0, []))) = false
      rw [HQ.out]; rfl, below_then hB hb2⟩
    case measure => simp [intOf]; omega
   | false =>
    go_wp2_with fail
    refine H.out.mono ?_
    rintro e w2 ⟨rfl, hb2⟩
    go_wp2_with fail
    go_ret
    exact ⟨_, rfl, .inl ⟨by omega, k, hlt, by show (!jb1 (l.getD k (0, []))) = true; rw [HQ.out]; rfl⟩, below_then hB hb2⟩
  ·obtain rfl : k = kn := by omega
   go_wp2_with fail
   go_ret
   exact ⟨_, rfl, .inr ⟨rfl, HPp.out⟩, hB⟩
theorem jobsHas_any (A : Option Addr) (kn kc : Nat) (us : List Value) (l : List Jb) (w : World) (hr : RdWs w A kn kc us l) (hn : kn ≤ 1000000) :
  Calls Tryz.prog 102 #[.slice A kn kc, .func (.func 101) #[] #[]] w (RetV w (.bool (!jbOk l))) := by
 have H := Lib.hid (jobsIdx_any A kn kc us l w hr hn)
 have HP := Lib.hid (nall_getD l jb1 (0, []))
 have HL := Lib.hid hr.len
 obtain ⟨P, hP⟩ : ∃ P, P = (!(l.all jb1)) := ⟨_, rfl⟩
 have e : (!jbOk l) = P := by rw [hP]; rfl
 rw [← hP] at HP
 rw [e]
 clear hP e
 go_enter Tryz.func102, Tryz.ntmps102
 go_wp2_with fail
 refine H.out.mono ?_
 rintro e w2 ⟨r, rfl, hrr, hb2⟩
 have hR : decide (0 ≤ r) = P := by
  rcases hrr with ⟨h1, j, h2, h3⟩ | ⟨h1, h2⟩
  ·rw [decide_eq_true h1, HP.out.2 ⟨j, by rw [HL.out]; exact h2, h3⟩]
  ·rw [decide_eq_false (by omega)]
   cases P with
   | false => rfl
   | true =>
    obtain ⟨j, h3, h4⟩ := HP.out.1 rfl
    exact absurd (h4.symm.trans (h2 j (by rw [← HL.out]; exact h3))) (by decide)
 clear hrr
 go_wp2_with fail
 go_ret
 exact ⟨rfl, hb2⟩
theorem jobs_any (A : Option Addr) (kn kc : Nat) (us : List Value) (l : List Jb) (w : World) (hr : RdWs w A kn kc us l) (hn : kn ≤ 1000000) :
  Calls Tryz.prog 62 #[.slice A kn kc] w (RetV w (.bool (jbOk l))) := by
 have H := Lib.hid (jobsHas_any A kn kc us l w hr hn)
 have e : jbOk l = !(!jbOk l) := by simp
 obtain ⟨q, hq⟩ : ∃ q, (!jbOk l) = q := ⟨_, rfl⟩
 rw [e]
 rw [hq] at H ⊢
 clear hr e hq
 go_enter Tryz.func62, Tryz.ntmps62
 go_wp2_with fail
 refine H.out.mono ?_
 rintro e w2 ⟨rfl, hb2⟩
 go_wp2_with fail
 go_ret
 exact ⟨rfl, hb2⟩
set_option maxRecDepth 100000 in
theorem counts_any (m : Jm) (J : Jn) (w : World) (hz : m.z) (hJ : J.ok) (hm : m.of J.wait J.jobs = J) (hwl : J.wait.length = m.wn) (hwn : m.wn ≤ 9223372036854775807) :
  Calls Tryz.prog 61 #[.agg (jmV m).toArray] w (RetV w (.bool (jnCnt J))) := by
 obtain ⟨V, hV⟩ : ∃ V, V = w.alloc (.cells (jmV m).toArray 36) := ⟨_, rfl⟩
 have bV : Below w.heap.size w V := by rw [hV]; exact (below_self w).alloc (Nat.le_refl _) _
 have q : JmAt V w.heap.size m := by rw [hV]; exact drw_at _ rfl
 obtain ⟨⟨_, _, c2, c3, c4⟩, ⟨c37, _, _, _, _, c76, _⟩, _⟩ := q.cells hz
 have e1 : J.room = m.room := by rw [← hm]; rfl
 have e2 : J.done = m.done := by rw [← hm]; rfl
 have e3 : J.will = m.will := by rw [← hm]; rfl
 have e4 : J.next = m.next := by rw [← hm]; rfl
 have hok := hJ
 have hcnt : jnCnt J = decide ((0 ≤ m.room ∧ m.room ≤ 158) ∧ (m.done ≤ m.will ∧ m.will ≤ m.next) ∧ (m.next : Int) ≤ m.room ∧ m.wn = m.next - m.will) := by unfold jnCnt; rw [e1, e2, e3, e4, hwl]
 have hn1 := hJ.next
 have hn2 := hJ.will
 rw [e4] at hn1
 rw [e3] at hn2
 rw [hcnt]
 obtain ⟨room, hroom⟩ : ∃ r, m.room = r := ⟨_, rfl⟩
 obtain ⟨dn, hdn⟩ : ∃ r, m.done = r := ⟨_, rfl⟩
 obtain ⟨wi, hwi⟩ : ∃ r, m.will = r := ⟨_, rfl⟩
 obtain ⟨nx, hnx⟩ : ∃ r, m.next = r := ⟨_, rfl⟩
 obtain ⟨wn, hwnn⟩ : ∃ r, m.wn = r := ⟨_, rfl⟩
 rw [hroom] at c76 ⊢
 rw [hdn] at c3 ⊢
 rw [hwi] at c4 hn2 ⊢
 rw [hnx] at c2 hn1 ⊢
 rw [hwnn] at c37 hwn ⊢
 have HV := Lib.hid hV
 clear hV q e1 e2 e3 e4 hcnt hok hJ hm hwl hz hroom hdn hwi hnx hwnn
 by_cases g1 : 0 ≤ room ∧ room ≤ 158 ∧ dn ≤ wi ∧ wi ≤ nx
 ·have d1 : decide (room < 0) = false := decide_eq_false (by omega)
  have d2 : decide ((158 : Int) < room) = false := decide_eq_false (by omega)
  have d3 : decide ((wi : Int) < (dn : Int)) = false := decide_eq_false (by omega)
  have d4 : decide ((nx : Int) < (wi : Int)) = false := decide_eq_false (by omega)
  have d3n : decide (wi < dn) = false := decide_eq_false (by omega)
  have d4n : decide (nx < wi) = false := decide_eq_false (by omega)
  by_cases g2 : (nx : Int) ≤ room
  ·have d5 : decide ((nx : Int) ≤ room) = true := decide_eq_true g2
   have e1 : (nx : Int) - (wi : Int) = ((nx - wi : Nat) : Int) := by omega
   obtain ⟨T, hT⟩ : ∃ T, T = nx - wi := ⟨_, rfl⟩
   have e2 : IntKind.u32.wrap ((nx : Int) - (wi : Int)) = (T : Int) := by rw [hT, e1, IntKind.wrap_u32]; omega
   have e3 : IntKind.i64.wrap (T : Int) = (T : Int) := IntWalk.i64_in _ (by omega)
   have e4 : ((wn : Int) == (T : Int)) = decide (wn = T) := by rw [Bool.eq_iff_iff, beq_iff_eq, decide_eq_true_iff]; omega
   have ef : decide ((0 ≤ room ∧ room ≤ 158) ∧ (dn ≤ wi ∧ wi ≤ nx) ∧ (nx : Int) ≤ room ∧ wn = nx - wi) = decide (wn = T) := by rw [hT]; apply decide_eq_decide.2; constructor <;> intro h <;> omega
   rw [ef]
   obtain ⟨R, hR⟩ : ∃ R, decide (wn = T) = R := ⟨_, rfl⟩
   rw [hR] at e4 ⊢
   clear hT ef hR e1
   go_enter Tryz.func61, Tryz.ntmps61
   go_wp2_with (rw [← HV.out])
   go_ret
   exact ⟨rfl, bV⟩
  ·have d5 : decide ((nx : Int) ≤ room) = false := decide_eq_false g2
   rw [decide_eq_false (by omega)]
   go_enter Tryz.func61, Tryz.ntmps61
   go_wp2_with (rw [← HV.out])
   go_ret
   exact ⟨rfl, bV⟩
 ·rw [decide_eq_false (by omega)]
  have hh : decide (room < 0) = true ∨ (decide (room < 0) = false ∧ decide ((158 : Int) < room) = true) ∨ (decide (room < 0) = false ∧ decide ((158 : Int) < room) = false ∧ decide ((wi : Int) < (dn : Int)) = true ∧ decide (wi < dn) = true) ∨ (decide (room < 0) = false ∧ decide ((158 : Int) < room) = false ∧ decide ((wi : Int) < (dn : Int)) = false ∧ decide (wi < dn) = false ∧ decide ((nx : Int) < (wi : Int)) = true ∧ decide (nx < wi) = true) := by
   simp only [decide_eq_true_eq, decide_eq_false_iff_not]
   omega
  clear g1
  rcases hh with d1 | ⟨d1, d2⟩ | ⟨d1, d2, d3, d3n⟩ | ⟨d1, d2, d3, d3n, d4, d4n⟩
  all_goals
   go_enter Tryz.func61, Tryz.ntmps61
   go_wp2_with (rw [← HV.out])
   go_ret
   exact ⟨rfl, bV⟩
set_option maxHeartbeats 8000000
section
variable {ops : Array Oper} {rest : List Oper} {o : Oper} {a : Act} {w : World} {Q : Exit → Act → World → Prop} {h : Nat} {m : Jm}
theorem jm_sup (hz : m.z) (hgd : o.guard = none) (z : Operand) (ho : o.op = .load 33 z) (hx : a.eval z = .pointer (some ⟨h, 41, none⟩)) (q : JmAt w h m)
  (hK : wpList Tryz.prog ops Q rest (a.put o.dst (.agg (suV m.su.g m.su.s m.su.l m.su.D))) w) : wpList Tryz.prog ops Q (o :: rest) a w :=
 wpList_load_mid hgd 33 z ho h 41 hx (suV m.su.g m.su.s m.su.l m.su.D).toList _ (q.sup hz) Tryz.underlying33 rfl (by rw [Array.length_toList]; exact suInfo _ _ _ _ hz.2) (by simpa using hK)
theorem jm_dig (hz : m.z) (hgd : o.guard = none) (z : Operand) (ho : o.op = .load 30 z) (hx : a.eval z = .pointer (some ⟨h, 5, none⟩)) (q : JmAt w h m)
  (hK : wpList Tryz.prog ops Q rest (a.put o.dst (.agg (m.ch.map vB).toArray)) w) : wpList Tryz.prog ops Q (o :: rest) a w :=
 wpList_load_mid hgd 30 z ho h 5 hx (m.ch.map vB) _ (q.dig hz) Tryz.underlying30 rfl (by rw [List.length_map, hz.1]; kernel_rfl) hK
end
set_option maxRecDepth 100000 in
theorem jrnCheck_any (P : Nat → Prop) (m : Jm) (J : Jn) (w : World) (hv : JIn P w m J) :
  Calls Tryz.prog 26 #[.agg (jmV m).toArray] w (RetV w (.bool (jnChk J))) := by
 obtain ⟨V, hV⟩ : ∃ V, V = w.alloc (.cells (jmV m).toArray 36) := ⟨_, rfl⟩
 have bV : Below w.heap.size w V := by rw [hV]; exact (below_self w).alloc (Nat.le_refl _) _
 have q : JmAt V w.heap.size m := by rw [hV]; exact drw_at _ rfl
 have hz := hv.z
 obtain ⟨hok, hm, hws, hjs⟩ := hv
 obtain ⟨us, hw⟩ := hws.now
 obtain ⟨ts, hj⟩ := hjs.now
 have hwl := hw.len
 have hjl := hj.len
 have hwn : m.wn ≤ 9223372036854775807 := by have := hw.2.2; unfold maxLen at this; omega
 have hjn : m.jn ≤ 9223372036854775807 := by have := hj.2.2; unfold maxLen at this; omega
 have C1 := Lib.hid (fun W => counts_any m J W hz hok hm hwl hwn)
 have e1 : J.slot = m.slot := by rw [← hm]; rfl
 have e2 : J.ph = m.ph := by rw [← hm]; rfl
 have e3 : J.err = m.err := by rw [← hm]; rfl
 have e4 : J.out = m.out := by rw [← hm]; rfl
 have e5 : J.su = m.su := by rw [← hm]; rfl
 have C4 := Lib.hid (fun W => suCheck_any m.su.g m.su.s m.su.l m.su.D W (by rw [← e5]; exact hok.ss) (by rw [← e5]; exact hok.sD))
 have hcnt : jnCnt J = true → m.wn ≤ 158 := fun h => by
  have h := of_decide_eq_true h
  have := h.2.2.2
  rw [hwl] at this
  have := h.1.2
  have := h.2.2.1
  omega
 have C2 := Lib.hid (fun W (hb : Below w.heap.size w W) (hn : m.jn ≤ 200) => jobs_any m.ja m.jn m.jc ts J.jobs W (hj.below hb) (by omega))
 have C3 := Lib.hid (fun W (hb : Below w.heap.size w W) (hn : m.wn ≤ 158) => jobs_any m.wa m.wn m.wc us J.wait W (hw.below hb) (by omega))
 have hchk : jnChk J = (decide (m.slot = 0 ∨ m.slot = 1) && (jnCnt J && (decide ((0 ≤ m.ph ∧ m.ph ≤ 7) ∧ (m.ph = 7 ↔ m.err ≠ 0)) && (decide ((0 ≤ m.out ∧ m.out ≤ 200) ∧ m.jn ≤ 200) && (jbOk J.jobs && (jbOk J.wait && suCheck m.su.s m.su.l)))))) := by unfold jnChk; rw [e1, e2, e3, e4, e5, hjl]
 obtain ⟨⟨_, c1, _, _, _⟩, ⟨c37, c38, c39, c40, _, _, c77⟩, _⟩ := q.cells hz
 obtain ⟨sl, hsl⟩ : ∃ r, m.slot = r := ⟨_, rfl⟩
 obtain ⟨ph, hph⟩ : ∃ r, m.ph = r := ⟨_, rfl⟩
 obtain ⟨er, her⟩ : ∃ r, m.err = r := ⟨_, rfl⟩
 obtain ⟨ou, hou⟩ : ∃ r, m.out = r := ⟨_, rfl⟩
 have hslr := hok.slot
 rw [e1, hsl] at hslr
 rw [hsl] at c1 hchk
 rw [hph] at c38 hchk
 rw [her] at c77 hchk
 rw [hou] at c40 hchk
 rw [hchk]
 obtain ⟨B2, hB2⟩ : ∃ b, jnCnt J = b := ⟨_, rfl⟩
 obtain ⟨B5, hB5⟩ : ∃ b, jbOk J.jobs = b := ⟨_, rfl⟩
 obtain ⟨B6, hB6⟩ : ∃ b, jbOk J.wait = b := ⟨_, rfl⟩
 obtain ⟨B7, hB7⟩ : ∃ b, suCheck m.su.s m.su.l = b := ⟨_, rfl⟩
 rw [hB2] at C1 hcnt ⊢
 rw [hB5] at C2 ⊢
 rw [hB6] at C3 ⊢
 rw [hB7] at C4 ⊢
 obtain ⟨R, hR⟩ : ∃ R, R = (decide (sl = 0 ∨ sl = 1) && (B2 && (decide ((0 ≤ ph ∧ ph ≤ 7) ∧ (ph = 7 ↔ er ≠ 0)) && (decide ((0 ≤ ou ∧ ou ≤ 200) ∧ m.jn ≤ 200) && (B5 && (B6 && B7)))))) := ⟨_, rfl⟩
 rw [← hR]
 have HR := Lib.hid hR
 clear hR
 have HV := Lib.hid hV
 have HQ := Lib.hid q
 have HZ := Lib.hid hz
 have HC := Lib.hid hcnt
 have HP := Lib.hid (And.intro hph (And.intro her hou))
 clear hV q hz hok hm hws hjs hw hj hwl hjl e1 e2 e3 e4 e5 hcnt hchk hsl hph her hou hB2 hB5 hB6 hB7
 by_cases g1 : sl = 0 ∨ sl = 1
 ·have e1 : sl / 2 = 0 := by rcases g1 with rfl | rfl <;> decide
  rw [decide_eq_true g1, Bool.true_and] at HR
  clear g1
  go_enter Tryz.func26, Tryz.ntmps26
  go_wp2_with (first | (rw [← HV.out]) | (refine wpList_unguard (by rfl) ?_; refine jm_load HZ.out rfl _ rfl rfl HQ.out ?_))
  refine (C1.out V).mono ?_
  rintro e w2 ⟨rfl, hb2⟩
  have Q2 := HQ.out.up hb2
  have b2 := below_then bV hb2
  obtain ⟨_, ⟨c37, c38, c39, c40, _, _, c77⟩, _⟩ := Q2.cells HZ.out
  rw [show m.ph = ph from HP.out.1] at c38
  rw [show m.err = er from HP.out.2.1] at c77
  rw [show m.out = ou from HP.out.2.2] at c40
  have q2 := Lib.hid Q2
  clear Q2
  cases B2 with
  | false =>
   go_wp2_with fail
   go_ret
   exact ⟨by rw [HR.out]; try rfl, b2⟩
  | true =>
   have hw158 := HC.out rfl
   simp only [Bool.true_and] at HR
   by_cases g2 : (0 ≤ ph ∧ ph ≤ 7) ∧ (ph = 7 ↔ er ≠ 0)
   ·rw [decide_eq_true g2, Bool.true_and] at HR
    have d1 : decide (ph < 0) = false := decide_eq_false (by omega)
    have d2 : decide (7 < ph) = false := decide_eq_false (by omega)
    by_cases g3 : (0 ≤ ou ∧ ou ≤ 200) ∧ m.jn ≤ 200
    ·rw [decide_eq_true g3, Bool.true_and] at HR
     have d3 : decide (ou < 0) = false := decide_eq_false (by omega)
     have d4 : decide (200 < ou) = false := decide_eq_false (by omega)
     have d5 : decide (200 < (m.jn : Int)) = false := decide_eq_false (by omega)
     have g5 := g3.2
     have g6 : (ph = 7 ∧ ¬ er = 0) ∨ (¬ ph = 7 ∧ er = 0) := by by_cases e : ph = 7 <;> simp_all
     clear g2 g3
     rcases g6 with ⟨p7, p0⟩ | ⟨p7, p0⟩
     all_goals
      have p7b := p7
      have p0b := p0
      clear p7b p0b
      go_wp2_with fail
      refine (C2.out w2 b2 g5).mono ?_
      rintro e w3 ⟨rfl, hb3⟩
      have b3 := below_then b2 hb3
      have Q3 := q2.out.up hb3
      obtain ⟨_, ⟨c37, c38, c39, c40, _, _, c77⟩, _⟩ := Q3.cells HZ.out
      clear Q3
      have q3 := Lib.hid (q2.out.up hb3)
      cases B5 with
      | false =>
       go_wp2_with fail
       go_ret
       exact ⟨by rw [HR.out]; try rfl, b3⟩
      | true =>
       simp only [Bool.true_and] at HR
       go_wp2_with fail
       refine (C3.out w3 b3 hw158).mono ?_
       rintro e w4 ⟨rfl, hb4⟩
       have b4 := below_then b3 hb4
       have q4 := Lib.hid (q3.out.up hb4)
       cases B6 with
       | false =>
        go_wp2_with fail
        go_ret
        exact ⟨by rw [HR.out]; try rfl, b4⟩
       | true =>
        simp only [Bool.true_and] at HR
        go_wp2_with (refine wpList_unguard (by rfl) ?_; refine jm_sup HZ.out rfl _ rfl rfl q4.out ?_)
        refine (C4.out w4).mono ?_
        rintro e w5 ⟨rfl, hb5⟩
        go_wp2_with fail
        go_ret
        exact ⟨by rw [HR.out]; try rfl, below_then b4 hb5⟩
    ·rw [decide_eq_false g3, Bool.false_and] at HR
     have g6 : (ph = 7 ∧ ¬ er = 0) ∨ (¬ ph = 7 ∧ er = 0) := by by_cases e : ph = 7 <;> simp_all
     have g7 : decide (ou < 0) = true ∨ (decide (ou < 0) = false ∧ decide (200 < ou) = true) ∨ (decide (ou < 0) = false ∧ decide (200 < ou) = false ∧ decide (200 < (m.jn : Int)) = true) := by
      simp only [decide_eq_true_eq, decide_eq_false_iff_not]
      omega
     clear g2 g3
     rcases g6 with ⟨p7, p0⟩ | ⟨p7, p0⟩
     all_goals
      rcases g7 with d3 | ⟨d3, d4⟩ | ⟨d3, d4, d5⟩
      all_goals
       go_wp2_with fail
       go_ret
       exact ⟨by rw [HR.out]; try rfl, b2⟩
   ·rw [decide_eq_false g2, Bool.false_and] at HR
    have g7 : decide (ph < 0) = true ∨ (decide (ph < 0) = false ∧ decide (7 < ph) = true) ∨ (decide (ph < 0) = false ∧ decide (7 < ph) = false ∧ ph = 7 ∧ er = 0) ∨ (decide (ph < 0) = false ∧ decide (7 < ph) = false ∧ ¬ ph = 7 ∧ ¬ er = 0) := by
     simp only [decide_eq_true_eq, decide_eq_false_iff_not]
     by_cases e : er = 0 <;> by_cases e2 : ph = 7 <;> simp_all <;> omega
    clear g2
    rcases g7 with d1 | ⟨d1, d2⟩ | ⟨d1, d2, p7, p0⟩ | ⟨d1, d2, p7, p0⟩
    rotate_left 3
    ·have pb : ((ph == 7) == (er == 0)) = true := by rw [beq_eq_false_iff_ne.2 p7, beq_eq_false_iff_ne.2 p0]; rfl
     go_wp2_with fail
     go_ret
     exact ⟨by rw [HR.out]; try rfl, b2⟩
    all_goals
     go_wp2_with fail
     go_ret
     exact ⟨by rw [HR.out]; try rfl, b2⟩
 ·have e1 : ¬ sl / 2 = 0 := by omega
  rw [decide_eq_false g1, Bool.false_and] at HR
  go_enter Tryz.func26, Tryz.ntmps26
  go_wp2_with (rw [← HV.out])
  go_ret
  exact ⟨by rw [HR.out]; try rfl, bV⟩
theorem jrnGoing_any (P : Nat → Prop) (m : Jm) (J : Jn) (w : World) (hv : JIn P w m J) :
  Calls Tryz.prog 48 #[.agg (jmV m).toArray] w (RetV w (.int .i64 (jnGoing J))) := by
 obtain ⟨V, hV⟩ : ∃ V, V = w.alloc (.cells (jmV m).toArray 36) := ⟨_, rfl⟩
 have bV : Below w.heap.size w V := by rw [hV]; exact (below_self w).alloc (Nat.le_refl _) _
 have q : JmAt V w.heap.size m := by rw [hV]; exact drw_at _ rfl
 have hz := hv.z
 have C := Lib.hid (jrnCheck_any P m J V (hv.below bV))
 have e3 : J.err = m.err := by rw [← hv.2.1]; rfl
 have hE : jnGoing J = if jnChk J = true then m.err else 3 := by unfold jnGoing; rw [e3]
 rw [hE]
 obtain ⟨B, hB⟩ : ∃ b, jnChk J = b := ⟨_, rfl⟩
 rw [hB] at C ⊢
 have HV := Lib.hid hV
 have HQ := Lib.hid q
 have HZ := Lib.hid hz
 clear hV q hz hv e3 hE hB
 cases B with
 | true =>
  go_enter Tryz.func48, Tryz.ntmps48
  go_wp2_with (first | (rw [← HV.out]) | (refine jm_load HZ.out rfl _ rfl rfl HQ.out ?_))
  refine C.out.mono ?_
  rintro e w2 ⟨rfl, hb2⟩
  have c77 := (HQ.out.up hb2).c77 HZ.out
  go_wp2_with fail
  go_ret
  exact ⟨rfl, below_then bV hb2⟩
 | false =>
  go_enter Tryz.func48, Tryz.ntmps48
  go_wp2_with (first | (rw [← HV.out]) | (refine jm_load HZ.out rfl _ rfl rfl HQ.out ?_))
  refine C.out.mono ?_
  rintro e w2 ⟨rfl, hb2⟩
  go_wp2_with fail
  go_ret
  exact ⟨rfl, below_then bV hb2⟩
end Go.Proofs.YtpahicfnhhhifaaGreat
