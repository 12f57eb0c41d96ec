/-
 Proved here, for the statement JournalTells:
 Layer 13: Get of the package.
 Layer 14: journals in memory.
-/
import Derived.Deep.MidRow
import Derived.Test.YtpahicfnhhhifaaGreatGt06
set_option linter.unusedVariables false
set_option linter.unusedSimpArgs false
namespace Go.Proofs.YtpahicfnhhhifaaGreat
set_option maxRecDepth 20000
open Go.RowKit
set_option maxHeartbeats 8000000
def RetSu (w : World) (x : Su) (er : Int) (e : Ending) (w' : World) : Prop := e = .returned (.tuple #[.agg x.v, .int .i64 er]) ∧ Below w.heap.size w w'
theorem beq_any (A1 A2 : Option Addr) (n c m d : Nat) (xs ys : List UInt8) (w : World) (h1 : RdB w A1 n c xs) (h2 : RdB w A2 m d ys) :
  Calls Tryz.prog 147 #[.slice A1 n c, .slice A2 m d] w fun e w' => e = .returned (.bool (decide (xs = ys))) ∧ w = w' := by
 have k1 := h1.str
 have k2 := h2.str
 have k3 := strOf_eq xs ys
 go_enter Tryz.func147, Tryz.ntmps147
 go_wp2
 go_ret
 exact ⟨rfl, rfl⟩
theorem suZ_v : suZ.v = #[.int .u32 0, .int .i64 0, .int .i64 0, .int .u8 0, .int .u8 0, .int .u8 0, .int .u8 0, .int .u8 0, .int .u8 0, .int .u8 0, .int .u8 0, .int .u8 0, .int .u8 0, .int .u8 0, .int .u8 0, .int .u8 0, .int .u8 0, .int .u8 0, .int .u8 0, .int .u8 0, .int .u8 0, .int .u8 0, .int .u8 0, .int .u8 0, .int .u8 0, .int .u8 0, .int .u8 0, .int .u8 0, .int .u8 0, .int .u8 0, .int .u8 0, .int .u8 0, .int .u8 0, .int .u8 0, .int .u8 0] := by rfl
theorem built_su (g : Nat) (s l : Int) (D : List UInt8) (hD : D.length = 32) : Tryz.prog.built 33 [(0, .int .u32 g), (2, .int .i64 l), (1, .int .i64 s), (3, .agg (D.map vB).toArray)] = some (suV g s l D) := by
 match D, hD with
 | [d0, d1, d2, d3, d4, d5, d6, d7, d8, d9, d10, d11, d12, d13, d14, d15, d16, d17, d18, d19, d20, d21, d22, d23, d24, d25, d26, d27, d28, d29, d30, d31], _ =>
  show Tryz.prog.built _ _ = some _
  kernel_rfl
theorem build_su (w : World) (g : Nat) (s l : Int) (D : List UInt8) (hD : D.length = 32) : (Instr.build 33 #[(0, .int .u32 g), (2, .int .i64 l), (1, .int .i64 s), (3, .agg (D.map vB).toArray)]).run Tryz.prog w = .ok (.agg (suV g s l D)) w :=
 run_build w _ _ _ (built_su g s l D hD)
theorem load_dig {w : World} {b o n c : Nat} {D : List UInt8} (hr : RdB w (some ⟨b, o, none⟩) n c D) (hD : D.length = 32) : (loadVar 30 ⟨b, o, none⟩).run Tryz.prog w = .ok (.agg (D.map vB).toArray) w := by
 have hl : (loadCells ⟨b, o, none⟩ (D.map vB).length).run Tryz.prog w = .ok (D.map vB).toArray w :=
  run_loadCells_list (P := Tryz.prog) w ⟨b, o, none⟩ (D.map vB) (fun j v hv => by
   rcases hr.1 with h | ⟨b', o', he, _, hc⟩
   ·rw [h] at hv; simp at hv
   ·injection he with he
    injection he with e1 e2
    subst e1 e2
    rw [Addr.add_lit]
    exact hc j v hv)
 have hq : ∃ i, Tryz.prog.info? 30 = some i ∧ i.size = 32 := by
  have : (Tryz.prog.info? 30).map (·.size) = some 32 := by kernel_rfl
  cases hq : Tryz.prog.info? 30 with
  | none => rw [hq] at this; cases this
  | some i => rw [hq] at this; exact ⟨i, rfl, by simpa using this⟩
 obtain ⟨i, hi, hs⟩ := hq
 have hagg : (isAgg 30).run Tryz.prog w = .ok true w := by
  unfold isAgg
  rw [Sem.run_bind, run_underlying Tryz.underlying30 w]
  rfl
 rw [List.length_map, hD] at hl
 simp [loadVar, Sem.run_bind, hagg, sizeOf, typeInfo, hi, hs, hl]
theorem arr_dig (w : World) (A : Option Addr) (c : Nat) : (Instr.arrayAt 30 (.slice A 32 c)).run Tryz.prog w = .ok (.pointer A) w := by
 simp [Instr.arrayAt, run_underlying Tryz.underlying30]
theorem ex_load {P : Program} {o : Oper} {a : Act} {w : World} {ty : TypeId} {x : Operand} {p : Addr} {v : Value} (ho : o.op = .load ty x) (hx : a.eval x = .pointer (some p)) (hl : (loadVar ty p).run P w = .ok v w) : (execOp a.eval o).run P w = .ok (.value v) w := by
 unfold execOp
 simp only [ho, hx, Instr.loadAt, Instr.sureAddr, Sem.run_bind, Sem.run_pure, Result.andThen_ok, hl]
theorem ex_build {P : Program} {o : Oper} {a : Act} {w : World} {ty : TypeId} {parts : Array (Nat × Operand)} {v : Value} (ho : o.op = .build ty parts) (vals : Array (Nat × Value)) (hv : (parts.toList.map fun p => (p.1, a.eval p.2)) = vals.toList) (hl : (Instr.build ty vals).run P w = .ok v w) : (execOp a.eval o).run P w = .ok (.value v) w := by
 have hv2 : (parts.map fun p => (p.1, a.eval p.2)) = vals := by
  rw [← Array.toList_inj, Array.toList_map]; exact hv
 subst hv2
 unfold execOp
 simp only [ho, Sem.run_bind, Sem.run_pure, Result.andThen_ok, hl]
theorem suV_one (g : Nat) (s l : Int) (D : List UInt8) : (suV g s l D).all (·.oneCell') = true := by
 simp [suV, Value.oneCell', vB]
theorem results_row_tmp {P : Program} {fn : Func} {p q : Tmp} {ty : TypeId} (h : fn.results = #[.cell p ty, .tmp q]) (tmps : Array Value) (w : World) (g : Nat) (t : TypeId) (cs : Array Value) (fr : Nat × Nat) (d : TypeDesc)
  (hp : tmps.getD p undef = .pointer (some ⟨g, 0, none⟩)) (hg : w.heap[g]? = some (.cells cs t fr))
  (hu : P.underlying ty = some d) (hd : (match d with | .struct _ | .array _ _ => true | _ => false) = true) (hi : (P.info? ty).map (·.size) = some cs.size) :
  (results fn tmps).run P w = .ok (.tuple #[.agg cs, tmps.getD q undef]) w := by
 have hp' : tmps[p]?.getD undef = .pointer (some ⟨g, 0, none⟩) := by simpa using hp
 simp [results, h, hp', asAddr, run_loadVar_row w g t ty cs fr d hg hu hd hi]
theorem Su.info (x : Su) (hD : x.D.length = 32) : (Tryz.prog.info? 33).map (·.size) = some x.v.size := suInfo _ _ _ _ hD
theorem suZ_len : suZ.D.length = 32 := rfl
theorem suGet_early (A : Option Addr) (n c : Nat) (xs : List UInt8) (w : World) (hr : RdB w A n c xs) (h : n ≠ 256) :
  Calls Tryz.prog 115 #[.slice A n c] w (RetSu w suZ 2) := by
 have hn := hr.n63
 have d1 : ((n : Int) != 256) = true := by rw [bne_iff_ne]; omega
 go_enter Tryz.func115, Tryz.ntmps115
 have hrow : (w.alloc (.cells zz1 33)).heap[w.heap.size]? = some (.cells suZ.v 33 (0, 0)) := by rw [suZ_v]; exact row1 ..
 have HR := Lib.hid hrow
 clear hrow h
 go_wp2_with (refine wpList_store_row rfl 33 _ _ rfl w.heap.size suZ.v rfl rfl 33 suZ.v HR.out (suZ.info suZ_len) rfl (suV_one ..) ?_)
 refine bodyPost_ret (results_row_tmp Tryz.results115 _ _ w.heap.size 33 suZ.v (0, 0) _ rfl (setRow_heap _ _ _ suZ.v _ _ HR.out) Tryz.underlying33 rfl (suZ.info suZ_len)) rfl ?_
 exact ⟨rfl, below_setRow ((below_self w).alloc (Nat.le_refl _) _) (Nat.le_refl _) _⟩
theorem suGet_sum (A : Option Addr) (c : Nat) (xs : List UInt8) (w : World) (hr : RdB w A 256 c xs) (h : crcHolds xs = false) :
  Calls Tryz.prog 115 #[.slice A 256 c] w (RetSu w suZ 6) := by
 have d1 : ((256 : Int) != 256) = false := by decide
 have H := Lib.hid h
 clear h
 go_enter Tryz.func115, Tryz.ntmps115
 go_wp2_with fail
 refine named ?_
 intro W hW
 have bW : Below w.heap.size w W := by rw [hW]; repeat' (first | exact Below.refl _ _ | (refine Below.alloc ?_ ?_ _; rotate_left; (simp <;> omega)) | refine Below.drew ?_)
 have zW := bW.size
 have HW := Lib.hid hW
 clear hW
 have xW : w.heap.size < W.heap.size := by rw [HW.out]; simp
 have hrow : W.heap[w.heap.size]? = some (.cells suZ.v 33 (0, 0)) := by rw [HW.out, suZ_v]; exact row1 ..
 have hh := holds_any A 256 c xs W (hr.below bW) (by omega)
 rw [H.out] at hh
 refine hh.mono ?_
 clear hh
 rintro e w1 ⟨rfl, hb1⟩
 have hrow1 := (hb1.block _ xW).trans hrow
 go_wp2_with (refine wpList_store_row rfl 33 _ _ rfl w.heap.size suZ.v rfl rfl 33 suZ.v hrow1 (suZ.info suZ_len) rfl (suV_one ..) ?_)
 refine bodyPost_ret (results_row_tmp Tryz.results115 _ _ w.heap.size 33 suZ.v (0, 0) _ rfl (setRow_heap _ _ _ suZ.v _ _ hrow1) Tryz.underlying33 rfl (suZ.info suZ_len)) rfl ?_
 exact ⟨rfl, below_setRow (below_then bW hb1) (Nat.le_refl _) _⟩
theorem fromLe_part (xs : List UInt8) (k : Nat) : fromLe ((xs.drop k).take 4) = lev ((xs.drop k).take 4) := by
 unfold fromLe; rw [List.take_take]; rfl
theorem Su.row (x : Su) : x.v = suV x.g x.s x.l x.D := rfl
theorem suGet_main (A : Option Addr) (c : Nat) (xs : List UInt8) (w : World) (hr : RdB w A 256 c xs) (h : crcHolds xs = true) :
  Calls Tryz.prog 115 #[.slice A 256 c] w (RetSu w (suGet xs) (suGetE xs)) := by
 have d1 : ((256 : Int) != 256) = false := by decide
 have hlen := hr.2.1
 have hc := hr.2.2.1
 have hc63 := hr.c63
 obtain ⟨b, o, u, rfl, hbl, _⟩ := hr.at_ 0 (by omega)
 have hcut : ∀ k j, k + j ≤ 256 → k < 256 → RdB w (some ⟨b, o + k, none⟩) j (c - k) ((xs.drop k).take j) := fun k j hkj hk => (hr.cutS k (256 - k) (by omega) (by omega)).take j (by omega)
 have r4 := hcut 4 4 (by omega) (by omega)
 have r8 := hcut 8 4 (by omega) (by omega)
 have r13 := hcut 13 32 (by omega) (by omega)
 have c12 := hr.cellS 12 (by omega)
 obtain ⟨b1, ⟨b2, b3⟩, ⟨b4, b5⟩, b6⟩ := suOf_bounds xs hlen
 obtain ⟨G, hG⟩ : ∃ G, lev ((xs.drop 4).take 4) = G := ⟨_, rfl⟩
 obtain ⟨L, hL⟩ : ∃ G, lev ((xs.drop 8).take 4) = G := ⟨_, rfl⟩
 obtain ⟨S, hS⟩ : ∃ G, (xs.getD 12 0).toNat = G := ⟨_, rfl⟩
 obtain ⟨D, hD⟩ : ∃ G, (xs.drop 13).take 32 = G := ⟨_, rfl⟩
 have hX : suOf xs = ⟨G, S, L, D⟩ := by unfold suOf; rw [hG, hL, hS, hD]
 rw [hX] at b1 b2 b3 b4 b5 b6
 simp only at b1 b2 b3 b4 b5 b6
 have hE : suGetE xs = if suCheck S L = true ∧ suPutL G S L D = xs then 0 else 3 := by
  unfold suGetE; rw [if_neg (by simp [hlen]), if_neg (by simp [h]), hX]
 have hGt : suGet xs = if suGetE xs = 0 then ⟨G, S, L, D⟩ else suZ := by unfold suGet; rw [hX]
 have f4 := fromLe_part xs 4
 have f8 := fromLe_part xs 8
 rw [hG] at f4
 rw [hL] at f8
 rw [hD] at r13
 rw [hS] at c12
 have F4 := Lib.hid f4
 have F8 := Lib.hid f8
 have wG : IntKind.u32.wrap (G : Int) = G := by rw [IntKind.wrap_u32]; omega
 have wL := wi64n (k := L) (by omega)
 have cb4 : ¬ (c = 4) := by omega
 have cb8 : ¬ (c = 8) := by omega
 have cb13 : ¬ (c = 13) := by omega
 have ci8 : (8 : Int) ≤ (c : Int) := by omega
 have ci12 : (12 : Int) ≤ (c : Int) := by omega
 have ci45 : (45 : Int) ≤ (c : Int) := by omega
 have H := Lib.hid h
 have HE := Lib.hid hE
 have HGt := Lib.hid hGt
 have HD := Lib.hid b6
 have HS9 := Lib.hid hlen
 have hSz : (S : Int) < 256 := by omega
 clear h hE hGt f4 f8 hX hG hL hS hD b6 hlen hcut
 have wS := wi64n (k := S) (by omega)
 have ka := arr_dig
 go_enter Tryz.func115, Tryz.ntmps115
 go_wp2_with fail
 refine named ?_
 intro W0 hW0
 have bW0 : Below w.heap.size w W0 := by rw [hW0]; repeat' (first | exact Below.refl _ _ | (refine Below.alloc ?_ ?_ _; rotate_left; (simp <;> omega)) | refine Below.drew ?_)
 have zW0 := bW0.size
 have HW0 := Lib.hid hW0
 clear hW0
 have xW : w.heap.size < W0.heap.size := by rw [HW0.out]; simp
 have hrow0 : W0.heap[w.heap.size]? = some (.cells suZ.v 33 (0, 0)) := by rw [HW0.out, suZ_v]; exact row1 ..
 have hh := holds_any _ 256 c xs W0 (hr.below bW0) (by omega)
 rw [H.out] at hh
 refine hh.mono ?_
 clear hh
 rintro e W ⟨rfl, hb1⟩
 have bW := below_then bW0 hb1
 have hrow := (hb1.block _ xW).trans hrow0
 have xW1 : w.heap.size < W.heap.size := Nat.lt_of_lt_of_le xW hb1.size
 have HROW := Lib.hid hrow
 clear hrow hrow0
 have j12 := (bW.cell (p := ⟨b, o + 12, none⟩) hbl).trans c12
 have q4 := r4.below bW
 have q8 := r8.below bW
 have q13 := r13.below bW
 have hbW : b < W.heap.size := by omega
 clear r4 r8 r13 c12
 go_wp2_with fail
 refine wp_region_seg (S := fun w' => Below W.heap.size W w') 0 (brw9 19 524287) [(0, true), (1, true), (2, true), (3, true), (4, true), (5, true), (6, true), (7, true), (8, true), (9, true), (10, true), (11, true), (12, true), (13, true), (14, true), (15, true), (16, true), (17, false), (18, false)] (by kernel_rfl) (by kernel_rfl) (fun _ _ d _ _ h => by first | (cases d <;> exact h) | cases h.1) ((Below.refl W.heap.size W).drew) ?_
 have HB := (Below.refl W.heap.size W).drew
 iterate 2 (refine seg_take (v := ?_) rfl (Or.inl ⟨by rfl, ?_⟩) ?_; rotate_left; (focus (intro w' hw'; have jj := (hw'.cell (p := ⟨b, o + 12, none⟩) hbW).trans j12; go_simp <;> with_reducible rfl)); try simp only [Act.put, pst3])
 refine seg_pure (v := .int .u64 (G : Int)) (f := ?_) (args := ?_) rfl (by rfl) (fun w' hw' => ?_) (fun w' hw' => ?_) ?_
 rotate_left 2
 focus (have jj := (hw'.cell (p := ⟨b, o + 12, none⟩) hbW).trans j12; go_simp <;> first | (refine ⟨?_, ?_⟩ <;> with_reducible rfl) | with_reducible rfl)
 focus (exact (F4.out ▸ fromLe_any _ _ _ _ w' (q4.below hw')))
 try simp only [Act.put, pst3]
 iterate 3 (refine seg_take (v := ?_) rfl (Or.inl ⟨by rfl, ?_⟩) ?_; rotate_left; (focus (intro w' hw'; have jj := (hw'.cell (p := ⟨b, o + 12, none⟩) hbW).trans j12; go_simp <;> with_reducible rfl)); try simp only [Act.put, pst3])
 refine seg_pure (v := .int .u64 (L : Int)) (f := ?_) (args := ?_) rfl (by rfl) (fun w' hw' => ?_) (fun w' hw' => ?_) ?_
 rotate_left 2
 focus (have jj := (hw'.cell (p := ⟨b, o + 12, none⟩) hbW).trans j12; go_simp <;> first | (refine ⟨?_, ?_⟩ <;> with_reducible rfl) | with_reducible rfl)
 focus (exact (F8.out ▸ fromLe_any _ _ _ _ w' (q8.below hw')))
 try simp only [Act.put, pst3]
 iterate 8 (refine seg_take (v := ?_) rfl (Or.inl ⟨by rfl, ?_⟩) ?_; rotate_left; (focus (intro w' hw'; have jj := (hw'.cell (p := ⟨b, o + 12, none⟩) hbW).trans j12; go_simp <;> with_reducible rfl)); try simp only [Act.put, pst3])
 refine seg_take (v := .agg (D.map vB).toArray) rfl (Or.inl ⟨by rfl, fun w' hw' => ?_⟩) ?_
 focus (exact ex_load rfl rfl (load_dig (q13.below hw') HD.out))
 try simp only [Act.put, pst3]
 refine seg_take (v := .agg (suV G S L D)) rfl (Or.inl ⟨by rfl, fun w' hw' => ?_⟩) ?_
 focus (exact ex_build rfl #[(0, .int .u32 (G : Int)), (2, .int .i64 (L : Int)), (1, .int .i64 (S : Int)), (3, .agg (D.map vB).toArray)] rfl (build_su w' G S L D HD.out))
 try simp only [Act.put, pst3]
 refine seg_run rfl (fun K hK => ?_)
 rw [if_pos (by rfl)]
 refine op_new #[.int .u32 0, .int .i64 0, .int .i64 0, .int .u8 0, .int .u8 0, .int .u8 0, .int .u8 0, .int .u8 0, .int .u8 0, .int .u8 0, .int .u8 0, .int .u8 0, .int .u8 0, .int .u8 0, .int .u8 0, .int .u8 0, .int .u8 0, .int .u8 0, .int .u8 0, .int .u8 0, .int .u8 0, .int .u8 0, .int .u8 0, .int .u8 0, .int .u8 0, .int .u8 0, .int .u8 0, .int .u8 0, .int .u8 0, .int .u8 0, .int .u8 0, .int .u8 0, .int .u8 0, .int .u8 0, .int .u8 0] 33 (fun w => by go_simp) ?_
 intro gL wL eL hL HBl hLsz
 have HB0 := HB.size
 have HB := below_then HB HBl
 refine hK.out _ _ (HB) ?_
 clear hK
 try simp only [Act.put, pst3]
 refine seg_run rfl (fun K hK => ?_)
 rw [if_pos (by rfl)]
 have hLW : W.heap.size ≤ gL := by omega
 refine wp_store_row _ _ _ rfl gL (suV G S L D) rfl rfl _ _ hL (suInfo _ _ _ _ HD.out) (by rw [suVn, HD.out]; rfl) (suV_one ..) ?_
 have HB := below_setRow HB hLW (suV G S L D)
 refine hK.out _ _ (HB) ?_
 clear hK
 try simp only [Act.put, pst3]
 refine seg_done (fun _ => ?_)
 refine wpAnyH_done (by kernel_rfl) ?_ _
 have hrowL := setRow_heap _ gL _ (suV G S L D) _ _ hL
 have xL : gL < (wL.setRow gL (suV G S L D)).heap.size := by simp; omega
 obtain ⟨V, hV⟩ : ∃ V, V = wL.setRow gL (suV G S L D) := ⟨_, rfl⟩
 rw [← hV] at hrowL xL HB ⊢
 clear hV hL HBl hLsz HB0
 have bV := below_then bW HB
 have zV := HB.size
 have hrowR := (HB.block _ xW1).trans HROW.out
 have hge := HE.out
 have hgt := HGt.out
 have HRL := Lib.hid hrowL
 have HRR := Lib.hid hrowR
 clear hrowL hrowR q4 q8 q13 j12
 cases hsc : suCheck S L with
 | false =>
  rw [if_neg (by simp [hsc])] at hge
  rw [if_neg (by rw [hge]; decide)] at hgt
  have HGE2 := Lib.hid hge
  have HGT2 := Lib.hid hgt
  have hh := suPut_any G S L D V b1 (by omega) HD.out
  unfold suPutE suPutL at hh
  rw [if_neg (by simp [hsc]), if_neg (by simp [hsc])] at hh
  have HH := Lib.hid hh
  clear hge hgt hsc hh
  go_wp2_with (refine wpList_load_row rfl 33 _ rfl gL rfl 33 (suV G S L D) (0, 0) _ HRL.out Tryz.underlying33 rfl (suInfo G S L D HD.out) ?_)
  refine HH.out.mono ?_
  rintro e w5 ⟨A5, n5, c5, rfl, ho5, hb5⟩
  have hrow5 := (hb5.block _ (by omega)).trans HRR.out
  go_wp2_with (refine wpList_store_row rfl 33 _ _ rfl w.heap.size suZ.v rfl rfl 33 suZ.v hrow5 (suZ.info suZ_len) rfl (suV_one ..) ?_)
  refine bodyPost_ret (results_row_tmp Tryz.results115 _ _ w.heap.size 33 suZ.v (0, 0) _ rfl (setRow_heap _ _ _ suZ.v _ _ hrow5) Tryz.underlying33 rfl (suZ.info suZ_len)) rfl ?_
  exact ⟨by rw [HGT2.out, HGE2.out]; rfl, below_setRow (below_then bV hb5) (Nat.le_refl _) _⟩
 | true =>
  have hh := suPut_any G S L D V b1 (by omega) HD.out
  unfold suPutE at hh
  rw [if_pos hsc] at hh
  obtain ⟨P, hP⟩ : ∃ P, suPutL G S L D = P := ⟨suPutL G S L D, rfl⟩
  rw [hP] at hh hge
  have HH := Lib.hid hh
  have HP := Lib.hid hP
  by_cases heq : P = xs
  ·rw [if_pos ⟨hsc, heq⟩] at hge
   rw [if_pos hge] at hgt
   have HGE2 := Lib.hid hge
   have HGT2 := Lib.hid hgt
   have HQ := Lib.hid heq
   clear hge hgt hsc hh hP heq
   go_wp2_with (refine wpList_load_row rfl 33 _ rfl gL rfl 33 (suV G S L D) (0, 0) _ HRL.out Tryz.underlying33 rfl (suInfo G S L D HD.out) ?_)
   refine HH.out.mono ?_
   rintro e w5 ⟨A5, n5, c5, rfl, ho5, hb5⟩
   have hrow5 := (hb5.block _ (by omega)).trans HRR.out
   have hrowL5 := (hb5.block _ xL).trans HRL.out
   have B5 := below_then bV hb5
   have HR5 := Lib.hid hrow5
   have HL5 := Lib.hid hrowL5
   clear hrow5 hrowL5
   go_wp2_with fail
   have hh := beq_any _ _ _ _ _ _ P xs w5 ho5.rd (hr.below B5)
   rw [decide_eq_true HQ.out] at hh
   refine hh.mono ?_
   clear hh
   rintro e w6 ⟨rfl, rfl⟩
   go_wp2_with (first
    | (refine wpList_load_row rfl 33 _ rfl gL rfl 33 (suV G S L D) (0, 0) _ HL5.out Tryz.underlying33 rfl (suInfo G S L D HD.out) ?_)
    | (refine wpList_store_row rfl 33 _ _ rfl w.heap.size (suV G S L D) rfl rfl 33 suZ.v HR5.out (suInfo G S L D HD.out) (by rw [suVn, HD.out]; rfl) (suV_one ..) ?_))
   refine bodyPost_ret (results_row_tmp Tryz.results115 _ _ w.heap.size 33 (suV G S L D) (0, 0) _ rfl (setRow_heap _ _ _ (suV G S L D) _ _ HR5.out) Tryz.underlying33 rfl (suInfo G S L D HD.out)) rfl ?_
   exact ⟨by rw [HGT2.out, HGE2.out]; rfl, below_setRow B5 (Nat.le_refl _) _⟩
  ·rw [if_neg (fun h => heq h.2)] at hge
   rw [if_neg (by rw [hge]; decide)] at hgt
   have HGE2 := Lib.hid hge
   have HGT2 := Lib.hid hgt
   have HQ := Lib.hid heq
   clear hge hgt hsc hh hP heq
   go_wp2_with (refine wpList_load_row rfl 33 _ rfl gL rfl 33 (suV G S L D) (0, 0) _ HRL.out Tryz.underlying33 rfl (suInfo G S L D HD.out) ?_)
   refine HH.out.mono ?_
   rintro e w5 ⟨A5, n5, c5, rfl, ho5, hb5⟩
   have hrow5 := (hb5.block _ (by omega)).trans HRR.out
   have B5 := below_then bV hb5
   have HR5 := Lib.hid hrow5
   clear hrow5
   go_wp2_with fail
   have hh := beq_any _ _ _ _ _ _ P xs w5 ho5.rd (hr.below B5)
   rw [decide_eq_false HQ.out] at hh
   refine hh.mono ?_
   clear hh
   rintro e w6 ⟨rfl, rfl⟩
   go_wp2_with (refine wpList_store_row rfl 33 _ _ rfl w.heap.size suZ.v rfl rfl 33 suZ.v HR5.out (suZ.info suZ_len) rfl (suV_one ..) ?_)
   refine bodyPost_ret (results_row_tmp Tryz.results115 _ _ w.heap.size 33 suZ.v (0, 0) _ rfl (setRow_heap _ _ _ suZ.v _ _ HR5.out) Tryz.underlying33 rfl (suZ.info suZ_len)) rfl ?_
   exact ⟨by rw [HGT2.out, HGE2.out]; rfl, below_setRow B5 (Nat.le_refl _) _⟩
theorem suGet_any (A : Option Addr) (n c : Nat) (xs : List UInt8) (w : World) (hr : RdB w A n c xs) :
  Calls Tryz.prog 115 #[.slice A n c] w (RetSu w (suGet xs) (suGetE xs)) := by
 by_cases h : n = 256
 ·subst h
  cases hh : crcHolds xs with
  | true => exact suGet_main A c xs w hr hh
  | false =>
   have e : suGetE xs = 6 := by unfold suGetE; rw [if_neg (by simp [hr.2.1]), if_pos hh]
   have e2 : suGet xs = suZ := by unfold suGet; rw [if_neg (by rw [e]; decide)]
   rw [e, e2]
   exact suGet_sum A c xs w hr hh
 ·have e : suGetE xs = 2 := by unfold suGetE; rw [if_pos (by rw [hr.2.1]; exact h)]
  have e2 : suGet xs = suZ := by unfold suGet; rw [if_neg (by rw [e]; decide)]
  rw [e, e2]
  exact suGet_early A n c xs w hr h
set_option maxHeartbeats 4000000
def AgrP (P : Nat → Prop) (w W : World) : Prop := w.heap.size ≤ W.heap.size ∧ ∀ j, j < w.heap.size → ¬ P j → W.heap[j]? = w.heap[j]?
section
variable {P P' : Nat → Prop} {w w' W : World}
theorem AgrP.refl (P : Nat → Prop) (w : World) : AgrP P w w := ⟨Nat.le_refl _, fun _ _ _ => rfl⟩
theorem AgrP.of (h : AgrP P w' W) (hb : Below w.heap.size w w') : AgrP P w W := ⟨Nat.le_trans hb.size h.1, fun j hj hP => (h.2 j (Nat.lt_of_lt_of_le hj hb.size) hP).trans (hb.block j hj)⟩
theorem AgrP.more (h : AgrP P' w' W) (hb : Below w.heap.size w w') (hs : ∀ j, P' j → P j ∨ w.heap.size ≤ j) : AgrP P w W :=
 ⟨Nat.le_trans hb.size h.1, fun j hj hn => (h.2 j (Nat.lt_of_lt_of_le hj hb.size) (fun hp => by rcases hs j hp with q | q; exact hn q; omega)).trans (hb.block j hj)⟩
theorem rd_agr {P : Nat → Prop} {w W : World} {A : Option Addr} {vs : List Value} (h : Rd w A vs) (ha : AgrP P w W) (hA : ∀ a, A = some a → ¬ P a.block) : Rd W A vs := by
 rcases h with rfl | ⟨b, o, rfl, hb, hc⟩
 ·exact .inl rfl
 ·exact .inr ⟨b, o, rfl, Nat.lt_of_lt_of_le hb ha.1, fun i v hv => (World.cell?_of_block (w := w) (w' := W) (a := ⟨b, o + i, none⟩) (ha.2 b hb (hA _ rfl))).trans (hc i v hv)⟩
def BIn (P : Nat → Prop) (w : World) (A : Option Addr) (n c : Nat) (xs : List UInt8) : Prop := ∀ W, AgrP P w W → RdB W A n c xs
def WsIn (P : Nat → Prop) (w : World) (A : Option Addr) (n c : Nat) (l : List (Int × List UInt8)) : Prop := ∃ us, ∀ W, AgrP P w W → RdWs W A n c us l
theorem BIn.now {A : Option Addr} {n c : Nat} {xs : List UInt8} (h : BIn P w A n c xs) : RdB w A n c xs := h w (AgrP.refl _ _)
theorem WsIn.now {A : Option Addr} {n c : Nat} {l : List (Int × List UInt8)} (h : WsIn P w A n c l) : ∃ us, RdWs w A n c us l := by obtain ⟨us, h⟩ := h; exact ⟨us, h w (AgrP.refl _ _)⟩
theorem BIn.below {A : Option Addr} {n c : Nat} {xs : List UInt8} (h : BIn P w A n c xs) (hb : Below w.heap.size w w') : BIn P w' A n c xs := fun W hW => h W (hW.of hb)
theorem WsIn.below {A : Option Addr} {n c : Nat} {l : List (Int × List UInt8)} (h : WsIn P w A n c l) (hb : Below w.heap.size w w') : WsIn P w' A n c l := by obtain ⟨us, h⟩ := h; exact ⟨us, fun W hW => h W (hW.of hb)⟩
theorem BIn.more {A : Option Addr} {n c : Nat} {xs : List UInt8} (h : BIn P w A n c xs) (hb : Below w.heap.size w w') (hs : ∀ j, P' j → P j ∨ w.heap.size ≤ j) : BIn P' w' A n c xs := fun W hW => h W (hW.more hb hs)
theorem WsIn.more {A : Option Addr} {n c : Nat} {l : List (Int × List UInt8)} (h : WsIn P w A n c l) (hb : Below w.heap.size w w') (hs : ∀ j, P' j → P j ∨ w.heap.size ≤ j) : WsIn P' w' A n c l := by obtain ⟨us, h⟩ := h; exact ⟨us, fun W hW => h W (hW.more hb hs)⟩
theorem BIn.agr {A : Option Addr} {n c : Nat} {xs : List UInt8} (h : BIn P w A n c xs) (ha : AgrP P w W) : BIn P W A n c xs := fun W' hW => h W' ⟨Nat.le_trans ha.1 hW.1, fun j hj hP => (hW.2 j (Nat.lt_of_lt_of_le hj ha.1) hP).trans (ha.2 j hj hP)⟩
theorem WsIn.agr {A : Option Addr} {n c : Nat} {l : List (Int × List UInt8)} (h : WsIn P w A n c l) (ha : AgrP P w W) : WsIn P W A n c l := by
 obtain ⟨us, h⟩ := h
 exact ⟨us, fun W' hW => h W' ⟨Nat.le_trans ha.1 hW.1, fun j hj hP => (hW.2 j (Nat.lt_of_lt_of_le hj ha.1) hP).trans (ha.2 j hj hP)⟩⟩
theorem RdB.inn {A : Option Addr} {n c : Nat} {xs : List UInt8} (h : RdB w A n c xs) : BIn (fun _ => False) w A n c xs := fun W hW => ⟨rd_agr h.1 hW (fun _ _ h => h), h.2⟩
theorem wparts_agr : ∀ {vs : List Value} {l : List (Int × List UInt8)}, WParts w vs l → (∀ A n c xs, RdB w A n c xs → RdB W A n c xs) → WParts W vs l
 | [], [], _, _ => trivial
 | _ :: _ :: _, _ :: _, ⟨h1, h2, ⟨A, n, c, h3, h4⟩, h5⟩, hf => ⟨h1, h2, ⟨A, n, c, h3, hf A n c _ h4⟩, wparts_agr h5 hf⟩
theorem RdWs.inn {A : Option Addr} {n c : Nat} {us : List Value} {l : List (Int × List UInt8)} (h : RdWs w A n c us l) : WsIn (fun _ => False) w A n c l :=
 ⟨us, fun W hW => ⟨rd_agr h.1 hW (fun _ _ h => h), h.2.1, h.2.2.1, h.2.2.2.1, wparts_agr h.2.2.2.2 (fun A n c xs hx => RdB.inn hx W hW)⟩⟩
theorem own_agr0 {base : Nat} {e : TypeId} {v : Value} {n size : Nat} {xs : List Value} (h : w.ownsRow base e size v n xs) (ha : AgrP P w W) (hs : ∀ j, P j → j < base) : W.ownsRow base e size v n xs := by
 refine ⟨h.1, ?_⟩
 rcases h.2 with h0 | ⟨g, cap, cur, hv, hb, hg, r⟩
 ·exact .inl h0
 ·exact .inr ⟨g, cap, cur, hv, hb, (ha.2 g (drw_lt hg) (fun hp => by have := hs g hp; omega)).trans hg, r⟩
theorem OwnB.inn {base : Nat} {A : Option Addr} {n c : Nat} {xs : List UInt8} (h : OwnB w base A n c xs) (hs : ∀ j, P j → j < base) : BIn P w A n c xs := fun W hW => OwnB.rd (base := base) (own_agr0 h hW hs)
end
structure Jm where
 g : Nat
 slot : Int
 next : Nat
 done : Nat
 will : Nat
 ch : List UInt8
 wa : Option Addr
 wn : Nat
 wc : Nat
 ph : Int
 ja : Option Addr
 jn : Nat
 jc : Nat
 out : Int
 su : Su
 room : Int
 err : Int
def Jm.of (m : Jm) (wl jl : List Jb) : Jn := ⟨m.g, m.slot, m.next, m.done, m.will, m.ch, wl, m.ph, jl, m.out, m.su, m.room, m.err⟩
def jmV (m : Jm) : List Value := [.int .u32 (m.g : Int), .int .i64 m.slot, .int .u32 (m.next : Int), .int .u32 (m.done : Int), .int .u32 (m.will : Int)] ++ (m.ch.map vB ++ ([.slice m.wa m.wn m.wc, .int .i64 m.ph, .slice m.ja m.jn m.jc, .int .i64 m.out, .int .u32 (m.su.g : Int), .int .i64 m.su.s, .int .i64 m.su.l] ++ (m.su.D.map vB ++ [.int .i64 m.room, .int .i64 m.err])))
def Jm.z (m : Jm) : Prop := m.ch.length = 32 ∧ m.su.D.length = 32
theorem jmV_len {m : Jm} (h : m.z) : (jmV m).length = 78 := by simp [jmV, h.1, h.2]
theorem jmV_one (m : Jm) : ∀ v ∈ jmV m, v.oneCell' = true := fun v hv => by
 simp only [jmV, List.mem_append, List.mem_cons, List.not_mem_nil, or_false, List.mem_map] at hv
 rcases hv with (rfl | rfl | rfl | rfl | rfl) | ⟨u, _, rfl⟩ | (rfl | rfl | rfl | rfl | rfl | rfl | rfl) | ⟨u, _, rfl⟩ | rfl | rfl <;> rfl
theorem jmV_mid {m : Jm} (h : m.z) (k : Nat) : (jmV m)[37 + k]? = ([Value.slice m.wa m.wn m.wc, .int .i64 m.ph, .slice m.ja m.jn m.jc, .int .i64 m.out, .int .u32 (m.su.g : Int), .int .i64 m.su.s, .int .i64 m.su.l] ++ (m.su.D.map vB ++ [.int .i64 m.room, .int .i64 m.err]))[k]? := by
 unfold jmV
 rw [List.getElem?_append_right (by simp; omega), List.getElem?_append_right (by simp [h.1]; omega)]
 simp [h.1]
 congr 1; omega
theorem jmV_end {m : Jm} (h : m.z) (k : Nat) : (jmV m)[76 + k]? = ([Value.int .i64 m.room, .int .i64 m.err])[k]? := by
 rw [show 76 + k = 37 + (39 + k) by omega, jmV_mid h, List.getElem?_append_right (by simp; omega), List.getElem?_append_right (by simp [h.2]; omega)]
 simp [h.2]
 congr 1; omega
def JmAt (w : World) (g : Nat) (m : Jm) : Prop := w.heap[g]? = some (.cells (jmV m).toArray 36 (0, 0))
section
variable {w w' : World} {g : Nat} {m : Jm}
theorem JmAt.lt (q : JmAt w g m) : g < w.heap.size := drw_lt q
theorem JmAt.up (q : JmAt w g m) (hb : Below w.heap.size w w') : JmAt w' g m := drw_up q hb
theorem JmAt.cell (q : JmAt w g m) (i : Nat) : w.cell? ⟨g, i, none⟩ = (jmV m)[i]? := by rw [cell_of_row w g i _ _ _ q]; simp
theorem JmAt.fr (q : JmAt w g m) (i : Nat) : w.frozen? ⟨g, i, none⟩ = false := frozen_of_row _ _ i _ _ q
theorem JmAt.c0 (q : JmAt w g m) : w.cell? ⟨g, 0, none⟩ = some (.int .u32 (m.g : Int)) := (q.cell 0).trans rfl
theorem JmAt.c1 (q : JmAt w g m) : w.cell? ⟨g, 1, none⟩ = some (.int .i64 m.slot) := (q.cell 1).trans rfl
theorem JmAt.c2 (q : JmAt w g m) : w.cell? ⟨g, 2, none⟩ = some (.int .u32 (m.next : Int)) := (q.cell 2).trans rfl
theorem JmAt.c3 (q : JmAt w g m) : w.cell? ⟨g, 3, none⟩ = some (.int .u32 (m.done : Int)) := (q.cell 3).trans rfl
theorem JmAt.c4 (q : JmAt w g m) : w.cell? ⟨g, 4, none⟩ = some (.int .u32 (m.will : Int)) := (q.cell 4).trans rfl
theorem JmAt.c37 (q : JmAt w g m) (h : m.z) : w.cell? ⟨g, 37, none⟩ = some (.slice m.wa m.wn m.wc) := (q.cell 37).trans ((jmV_mid h 0).trans rfl)
theorem JmAt.c38 (q : JmAt w g m) (h : m.z) : w.cell? ⟨g, 38, none⟩ = some (.int .i64 m.ph) := (q.cell 38).trans ((jmV_mid h 1).trans rfl)
theorem JmAt.c39 (q : JmAt w g m) (h : m.z) : w.cell? ⟨g, 39, none⟩ = some (.slice m.ja m.jn m.jc) := (q.cell 39).trans ((jmV_mid h 2).trans rfl)
theorem JmAt.c40 (q : JmAt w g m) (h : m.z) : w.cell? ⟨g, 40, none⟩ = some (.int .i64 m.out) := (q.cell 40).trans ((jmV_mid h 3).trans rfl)
theorem JmAt.c41 (q : JmAt w g m) (h : m.z) : w.cell? ⟨g, 41, none⟩ = some (.int .u32 (m.su.g : Int)) := (q.cell 41).trans ((jmV_mid h 4).trans rfl)
theorem JmAt.c76 (q : JmAt w g m) (h : m.z) : w.cell? ⟨g, 76, none⟩ = some (.int .i64 m.room) := (q.cell 76).trans ((jmV_end h 0).trans rfl)
theorem JmAt.c77 (q : JmAt w g m) (h : m.z) : w.cell? ⟨g, 77, none⟩ = some (.int .i64 m.err) := (q.cell 77).trans ((jmV_end h 1).trans rfl)
theorem JmAt.cells (q : JmAt w g m) (h : m.z) : (w.cell? ⟨g, 0, none⟩ = some (.int .u32 (m.g : Int)) ∧ w.cell? ⟨g, 1, none⟩ = some (.int .i64 m.slot) ∧ w.cell? ⟨g, 2, none⟩ = some (.int .u32 (m.next : Int)) ∧ w.cell? ⟨g, 3, none⟩ = some (.int .u32 (m.done : Int)) ∧ w.cell? ⟨g, 4, none⟩ = some (.int .u32 (m.will : Int))) ∧
  (w.cell? ⟨g, 37, none⟩ = some (.slice m.wa m.wn m.wc) ∧ w.cell? ⟨g, 38, none⟩ = some (.int .i64 m.ph) ∧ w.cell? ⟨g, 39, none⟩ = some (.slice m.ja m.jn m.jc) ∧ w.cell? ⟨g, 40, none⟩ = some (.int .i64 m.out) ∧ w.cell? ⟨g, 41, none⟩ = some (.int .u32 (m.su.g : Int)) ∧ w.cell? ⟨g, 76, none⟩ = some (.int .i64 m.room) ∧ w.cell? ⟨g, 77, none⟩ = some (.int .i64 m.err)) ∧ ∀ i, w.frozen? ⟨g, i, none⟩ = false :=
 ⟨⟨q.c0, q.c1, q.c2, q.c3, q.c4⟩, ⟨q.c37 h, q.c38 h, q.c39 h, q.c40 h, q.c41 h, q.c76 h, q.c77 h⟩, q.fr⟩
theorem JmAt.s2 (q : JmAt w g m) (v : Nat) : JmAt (w.setCell ⟨g, 2, none⟩ (.int .u32 (v : Int))) g { m with next := v } := (setc_rowT q).trans rfl
theorem JmAt.s3 (q : JmAt w g m) (v : Nat) : JmAt (w.setCell ⟨g, 3, none⟩ (.int .u32 (v : Int))) g { m with done := v } := (setc_rowT q).trans rfl
theorem JmAt.s4 (q : JmAt w g m) (v : Nat) : JmAt (w.setCell ⟨g, 4, none⟩ (.int .u32 (v : Int))) g { m with will := v } := (setc_rowT q).trans rfl
theorem JmAt.setK (q : JmAt w g m) (h : m.z) (m' : Jm) (k : Nat) (hk : k < 4) (v : Value) (hv : jmV m' = (jmV m).set (37 + k) v) : JmAt (w.setCell ⟨g, 37 + k, none⟩ v) g m' := by
 have h1 := setc_rowT (i := 37 + k) (v := v) q
 unfold JmAt
 rw [h1, hv, List.setIfInBounds_toArray]
theorem jmV_set {m : Jm} (h : m.z) (k : Nat) (hk : k < 7) (v : Value) : (jmV m).set (37 + k) v = [.int .u32 (m.g : Int), .int .i64 m.slot, .int .u32 (m.next : Int), .int .u32 (m.done : Int), .int .u32 (m.will : Int)] ++ (m.ch.map vB ++ (([.slice m.wa m.wn m.wc, .int .i64 m.ph, .slice m.ja m.jn m.jc, .int .i64 m.out, .int .u32 (m.su.g : Int), .int .i64 m.su.s, .int .i64 m.su.l] : List Value).set k v ++ (m.su.D.map vB ++ [.int .i64 m.room, .int .i64 m.err]))) := by
 unfold jmV
 rw [List.set_append_right _ _ (by simp; omega), List.set_append_right _ _ (by simp [h.1]; omega), List.set_append_left _ _ (by simp [h.1]; omega)]
 simp only [List.length_cons, List.length_nil, List.length_map, h.1]
 rw [show 37 + k - (0 + 1 + 1 + 1 + 1 + 1) - 32 = k by omega]
theorem JmAt.s37 (q : JmAt w g m) (h : m.z) (A : Option Addr) (n c : Nat) : JmAt (w.setCell ⟨g, 37, none⟩ (.slice A n c)) g { m with wa := A, wn := n, wc := c } := q.setK h _ 0 (by omega) _ (by rw [jmV_set h 0 (by omega)]; rfl)
theorem JmAt.s38 (q : JmAt w g m) (h : m.z) (v : Int) : JmAt (w.setCell ⟨g, 38, none⟩ (.int .i64 v)) g { m with ph := v } := q.setK h _ 1 (by omega) _ (by rw [jmV_set h 1 (by omega)]; rfl)
theorem JmAt.s39 (q : JmAt w g m) (h : m.z) (A : Option Addr) (n c : Nat) : JmAt (w.setCell ⟨g, 39, none⟩ (.slice A n c)) g { m with ja := A, jn := n, jc := c } := q.setK h _ 2 (by omega) _ (by rw [jmV_set h 2 (by omega)]; rfl)
theorem JmAt.s40 (q : JmAt w g m) (h : m.z) (v : Int) : JmAt (w.setCell ⟨g, 40, none⟩ (.int .i64 v)) g { m with out := v } := q.setK h _ 3 (by omega) _ (by rw [jmV_set h 3 (by omega)]; rfl)
theorem JmAt.s77 (q : JmAt w g m) (h : m.z) (v : Int) : JmAt (w.setCell ⟨g, 77, none⟩ (.int .i64 v)) g { m with err := v } := by
 have h1 := setc_rowT (i := 77) (v := .int .i64 v) q
 unfold JmAt
 rw [h1, List.setIfInBounds_toArray]
 congr 2
 unfold jmV
 rw [List.set_append_right _ _ (by simp), List.set_append_right _ _ (by simp [h.1]), List.set_append_right _ _ (by simp [h.1]), List.set_append_right _ _ (by simp [h.1, h.2])]
 simp [h.1, h.2]
theorem JmAt.dig (q : JmAt w g m) (h : m.z) : w.rangeAt g 5 (m.ch.map vB) := fun j v hv => by
 rw [q.cell]
 have hj : j < 32 := by have := (List.getElem?_eq_some_iff.1 hv).1; simpa [h.1] using this
 unfold jmV
 rw [List.getElem?_append_right (by simp), List.getElem?_append_left (by simp [h.1]; omega)]
 simpa using hv
theorem JmAt.sup (q : JmAt w g m) (h : m.z) : w.rangeAt g 41 (suV m.su.g m.su.s m.su.l m.su.D).toList := fun j v hv => by
 rw [q.cell, show 41 + j = 37 + (4 + j) by omega, jmV_mid h]
 have hj : j < 35 := by have := (List.getElem?_eq_some_iff.1 hv).1; simp [suV, h.2] at this; omega
 have e : ([Value.slice m.wa m.wn m.wc, .int .i64 m.ph, .slice m.ja m.jn m.jc, .int .i64 m.out, .int .u32 (m.su.g : Int), .int .i64 m.su.s, .int .i64 m.su.l] ++ (m.su.D.map vB ++ [Value.int .i64 m.room, .int .i64 m.err])) = [Value.slice m.wa m.wn m.wc, .int .i64 m.ph, .slice m.ja m.jn m.jc, .int .i64 m.out] ++ ((suV m.su.g m.su.s m.su.l m.su.D).toList ++ [Value.int .i64 m.room, .int .i64 m.err]) := by simp [suV]
 rw [e, List.getElem?_append_right (by simp), List.getElem?_append_left (by simp [suV, h.2]; omega)]
 simpa using hv
end
theorem jm_cells : (Tryz.prog.info? 36).map (·.size) = some 78 := by kernel_rfl
theorem jm_info {m : Jm} (h : m.z) : (Tryz.prog.info? 36).map (·.size) = some (jmV m).toArray.size := by rw [List.size_toArray, jmV_len h]; exact jm_cells
theorem jmV_all (m : Jm) : ((jmV m).toArray).all (·.oneCell') = true := by
 rw [Array.all_eq_true_iff_forall_mem]
 intro v hv
 exact jmV_one m v (by simpa using hv)
section
variable {ops : Array Oper} {rest : List Oper} {o : Oper} {a : Act} {w : World} {Q : Exit → Act → World → Prop} {h : Nat} {m m' : Jm}
theorem jm_load (hz : m.z) (hgd : o.guard = none) (x : Operand) (ho : o.op = .load 36 x) (hx : a.eval x = .pointer (some ⟨h, 0, none⟩)) (q : JmAt w h m)
  (hK : wpList Tryz.prog ops Q rest (a.put o.dst (.agg (jmV m).toArray)) w) : wpList Tryz.prog ops Q (o :: rest) a w :=
 wpList_load_row hgd 36 x ho h hx 36 _ (0, 0) _ q Tryz.underlying36 rfl (jm_info hz) hK
theorem jm_store (hz : m.z) (hz' : m'.z) (hgd : o.guard = none) (x y : Operand) (ho : o.op = .store 36 x y) (hx : a.eval x = .pointer (some ⟨h, 0, none⟩)) (hy : a.eval y = .agg (jmV m).toArray) (q : JmAt w h m')
  (hK : ∀ X, X.heap.size = w.heap.size → JmAt X h m → (∀ B, B ≤ h → Below B w X) → (∀ j, j ≠ h → X.heap[j]? = w.heap[j]?) → wpList Tryz.prog ops Q rest (a.put o.dst undef) X) : wpList Tryz.prog ops Q (o :: rest) a w :=
 wpList_store_row hgd 36 x y ho h _ hx hy 36 _ q (jm_info hz) (by rw [List.size_toArray, List.size_toArray, jmV_len hz, jmV_len hz']) (jmV_all m) (hK _ (by simp) (setRow_heap _ _ _ _ _ _ q) (fun B hB => below_setRow (Below.refl _ _) hB _) (fun j hj => setRow_other _ _ _ _ hj))
end
def JIn (P : Nat → Prop) (w : World) (m : Jm) (J : Jn) : Prop := J.ok ∧ m.of J.wait J.jobs = J ∧ WsIn P w m.wa m.wn m.wc J.wait ∧ WsIn P w m.ja m.jn m.jc J.jobs
theorem JIn.z {P : Nat → Prop} {w : World} {m : Jm} {J : Jn} (h : JIn P w m J) : m.z := ⟨by rw [show m.ch = J.ch from by rw [← h.2.1]; rfl]; exact h.1.ch, by rw [show m.su = J.su from by rw [← h.2.1]; rfl]; exact h.1.sD⟩
theorem JIn.below {P : Nat → Prop} {w w' : World} {m : Jm} {J : Jn} (h : JIn P w m J) (hb : Below w.heap.size w w') : JIn P w' m J := ⟨h.1, h.2.1, h.2.2.1.below hb, h.2.2.2.below hb⟩
theorem JIn.more {P P' : Nat → Prop} {w w' : World} {m : Jm} {J : Jn} (h : JIn P w m J) (hb : Below w.heap.size w w') (hs : ∀ j, P' j → P j ∨ w.heap.size ≤ j) : JIn P' w' m J := ⟨h.1, h.2.1, h.2.2.1.more hb hs, h.2.2.2.more hb hs⟩
theorem JIn.agr {P : Nat → Prop} {w W : World} {m : Jm} {J : Jn} (h : JIn P w m J) (ha : AgrP P w W) : JIn P W m J := ⟨h.1, h.2.1, h.2.2.1.agr ha, h.2.2.2.agr ha⟩
end Go.Proofs.YtpahicfnhhhifaaGreat
namespace Go.Proofs.YtpahicfnhhhifaaGreat
set_option maxRecDepth 20000
open Go.ChangeShapes Go.WideShapes Go.ChangeAt Go.RowKit Go.Deep
set_option maxHeartbeats 4000000
theorem jobs_cell {H : Type} {enc : TypeId × Value → H} {W : World} {fuel : Nat} {v : Value} {y : DataW H × List MemPlace} (hf : DataW.trod enc Tryz.prog W 0 (fun _ => true) true fuel 31 [v] = some y) :
  ∃ A n c vs l, v = .slice A n c ∧ RdWs W A n c vs l := by
 rcases open_slice_pairs Tryz.underlying31 Tryz.underlying60 (by kernel_rfl) rfl rfl (by kernel_rfl) (by kernel_rfl) hf with ⟨hcs, _⟩ | ⟨x, l, c, m, n, V0, V1, D0, D1, P0, P1, hcs, _, hl, hm, hmm, _, hcell⟩
 ·injection hcs with hcs
  exact ⟨_, _, _, [], [], hcs, .inl rfl, rfl, Nat.le_refl _, by simp [maxLen], trivial⟩
 ·injection hcs with hcs
  have hmc : m = c := by simpa using hmm
  obtain ⟨Y, hY⟩ := choose_lt (α := Int × List UInt8) (n := m) (p := fun i y => V0 i = .int .i64 y.1 ∧ (-9223372036854775808 ≤ y.1 ∧ y.1 ≤ 9223372036854775807) ∧ ∃ A n c, V1 i = .slice A n c ∧ RdB W A n c y.2) (fun i hi => by
   obtain ⟨_, _, h3, h4⟩ := hcell i hi
   obtain ⟨j1, f1, _, hv1⟩ := DataW.trod_int Tryz.underlying3 h3
   obtain ⟨A, n, c, xs, h1, h2⟩ := bytes_cell h4
   exact ⟨(j1, xs), by simpa using f1, int_i64 hv1, A, n, c, h1, h2⟩)
  refine ⟨_, _, _, (List.range l).flatMap (fun i => [V0 i, V1 i]), (List.range l).map Y, hcs, ?_, by rw [pairs_len]; simp, hl, hm, wparts_of V0 V1 Y _ (fun i hi => hY i (by have := List.mem_range.1 hi; omega))⟩
  rcases Nat.eq_zero_or_pos l with rfl | hpos
  ·left; simp
  ·right
   obtain ⟨b, o, spot⟩ := x
   have hc0 := (hcell 0 (by omega)).1
   have hspot : spot = none := by simpa [Addr.add] using World.cell?_spot hc0
   subst hspot
   refine ⟨b, o, rfl, by have := World.block_lt_of_cell? W _ hc0; simpa [Addr.add] using this, fun i v hv => ?_⟩
   have hi : i < 2 * l := by have := (List.getElem?_eq_some_iff.1 hv).1; rw [pairs_len] at this; simpa using this
   obtain ⟨g0, g1⟩ := pairs_get V0 V1 (List.range l) (i / 2)
   have hk : (List.range l)[i / 2]? = some (i / 2) := by rw [List.getElem?_range (by omega)]
   rw [hk] at g0 g1
   obtain ⟨c0, c1, _⟩ := hcell (i / 2) (by omega)
   rw [Addr.add_lit] at c0 c1
   rcases Nat.mod_two_eq_zero_or_one i with h2 | h2
   ·rw [show 2 * (i / 2) = i by omega, hv] at g0
    rw [show i / 2 * 2 = i by omega] at c0
    rw [c0]; simpa using g0.symm
   ·rw [show 2 * (i / 2) + 1 = i by omega, hv] at g1
    rw [show i / 2 * 2 + 1 = i by omega] at c1
    rw [c1]; simpa using g1.symm
theorem super_cells {H : Type} {enc : TypeId × Value → H} {W : World} {fuel : Nat} {ls : List Value} {y : DataW H × List MemPlace} (hls : ls.length = 35) (hf : DataW.trod enc Tryz.prog W 0 (fun _ => true) true fuel 33 ls = some y) :
  ∃ (g : Nat) (s l : Int) (D : List UInt8), ls = [.int .u32 (g : Int), .int .i64 s, .int .i64 l] ++ D.map vB ∧ g < 4294967296 ∧ (-9223372036854775808 ≤ s ∧ s ≤ 9223372036854775807) ∧ (-9223372036854775808 ≤ l ∧ l ≤ 9223372036854775807) ∧ D.length = 32 := by
 match ls, hls with
 | c0 :: c1 :: c2 :: rest, hls =>
  have hr : rest.length = 32 := by simpa using hls
  obtain ⟨ys, m, _, _, _, hl, hg⟩ := DataW.trod_struct Tryz.underlying33 hf
  match ys, hl with
  | [y0, y1, y2, y3], _ =>
   have z_u : Tryz.prog.cellsOf 28 = 1 := by kernel_rfl
   have z_i : Tryz.prog.cellsOf 3 = 1 := by kernel_rfl
   have z_d : Tryz.prog.cellsOf 30 = 32 := by kernel_rfl
   have h0 : DataW.trod enc Tryz.prog W 0 (fun _ => true) true m 28 [c0] = some y0 := by
    have q : DataW.trod enc Tryz.prog W 0 (fun _ => true) true m 28 (((c0 :: c1 :: c2 :: rest).drop 0).take (Tryz.prog.cellsOf 28)) = [y0, y1, y2, y3][0]? := hg 0 _ rfl
    rw [z_u] at q
    exact q
   have h1 : DataW.trod enc Tryz.prog W 0 (fun _ => true) true m 3 [c1] = some y1 := by
    have q : DataW.trod enc Tryz.prog W 0 (fun _ => true) true m 3 (((c0 :: c1 :: c2 :: rest).drop 1).take (Tryz.prog.cellsOf 3)) = [y0, y1, y2, y3][1]? := hg 1 _ rfl
    rw [z_i] at q
    exact q
   have h2 : DataW.trod enc Tryz.prog W 0 (fun _ => true) true m 3 [c2] = some y2 := by
    have q : DataW.trod enc Tryz.prog W 0 (fun _ => true) true m 3 (((c0 :: c1 :: c2 :: rest).drop 2).take (Tryz.prog.cellsOf 3)) = [y0, y1, y2, y3][2]? := hg 2 _ rfl
    rw [z_i] at q
    exact q
   have h3 : DataW.trod enc Tryz.prog W 0 (fun _ => true) true m 30 rest = some y3 := by
    have q : DataW.trod enc Tryz.prog W 0 (fun _ => true) true m 30 (((c0 :: c1 :: c2 :: rest).drop 3).take (Tryz.prog.cellsOf 30)) = [y0, y1, y2, y3][3]? := hg 3 _ rfl
    rw [z_d] at q
    have e : ((c0 :: c1 :: c2 :: rest).drop 3).take 32 = rest := by simp [List.take_of_length_le (show rest.length ≤ 32 by omega)]
    rw [e] at q
    exact q
   obtain ⟨i0, e0, _, hw0⟩ := DataW.trod_int Tryz.underlying28 h0
   obtain rfl : c0 = .int .u32 i0 := by simpa using e0
   obtain ⟨n0, rfl, hn0⟩ := nat_u32 hw0
   obtain ⟨i1, e1, _, hw1⟩ := DataW.trod_int Tryz.underlying3 h1
   obtain rfl : c1 = .int .i64 i1 := by simpa using e1
   obtain ⟨i2, e2, _, hw2⟩ := DataW.trod_int Tryz.underlying3 h2
   obtain rfl : c2 = .int .i64 i2 := by simpa using e2
   obtain ⟨D, rfl, hD⟩ := open_digest32 hr h3
   exact ⟨n0, i1, i2, D, rfl, hn0, int_i64 hw1, int_i64 hw2, hD⟩
set_option maxRecDepth 100000 in
theorem open_journal {H : Type} {enc : TypeId × Value → H} {W : World} {base : Nat} {v : Value} {d0 : DataW H} {p : List MemPlace} (hv : Value.okWide Tryz.prog W .any base 36 v)
  (h : ∃ fuel, DataW.trod enc Tryz.prog W 0 (fun _ => true) true fuel 36 v.cells.toList = some (d0, p)) :
  ∃ (m : Jm) (J : Jn), v = .agg (jmV m).toArray ∧ JIn (fun _ => False) W m J := by
 obtain ⟨cs, rfl, hsz⟩ := okWide_struct Tryz.underlying36 hv
 obtain ⟨fuel, hf⟩ := h
 have hN : Tryz.prog.cellsOf 36 = 78 := by kernel_rfl
 rw [hN] at hsz
 obtain ⟨ls⟩ := cs
 have hls : ls.length = 78 := by simpa using hsz
 match ls, hls with
 | vv0 :: vv1 :: vv2 :: vv3 :: vv4 :: vv5 :: vv6 :: vv7 :: vv8 :: vv9 :: vv10 :: vv11 :: vv12 :: vv13 :: vv14 :: vv15 :: vv16 :: vv17 :: vv18 :: vv19 :: vv20 :: vv21 :: vv22 :: vv23 :: vv24 :: vv25 :: vv26 :: vv27 :: vv28 :: vv29 :: vv30 :: vv31 :: vv32 :: vv33 :: vv34 :: vv35 :: vv36 :: vv37 :: vv38 :: vv39 :: vv40 :: vv41 :: vv42 :: vv43 :: vv44 :: vv45 :: vv46 :: vv47 :: vv48 :: vv49 :: vv50 :: vv51 :: vv52 :: vv53 :: vv54 :: vv55 :: vv56 :: vv57 :: vv58 :: vv59 :: vv60 :: vv61 :: vv62 :: vv63 :: vv64 :: vv65 :: vv66 :: vv67 :: vv68 :: vv69 :: vv70 :: vv71 :: vv72 :: vv73 :: vv74 :: vv75 :: vv76 :: vv77 :: [], _ =>
  obtain ⟨ys, m, _, _, _, hl, hg⟩ := DataW.trod_struct Tryz.underlying36 hf
  match ys, hl with
  | [y0, y1, y2, y3, y4, y5, y6, y7, y8, y9, y10, y11, y12], _ =>
   have z_0 : Tryz.prog.cellsOf 28 = 1 := by kernel_rfl
   have z_1 : Tryz.prog.cellsOf 3 = 1 := by kernel_rfl
   have z_2 : Tryz.prog.cellsOf 30 = 32 := by kernel_rfl
   have z_3 : Tryz.prog.cellsOf 31 = 1 := by kernel_rfl
   have z_4 : Tryz.prog.cellsOf 33 = 35 := by kernel_rfl
   have z_5 : Tryz.prog.cellsOf 34 = 1 := by kernel_rfl
   have h0 : DataW.trod enc Tryz.prog W 0 (fun _ => true) true m 28 [vv0] = some y0 := by
    have q : DataW.trod enc Tryz.prog W 0 (fun _ => true) true m 28 ((List.drop 0 _).take (Tryz.prog.cellsOf 28)) = _ := hg 0 _ rfl
    rw [z_0] at q
    exact q
   have h1 : DataW.trod enc Tryz.prog W 0 (fun _ => true) true m 3 [vv1] = some y1 := by
    have q : DataW.trod enc Tryz.prog W 0 (fun _ => true) true m 3 ((List.drop 1 _).take (Tryz.prog.cellsOf 3)) = _ := hg 1 _ rfl
    rw [z_1] at q
    exact q
   have h2 : DataW.trod enc Tryz.prog W 0 (fun _ => true) true m 28 [vv2] = some y2 := by
    have q : DataW.trod enc Tryz.prog W 0 (fun _ => true) true m 28 ((List.drop 2 _).take (Tryz.prog.cellsOf 28)) = _ := hg 2 _ rfl
    rw [z_0] at q
    exact q
   have h3 : DataW.trod enc Tryz.prog W 0 (fun _ => true) true m 28 [vv3] = some y3 := by
    have q : DataW.trod enc Tryz.prog W 0 (fun _ => true) true m 28 ((List.drop 3 _).take (Tryz.prog.cellsOf 28)) = _ := hg 3 _ rfl
    rw [z_0] at q
    exact q
   have h4 : DataW.trod enc Tryz.prog W 0 (fun _ => true) true m 28 [vv4] = some y4 := by
    have q : DataW.trod enc Tryz.prog W 0 (fun _ => true) true m 28 ((List.drop 4 _).take (Tryz.prog.cellsOf 28)) = _ := hg 4 _ rfl
    rw [z_0] at q
    exact q
   have h5 : DataW.trod enc Tryz.prog W 0 (fun _ => true) true m 30 [vv5, vv6, vv7, vv8, vv9, vv10, vv11, vv12, vv13, vv14, vv15, vv16, vv17, vv18, vv19, vv20, vv21, vv22, vv23, vv24, vv25, vv26, vv27, vv28, vv29, vv30, vv31, vv32, vv33, vv34, vv35, vv36] = some y5 := by
    have q : DataW.trod enc Tryz.prog W 0 (fun _ => true) true m 30 ((List.drop 5 _).take (Tryz.prog.cellsOf 30)) = _ := hg 5 _ rfl
    rw [z_2] at q
    exact q
   have h6 : DataW.trod enc Tryz.prog W 0 (fun _ => true) true m 31 [vv37] = some y6 := by
    have q : DataW.trod enc Tryz.prog W 0 (fun _ => true) true m 31 ((List.drop 37 _).take (Tryz.prog.cellsOf 31)) = _ := hg 6 _ rfl
    rw [z_3] at q
    exact q
   have h7 : DataW.trod enc Tryz.prog W 0 (fun _ => true) true m 3 [vv38] = some y7 := by
    have q : DataW.trod enc Tryz.prog W 0 (fun _ => true) true m 3 ((List.drop 38 _).take (Tryz.prog.cellsOf 3)) = _ := hg 7 _ rfl
    rw [z_1] at q
    exact q
   have h8 : DataW.trod enc Tryz.prog W 0 (fun _ => true) true m 31 [vv39] = some y8 := by
    have q : DataW.trod enc Tryz.prog W 0 (fun _ => true) true m 31 ((List.drop 39 _).take (Tryz.prog.cellsOf 31)) = _ := hg 8 _ rfl
    rw [z_3] at q
    exact q
   have h9 : DataW.trod enc Tryz.prog W 0 (fun _ => true) true m 3 [vv40] = some y9 := by
    have q : DataW.trod enc Tryz.prog W 0 (fun _ => true) true m 3 ((List.drop 40 _).take (Tryz.prog.cellsOf 3)) = _ := hg 9 _ rfl
    rw [z_1] at q
    exact q
   have h10 : DataW.trod enc Tryz.prog W 0 (fun _ => true) true m 33 [vv41, vv42, vv43, vv44, vv45, vv46, vv47, vv48, vv49, vv50, vv51, vv52, vv53, vv54, vv55, vv56, vv57, vv58, vv59, vv60, vv61, vv62, vv63, vv64, vv65, vv66, vv67, vv68, vv69, vv70, vv71, vv72, vv73, vv74, vv75] = some y10 := by
    have q : DataW.trod enc Tryz.prog W 0 (fun _ => true) true m 33 ((List.drop 41 _).take (Tryz.prog.cellsOf 33)) = _ := hg 10 _ rfl
    rw [z_4] at q
    exact q
   have h11 : DataW.trod enc Tryz.prog W 0 (fun _ => true) true m 3 [vv76] = some y11 := by
    have q : DataW.trod enc Tryz.prog W 0 (fun _ => true) true m 3 ((List.drop 76 _).take (Tryz.prog.cellsOf 3)) = _ := hg 11 _ rfl
    rw [z_1] at q
    exact q
   have h12 : DataW.trod enc Tryz.prog W 0 (fun _ => true) true m 34 [vv77] = some y12 := by
    have q : DataW.trod enc Tryz.prog W 0 (fun _ => true) true m 34 ((List.drop 77 _).take (Tryz.prog.cellsOf 34)) = _ := hg 12 _ rfl
    rw [z_5] at q
    exact q
   obtain ⟨i0, e0, _, hw0⟩ := DataW.trod_int Tryz.underlying28 h0
   obtain rfl : vv0 = .int .u32 i0 := by simpa using e0
   obtain ⟨n0, rfl, hn0⟩ := nat_u32 hw0
   obtain ⟨i1, e1, _, hw1⟩ := DataW.trod_int Tryz.underlying3 h1
   obtain rfl : vv1 = .int .i64 i1 := by simpa using e1
   have hb1 := int_i64 hw1
   obtain ⟨i2, e2, _, hw2⟩ := DataW.trod_int Tryz.underlying28 h2
   obtain rfl : vv2 = .int .u32 i2 := by simpa using e2
   obtain ⟨n2, rfl, hn2⟩ := nat_u32 hw2
   obtain ⟨i3, e3, _, hw3⟩ := DataW.trod_int Tryz.underlying28 h3
   obtain rfl : vv3 = .int .u32 i3 := by simpa using e3
   obtain ⟨n3, rfl, hn3⟩ := nat_u32 hw3
   obtain ⟨i4, e4, _, hw4⟩ := DataW.trod_int Tryz.underlying28 h4
   obtain rfl : vv4 = .int .u32 i4 := by simpa using e4
   obtain ⟨n4, rfl, hn4⟩ := nat_u32 hw4
   obtain ⟨D5, eD5, hD5⟩ := open_digest32 rfl h5
   obtain ⟨A6, a6, k6, us6, l6, rfl, hw6⟩ := jobs_cell h6
   obtain ⟨i7, e7, _, hw7⟩ := DataW.trod_int Tryz.underlying3 h7
   obtain rfl : vv38 = .int .i64 i7 := by simpa using e7
   have hb7 := int_i64 hw7
   obtain ⟨A8, a8, k8, us8, l8, rfl, hw8⟩ := jobs_cell h8
   obtain ⟨i9, e9, _, hw9⟩ := DataW.trod_int Tryz.underlying3 h9
   obtain rfl : vv40 = .int .i64 i9 := by simpa using e9
   have hb9 := int_i64 hw9
   obtain ⟨g10, s10, q10, D10, e10, hg10, hs10, hq10, hD10⟩ := super_cells rfl h10
   obtain ⟨i11, e11, _, hw11⟩ := DataW.trod_int Tryz.underlying3 h11
   obtain rfl : vv76 = .int .i64 i11 := by simpa using e11
   have hb11 := int_i64 hw11
   obtain ⟨i12, e12, _, hw12⟩ := DataW.trod_int Tryz.underlying34 h12
   obtain rfl : vv77 = .int .i64 i12 := by simpa using e12
   have hb12 := int_i64 hw12
   refine ⟨⟨n0, i1, n2, n3, n4, D5, A6, a6, k6, i7, A8, a8, k8, i9, ⟨g10, s10, q10, D10⟩, i11, i12⟩, ⟨n0, i1, n2, n3, n4, D5, l6, i7, l8, i9, ⟨g10, s10, q10, D10⟩, i11, i12⟩, ?_, ?_⟩
   ·congr 2
    show _ = [_, _, _, _, _] ++ (D5.map vB ++ ([_, _, _, _, _, _, _] ++ (D10.map vB ++ [_, _])))
    have e10' : [.int .u32 (g10 : Int), .int .i64 s10, .int .i64 q10] ++ D10.map vB = [vv41, vv42, vv43, vv44, vv45, vv46, vv47, vv48, vv49, vv50, vv51, vv52, vv53, vv54, vv55, vv56, vv57, vv58, vv59, vv60, vv61, vv62, vv63, vv64, vv65, vv66, vv67, vv68, vv69, vv70, vv71, vv72, vv73, vv74, vv75] := e10.symm
    rw [← eD5]
    show _ = [_, _, _, _, _] ++ (_ ++ ([_, _, _, _] ++ (([.int .u32 (g10 : Int), .int .i64 s10, .int .i64 q10] ++ D10.map vB) ++ [_, _])))
    rw [e10']
    rfl
   ·exact ⟨⟨hn0, hb1, hn2, hn3, hn4, hD5, hb7, hb9, hg10, hs10, hq10, hD10, hb11, hb12⟩, rfl, RdWs.inn hw6, RdWs.inn hw8⟩
end Go.Proofs.YtpahicfnhhhifaaGreat
