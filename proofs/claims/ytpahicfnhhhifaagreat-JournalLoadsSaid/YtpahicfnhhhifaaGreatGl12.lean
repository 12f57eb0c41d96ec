/-
 Proved here, for the statement JournalLoads:
 Layer 3: a block taken in (package): the walk.
 Layer 3: what stands behind bytes.
-/
import Derived.Test.YtpahicfnhhhifaaGreatGl11
set_option linter.unusedVariables false
set_option linter.unusedSimpArgs false
namespace Go.Proofs.YtpahicfnhhhifaaGreat
set_option maxRecDepth 20000
open Go.RowKit
set_option maxHeartbeats 8000000
def TuR (w : World) (x : H8) (g5 g6 : Nat) (hs : List Nat) (ys : List Nat) (wr : World) : Prop :=
 wr.heap[w.heap.size]? = some (.cells (wsV hs) 137 (0, 0)) ∧ wr.heap[w.heap.size + 1]? = some (.cells (wsV z8) 137 (0, 0)) ∧ wr.heap[g5]? = some (.cells (wsV shK) 166 (0, 0)) ∧ wr.heap[g6]? = some (.cells (wsV ys) 137 (0, 0)) ∧ g6 < wr.heap.size
def TuI (w : World) (x : H8) (g5 g6 : Nat) (ws : List Nat) (v20 : Value) (wr : World) : Prop :=
 ∃ k : Nat, k ≤ 64 ∧ v20 = .int .i64 k ∧ TuR w x g5 g6 x.l (shRounds ws x k).l wr ∧ Below w.heap.size w wr
def TuJ (w : World) (x y : H8) (g5 g6 : Nat) (v81 : Value) (wr : World) : Prop :=
 ∃ k : Nat, k ≤ 8 ∧ v81 = .int .i64 k ∧ TuR w x g5 g6 (adP x y k) y.l wr ∧ Below w.heap.size w wr
theorem z8_V : wsV z8 = #[.int .u32 0, .int .u32 0, .int .u32 0, .int .u32 0, .int .u32 0, .int .u32 0, .int .u32 0, .int .u32 0] := by rfl
theorem shK_lt (k : Nat) : shK.getD k 0 < 4294967296 := by
 by_cases h : k < shK.length
 ·rw [List.getD, List.getElem?_eq_getElem h]
  exact (show ∀ n ∈ shK, n < 4294967296 by decide) _ (List.getElem_mem h)
 ·rw [List.getD, List.getElem?_eq_none (by omega)]; simp
theorem shaTurn_short (x : H8) (A : Option Addr) (n c : Nat) (xs : List UInt8) (w : World) (hr : RdB w A n c xs) (h : n ≠ 64) :
  Calls Tryz.prog 105 #[.agg (wsV x.l), .slice A n c] w (RetW w (shTurn x xs).l) := by
 have hn := hr.n63
 have e : shTurn x xs = x := by unfold shTurn; rw [if_neg (by rw [hr.2.1]; exact h)]
 rw [e]
 have d1 : ((n : Int) != 64) = true := by rw [bne_iff_ne]; omega
 have H0 := Lib.hid (show ((w.alloc (.cells (wsV x.l) 137)).alloc (.cells #[.int .u32 0, .int .u32 0, .int .u32 0, .int .u32 0, .int .u32 0, .int .u32 0, .int .u32 0, .int .u32 0] 137)).heap[w.heap.size]? = some (.cells (wsV x.l) 137 (0, 0)) by exact row2a ..)
 have H1 := Lib.hid (show ((w.alloc (.cells (wsV x.l) 137)).alloc (.cells #[.int .u32 0, .int .u32 0, .int .u32 0, .int .u32 0, .int .u32 0, .int .u32 0, .int .u32 0, .int .u32 0] 137)).heap[w.heap.size + 1]? = some (.cells (wsV z8) 137 (0, 0)) by rw [z8_V]; exact row2b ..)
 clear h e
 go_enter Tryz.func105, Tryz.ntmps105
 go_wp2_with (first
  | (refine w8_load rfl _ rfl w.heap.size rfl x.l 137 H0.out rfl ?_)
  | (refine w8_store rfl _ _ rfl (w.heap.size + 1) rfl x.l z8 rfl 137 H1.out rfl rfl ?_))
 refine bodyPost_ret (results_cell_row Tryz.results105 _ _ (w.heap.size + 1) 137 (wsV x.l) (0, 0) _ rfl (setRow_heap _ _ _ (wsV x.l) _ _ H1.out) Tryz.underlying137 rfl (info8 x.l rfl)) rfl ?_
 exact ⟨rfl, below_setRow (((below_self w).alloc (Nat.le_refl _) _).alloc (by simp) _) (by omega) _⟩
theorem shaTurn_long (x : H8) (A : Option Addr) (c : Nat) (xs : List UInt8) (w : World) (hx : x.ok) (hr : RdB w A 64 c xs) :
  Calls Tryz.prog 105 #[.agg (wsV x.l), .slice A 64 c] w (RetW w (shTurn x xs).l) := by
 have hl := hr.2.1
 have e : shTurn x xs = x.add (shRounds (shWs xs 64) x 64) := by unfold shTurn; rw [if_pos hl]
 have e2 : shWords xs = shWs xs 64 := by unfold shWords; rw [if_pos hl]
 rw [e]
 have d1 : ((64 : Int) != 64) = false := by decide
 have E2 := Lib.hid e2
 have HX := Lib.hid hx
 clear e e2 hl hx
 go_enter Tryz.func105, Tryz.ntmps105
 go_wp2_with fail
 obtain ⟨W, hW⟩ : ∃ W, W = (w.alloc (.cells (wsV x.l) 137)).alloc (.cells #[.int .u32 0, .int .u32 0, .int .u32 0, .int .u32 0, .int .u32 0, .int .u32 0, .int .u32 0, .int .u32 0] 137) := ⟨_, rfl⟩
 have bW : Below w.heap.size w W := by rw [hW]; exact ((below_self w).alloc (Nat.le_refl _) _).alloc (by simp) _
 have h0 : W.heap[w.heap.size]? = some (.cells (wsV x.l) 137 (0, 0)) := by rw [hW]; exact row2a ..
 have h1 : W.heap[w.heap.size + 1]? = some (.cells (wsV z8) 137 (0, 0)) := by rw [hW, z8_V]; exact row2b ..
 have zW : w.heap.size + 1 < W.heap.size := by rw [hW]; simp
 rw [← hW]
 have H0 := Lib.hid h0
 have H1 := Lib.hid h1
 clear hW h0 h1
 refine (shaConst_any W).mono ?_
 rintro e w1 ⟨rfl, hb1⟩
 have z1 := hb1.size
 have HA := Lib.hid (alloc64 w1)
 go_wp2_with (first
  | (refine w64_store rfl _ _ rfl w1.heap.size rfl shK z64 rfl 166 HA.out rfl rfl ?_; obtain ⟨V1, hV⟩ : ∃ V, V = (w1.alloc (.cells zz2 166)).setRow w1.heap.size (wsV shK) := ⟨_, rfl⟩; rw [← hV]; have bV1 : Below w1.heap.size w1 V1 := (by rw [hV]; exact below_setRow ((below_self w1).alloc (Nat.le_refl _) _) (Nat.le_refl _) _); have zV1 : w1.heap.size < V1.heap.size := (by rw [hV]; simp); have HK := Lib.hid (show V1.heap[w1.heap.size]? = some (.cells (wsV shK) 166 (0, 0)) by rw [hV]; exact setRow_heap _ _ _ (wsV shK) _ _ HA.out); have H01 := Lib.hid (((hb1.trans (bV1.mono z1)).block _ (by omega)).trans H0.out); have HZ := Lib.hid (show (V1.alloc (.cells #[.int .u32 0, .int .u32 0, .int .u32 0, .int .u32 0, .int .u32 0, .int .u32 0, .int .u32 0, .int .u32 0] 137)).heap[V1.heap.size]? = some (.cells (wsV z8) 137 (0, 0)) by rw [z8_V]; exact row1 ..); clear hV)
  | (refine w8_load rfl _ rfl w.heap.size rfl x.l 137 H01.out rfl ?_)
  | (refine w8_store rfl _ _ rfl V1.heap.size rfl x.l z8 rfl 137 HZ.out rfl rfl ?_; obtain ⟨V2, hV⟩ : ∃ V, V = (V1.alloc (.cells #[.int .u32 0, .int .u32 0, .int .u32 0, .int .u32 0, .int .u32 0, .int .u32 0, .int .u32 0, .int .u32 0] 137)).setRow V1.heap.size (wsV x.l) := ⟨_, rfl⟩; rw [← hV]; have bV2 : Below V1.heap.size V1 V2 := (by rw [hV]; exact below_setRow ((below_self V1).alloc (Nat.le_refl _) _) (Nat.le_refl _) _); have zV2 : V1.heap.size < V2.heap.size := (by rw [hV]; simp); have HY := Lib.hid (show V2.heap[V1.heap.size]? = some (.cells (wsV x.l) 137 (0, 0)) by rw [hV]; exact setRow_heap _ _ _ (wsV x.l) _ _ HZ.out); clear hV))
 have bW2 : Below W.heap.size W V2 := below_then hb1 (below_then bV1 bV2)
 have hh := shaWords_any A 64 c xs V2 (hr.below (below_then bW bW2))
 rw [E2.out] at hh
 refine hh.mono ?_
 clear hh
 rintro e w3 ⟨rfl, hb3⟩
 have z3 := hb3.size
 have B3 := below_then bW (below_then bW2 hb3)
 have bW3 := below_then bW2 hb3
 have R : TuR w x w1.heap.size V1.heap.size x.l x.l w3 := ⟨(bW3.block _ (by omega)).trans H0.out, (bW3.block _ (by omega)).trans H1.out, ((below_then bV2 hb3).block _ zV1).trans HK.out, (hb3.block _ zV2).trans HY.out, by omega⟩
 have hwl := shWs_len xs 64
 have hwt := shWs_lt xs 64
 generalize shWs xs 64 = ws at *
 have g5a : w.heap.size + 1 < w1.heap.size := by omega
 obtain ⟨g5, hg5⟩ : ∃ g, w1.heap.size = g := ⟨_, rfl⟩
 obtain ⟨g6, hg6⟩ : ∃ g, V1.heap.size = g := ⟨_, rfl⟩
 have hg56 : g5 < g6 := by omega
 rw [hg5] at R g5a
 rw [hg6] at R
 rw [hg5, hg6]
 have HWL := Lib.hid hwl
 have HWT := Lib.hid hwt
 clear HA HK H01 HZ HY H0 H1 bV1 bV2 hb3 hb1 bW2 bW3 zV1 zV2 z1 z3 zW bW hg5 hg6 E2 hwl hwt
 go_wp2_with fail
 go_loopw [20] (TuI w x g5 g6 ws) (fun i _ => 64 - (intOf i).toNat)
 case atStart => exact ⟨0, by omega, rfl, R, B3⟩
 case round =>
  obtain ⟨k, hk, rfl, ⟨q2, q4, q5, q6, qz⟩, BR⟩ := hrel
  clear R B3
  by_cases hlt : k < 64
  ·have hy := shRounds_ok ws HX.out k
   have hnx : shRounds ws x (k + 1) = shStep (shK.getD k 0) (ws.getD k 0) (shRounds ws x k) := rfl
   have ix := index64 ws HWL.out k hlt
   have cK := (cell_of_row wr _ k _ _ _ q5).trans (wsV_get shK k (show k < shK.length from hlt))
   have hkk : shK.getD k 0 < 4294967296 := shK_lt k
   have hwk : ws.getD k 0 < 4294967296 := by
    have hl := HWL.out
    rw [List.getD, List.getElem?_eq_getElem (by omega)]
    exact HWT.out _ (List.getElem_mem (by omega))
   generalize shRounds ws x k = y at *
   generalize ws.getD k 0 = wk at *
   generalize shK.getD k 0 = kk at *
   obtain ⟨a, b, c9, d, e, f, g, h⟩ := y
   obtain ⟨ha, hb, hc9, hd, he, hf, hg, hh⟩ := hy
   simp only at ha hb hc9 hd he hf hg hh
   have ca := (cell_of_row wr _ 0 _ _ _ q6).trans (show (wsV (H8.l ⟨a, b, c9, d, e, f, g, h⟩))[0]? = some (.int .u32 (a : Int)) from rfl)
   have cb := (cell_of_row wr _ 1 _ _ _ q6).trans (show (wsV (H8.l ⟨a, b, c9, d, e, f, g, h⟩))[1]? = some (.int .u32 (b : Int)) from rfl)
   have cc := (cell_of_row wr _ 2 _ _ _ q6).trans (show (wsV (H8.l ⟨a, b, c9, d, e, f, g, h⟩))[2]? = some (.int .u32 (c9 : Int)) from rfl)
   have cd := (cell_of_row wr _ 3 _ _ _ q6).trans (show (wsV (H8.l ⟨a, b, c9, d, e, f, g, h⟩))[3]? = some (.int .u32 (d : Int)) from rfl)
   have ce := (cell_of_row wr _ 4 _ _ _ q6).trans (show (wsV (H8.l ⟨a, b, c9, d, e, f, g, h⟩))[4]? = some (.int .u32 (e : Int)) from rfl)
   have cf := (cell_of_row wr _ 5 _ _ _ q6).trans (show (wsV (H8.l ⟨a, b, c9, d, e, f, g, h⟩))[5]? = some (.int .u32 (f : Int)) from rfl)
   have cg := (cell_of_row wr _ 6 _ _ _ q6).trans (show (wsV (H8.l ⟨a, b, c9, d, e, f, g, h⟩))[6]? = some (.int .u32 (g : Int)) from rfl)
   have ch := (cell_of_row wr _ 7 _ _ _ q6).trans (show (wsV (H8.l ⟨a, b, c9, d, e, f, g, h⟩))[7]? = some (.int .u32 (h : Int)) from rfl)
   have M1 : shMix e [6, 11, 25] < 4294967296 := shMix_lt he _
   have M2 : shMix a [2, 13, 22] < 4294967296 := shMix_lt ha _
   have HM1 := Lib.hid (fun W A r => mixed_any e A 3 3 [6, 11, 25] W he r rfl (by omega) (by decide))
   have HM2 := Lib.hid (fun W A r => mixed_any a A 3 3 [2, 13, 22] W ha r rfl (by omega) (by decide))
   have s1 := u32_xor_nat f g hf hg
   have s2 := u32_and_nat e (f ^^^ g) he (xor_lt32 hf hg)
   have s3 := u32_xor_nat g (e &&& (f ^^^ g)) hg (and_lt32 he)
   have s4 := u32_and_nat a b ha hb
   have s5 := u32_or_nat a b ha hb
   have s6 := u32_and_nat c9 (a ||| b) hc9 (or_lt32 ha hb)
   have s7 := u32_or_nat (a &&& b) (c9 &&& (a ||| b)) (and_lt32 ha) (and_lt32 hc9)
   have hst : shStep kk wk ⟨a, b, c9, d, e, f, g, h⟩ = ⟨((h + shMix e [6, 11, 25] + (g ^^^ (e &&& (f ^^^ g))) + kk + wk) % 4294967296 + (shMix a [2, 13, 22] + ((a &&& b) ||| (c9 &&& (a ||| b)))) % 4294967296) % 4294967296, a, b, c9, (d + (h + shMix e [6, 11, 25] + (g ^^^ (e &&& (f ^^^ g))) + kk + wk) % 4294967296) % 4294967296, e, f, g⟩ := rfl
   have hchl := xor_lt32 hg (and_lt32 (b := f ^^^ g) he)
   have hmjl := or_lt32 (and_lt32 (b := b) ha) (and_lt32 (b := a ||| b) hc9)
   generalize shMix e [6, 11, 25] = m1 at *
   generalize shMix a [2, 13, 22] = m2 at *
   generalize g ^^^ (e &&& (f ^^^ g)) = chv at *
   generalize e &&& (f ^^^ g) = efg at *
   generalize f ^^^ g = fg at *
   generalize (a &&& b) ||| (c9 &&& (a ||| b)) = mj at *
   generalize c9 &&& (a ||| b) = coab at *
   generalize a ||| b = oab at *
   generalize a &&& b = ab at *
   obtain ⟨T, hT⟩ : ∃ T, (h + m1 + chv + kk + wk) % 4294967296 = T := ⟨_, rfl⟩
   obtain ⟨U, hU⟩ : ∃ T, (m2 + mj) % 4294967296 = T := ⟨_, rfl⟩
   rw [hT, hU] at hst
   obtain ⟨p1, hp1⟩ : ∃ p, p = (h + m1) % 4294967296 := ⟨_, rfl⟩
   obtain ⟨p2, hp2⟩ : ∃ p, p = (p1 + chv) % 4294967296 := ⟨_, rfl⟩
   obtain ⟨p3, hp3⟩ : ∃ p, p = (p2 + kk) % 4294967296 := ⟨_, rfl⟩
   have v1 : IntKind.u32.wrap ((h : Int) + (m1 : Int)) = (p1 : Int) := by rw [IntKind.wrap_u32]; omega
   have v2 : IntKind.u32.wrap ((p1 : Int) + (chv : Int)) = (p2 : Int) := by rw [IntKind.wrap_u32]; omega
   have v3 : IntKind.u32.wrap ((p2 : Int) + (kk : Int)) = (p3 : Int) := by rw [IntKind.wrap_u32]; omega
   have v4 : IntKind.u32.wrap ((p3 : Int) + (wk : Int)) = (T : Int) := by rw [IntKind.wrap_u32]; omega
   have v5 : IntKind.u32.wrap ((m2 : Int) + (mj : Int)) = (U : Int) := by rw [IntKind.wrap_u32]; omega
   rw [hst] at hnx
   have HN := Lib.hid hnx
   have Q2 := Lib.hid q2
   have Q4 := Lib.hid q4
   have Q5 := Lib.hid q5
   have Q6 := Lib.hid q6
   have xr : g6 < wr.heap.size := qz
   have xr5 : g5 < wr.heap.size := by omega
   have hk64 : (k : Int) < 64 := by omega
   clear hst hnx q2 q4 q5 q6 hp1 hp2 hp3 hT hU M1 M2 hchl hmjl hkk hwk ha hb hc9 hd he hf hg hh
   go_wp2_with fail
   refine wp_region_seg (S := fun w' => Below wr.heap.size wr w') 0 (brw9 26 67108863) [(0, true), (1, true), (2, true), (3, true), (7, true), (8, true), (9, true), (10, true), (11, true), (12, true), (13, true), (14, true), (15, true), (16, true), (17, true), (19, true), (20, true), (21, true), (23, true), (4, false), (5, false), (6, true), (18, true), (22, true), (24, true), (25, true)] (by kernel_rfl) (by kernel_rfl) (fun _ _ d _ _ h => by first | (cases d <;> exact h) | cases h.1) ((Below.refl wr.heap.size wr).drew) ?_
   have HB := (Below.refl wr.heap.size wr).drew
   iterate 19 (refine seg_take (v := ?_) rfl (Or.inl ⟨by rfl, ?_⟩) ?_; rotate_left; (focus (intro w' hw'; have ja := (hw'.cell (p := ⟨g6, 0, none⟩) xr).trans ca; have jb := (hw'.cell (p := ⟨g6, 1, none⟩) xr).trans cb; have jc := (hw'.cell (p := ⟨g6, 2, none⟩) xr).trans cc; have jd := (hw'.cell (p := ⟨g6, 3, none⟩) xr).trans cd; have je := (hw'.cell (p := ⟨g6, 4, none⟩) xr).trans ce; have jf := (hw'.cell (p := ⟨g6, 5, none⟩) xr).trans cf; have jg := (hw'.cell (p := ⟨g6, 6, none⟩) xr).trans cg; have jh := (hw'.cell (p := ⟨g6, 7, none⟩) xr).trans ch; have jK := (hw'.cell (p := ⟨g5, k, none⟩) xr5).trans cK; go_simp <;> with_reducible rfl)); try simp only [Act.put, pst3])
   refine seg_run rfl (fun K hK => ?_)
   rw [if_pos (by rfl)]
   refine op_lit #[.int .i64 6, .int .i64 11, .int .i64 25] 3 3 rfl (fun w => by go_simp) ?_
   intro gI wI eI hIrow HIb hIsz
   have HB := below_then HB HIb
   have rI := rdsAt hIrow
   refine hK.out _ _ (HB) ?_
   clear hK
   try simp only [Act.put, pst3]
   refine seg_run rfl (fun K hK => ?_)
   go_simp
   refine (HM1.out wI _ rI).mono ?_
   rintro e_ w8 ⟨rfl, hb8⟩
   have HB := below_then HB hb8
   refine hK.out _ _ (HB) ?_
   clear hK
   try simp only [Act.put, pst3]
   iterate 5 (refine seg_take (v := ?_) rfl (Or.inl ⟨by rfl, ?_⟩) ?_; rotate_left; (focus (intro w' hw'; have ja := (hw'.cell (p := ⟨g6, 0, none⟩) xr).trans ca; have jb := (hw'.cell (p := ⟨g6, 1, none⟩) xr).trans cb; have jc := (hw'.cell (p := ⟨g6, 2, none⟩) xr).trans cc; have jd := (hw'.cell (p := ⟨g6, 3, none⟩) xr).trans cd; have je := (hw'.cell (p := ⟨g6, 4, none⟩) xr).trans ce; have jf := (hw'.cell (p := ⟨g6, 5, none⟩) xr).trans cf; have jg := (hw'.cell (p := ⟨g6, 6, none⟩) xr).trans cg; have jh := (hw'.cell (p := ⟨g6, 7, none⟩) xr).trans ch; have jK := (hw'.cell (p := ⟨g5, k, none⟩) xr5).trans cK; go_simp <;> with_reducible rfl)); try simp only [Act.put, pst3])
   refine seg_done (fun _ => ?_)
   refine wpAnyH_done (by kernel_rfl) ?_ _
   obtain ⟨H8b, _⟩ : ∃ h : Below wr.heap.size wr w8, True := ⟨HB, trivial⟩
   have xr8 : g6 < w8.heap.size := Nat.lt_of_lt_of_le xr H8b.size
   have ca8 := (H8b.cell (p := ⟨g6, 0, none⟩) xr).trans ca
   have cb8 := (H8b.cell (p := ⟨g6, 1, none⟩) xr).trans cb
   have cc8 := (H8b.cell (p := ⟨g6, 2, none⟩) xr).trans cc
   have cd8 := (H8b.cell (p := ⟨g6, 3, none⟩) xr).trans cd
   have ce8 := (H8b.cell (p := ⟨g6, 4, none⟩) xr).trans ce
   have cf8 := (H8b.cell (p := ⟨g6, 5, none⟩) xr).trans cf
   have cg8 := (H8b.cell (p := ⟨g6, 6, none⟩) xr).trans cg
   have ch8 := (H8b.cell (p := ⟨g6, 7, none⟩) xr).trans ch
   go_wp2_with fail
   refine wp_region_seg (S := fun w' => Below w8.heap.size w8 w') 0 (brw9 20 1048575) [(0, true), (1, true), (4, true), (5, true), (6, true), (7, true), (8, true), (9, true), (10, true), (11, true), (12, true), (13, true), (14, true), (15, true), (16, true), (17, true), (2, false), (3, false), (18, true), (19, true)] (by kernel_rfl) (by kernel_rfl) (fun _ _ d _ _ h => by first | (cases d <;> exact h) | cases h.1) ((Below.refl w8.heap.size w8).drew) ?_
   have HB := (Below.refl w8.heap.size w8).drew
   iterate 16 (refine seg_take (v := ?_) rfl (Or.inl ⟨by rfl, ?_⟩) ?_; rotate_left; (focus (intro w' hw'; have ja := (hw'.cell (p := ⟨g6, 0, none⟩) xr8).trans ca8; have jb := (hw'.cell (p := ⟨g6, 1, none⟩) xr8).trans cb8; have jc := (hw'.cell (p := ⟨g6, 2, none⟩) xr8).trans cc8; have jd := (hw'.cell (p := ⟨g6, 3, none⟩) xr8).trans cd8; have je := (hw'.cell (p := ⟨g6, 4, none⟩) xr8).trans ce8; have jf := (hw'.cell (p := ⟨g6, 5, none⟩) xr8).trans cf8; have jg := (hw'.cell (p := ⟨g6, 6, none⟩) xr8).trans cg8; have jh := (hw'.cell (p := ⟨g6, 7, none⟩) xr8).trans ch8; go_simp <;> with_reducible rfl)); try simp only [Act.put, pst3])
   refine seg_run rfl (fun K hK => ?_)
   rw [if_pos (by rfl)]
   refine op_lit #[.int .i64 2, .int .i64 13, .int .i64 22] 3 3 rfl (fun w => by go_simp) ?_
   intro gJ wJ eJ hJrow HJb hJsz
   have HB := below_then HB HJb
   have rJ := rdsAt hJrow
   refine hK.out _ _ (HB) ?_
   clear hK
   try simp only [Act.put, pst3]
   refine seg_run rfl (fun K hK => ?_)
   go_simp
   refine (HM2.out wJ _ rJ).mono ?_
   rintro e_ w9 ⟨rfl, hb9⟩
   have HB := below_then HB hb9
   refine hK.out _ _ (HB) ?_
   clear hK
   try simp only [Act.put, pst3]
   iterate 2 (refine seg_take (v := ?_) rfl (Or.inl ⟨by rfl, ?_⟩) ?_; rotate_left; (focus (intro w' hw'; have ja := (hw'.cell (p := ⟨g6, 0, none⟩) xr8).trans ca8; have jb := (hw'.cell (p := ⟨g6, 1, none⟩) xr8).trans cb8; have jc := (hw'.cell (p := ⟨g6, 2, none⟩) xr8).trans cc8; have jd := (hw'.cell (p := ⟨g6, 3, none⟩) xr8).trans cd8; have je := (hw'.cell (p := ⟨g6, 4, none⟩) xr8).trans ce8; have jf := (hw'.cell (p := ⟨g6, 5, none⟩) xr8).trans cf8; have jg := (hw'.cell (p := ⟨g6, 6, none⟩) xr8).trans cg8; have jh := (hw'.cell (p := ⟨g6, 7, none⟩) xr8).trans ch8; go_simp <;> with_reducible rfl)); try simp only [Act.put, pst3])
   refine seg_done (fun _ => ?_)
   refine wpAnyH_done (by kernel_rfl) ?_ _
   have H9 := below_then H8b HB
   have R69 := (H9.block g6 xr).trans Q6.out
   have srcs : ∀ (j : Nat) v, ([vW a, vW b, vW c9, vW d, vW e, vW f, vW g] : List Value)[j]? = some v → w9.drew.cell? ((⟨g6, 0, none⟩ : Addr).add j) = some v := fun j v hv => by
    rw [Addr.add_lit, Nat.zero_add]
    refine (cell_of_row w9 g6 j _ _ _ R69).trans ?_
    match j, hv with
    | 0, hv | 1, hv | 2, hv | 3, hv | 4, hv | 5, hv | 6, hv => exact hv
   have SRC := Lib.hid srcs
   have R69H := Lib.hid R69
   have ls8 : Below w.heap.size w w9 := below_then BR H9
   clear srcs R69 ix s1 s2 s3 s4 s5 s6 s7 v1 v2 v3 v4 v5 ca cb cc cd ce cf cg ch ca8 cb8 cc8 cd8 ce8 cf8 cg8 ch8 cK
   go_wp2_with fail
   refine wp_region_last (S := fun w' => Below (g6) w9 w') 2 #[true, true, false] [(0, true), (1, true)] (by kernel_rfl) (by kernel_rfl) (fun _ _ d _ _ h => by cases d <;> exact h) ((Below.refl _ w9).drew) ?_
   iterate 2 (refine seg_take (v := ?_) rfl (Or.inl ⟨by rfl, ?_⟩) ?_; rotate_left; (focus (intro w' hw'; go_simp <;> with_reducible rfl)); try simp only [Act.put, pst3])
   refine seg_done ?_
   refine last_run rfl (fun K hK => ?_)
   refine step_copy_splice rfl _ _ 177 177 rfl 28 Tryz.underlying177 (by kernel_rfl) (some ⟨g6, 1, none⟩) (some ⟨g6, 0, none⟩) 7 7 7 8 rfl rfl g6 1 [vW a, vW b, vW c9, vW d, vW e, vW f, vW g, vW h] 137 R69H.out [vW a, vW b, vW c9, vW d, vW e, vW f, vW g] rfl (fun _ => ⟨rfl, _, rfl, SRC.out⟩) (by simp) (by simp [vW, Value.oneCell']) g6 w9 (Below.refl g6 w9).drew (Nat.le_refl _) ?_
   intro w10 hr10 hb10
   refine hK.out _ _ ?_
   clear hK
   try simp only [Act.put, pst3]
   have r10 : w10.heap[g6]? = some (.cells (wsV [a, a, b, c9, d, e, f, g]) 137 (0, 0)) := hr10.out
   have R10 := Lib.hid r10
   have k4 := (cell_of_row w10 _ 4 _ _ _ r10).trans (show (wsV [a, a, b, c9, d, e, f, g])[4]? = some (.int .u32 (d : Int)) from rfl)
   have k0 := (cell_of_row w10 _ 0 _ _ _ r10).trans (show (wsV [a, a, b, c9, d, e, f, g])[0]? = some (.int .u32 (a : Int)) from rfl)
   have f4 : w10.frozen? ⟨g6, 4, none⟩ = false := frozen_of_row _ _ _ _ _ r10
   have f0 : w10.frozen? ⟨g6, 0, none⟩ = false := frozen_of_row _ _ _ _ _ r10
   have k0' : ∀ v, (w10.setCell ⟨g6, 4, none⟩ v).cell? ⟨g6, 0, none⟩ = some (.int .u32 (a : Int)) := fun v => scell_off (by decide) k0
   clear r10 hr10
   have e4 : ((d : Int) + (T : Int)) % 4294967296 = (((d + T) % 4294967296 : Nat) : Int) := by omega
   have e0 : ((T : Int) + (U : Int)) % 4294967296 = (((T + U) % 4294967296 : Nat) : Int) := by omega
   have E4 := Lib.hid e4
   have E0 := Lib.hid e0
   have z9 := H9.size
   have z10 := hb10.size
   have b10 : Below w.heap.size w w10 := ls8.trans (hb10.mono (by omega))
   have b910 : ∀ j, j < g6 → w10.heap[j]? = wr.heap[j]? := fun j hj => (hb10.block j hj).trans (H9.block j (by omega))
   have T2 := Lib.hid ((b910 w.heap.size (by omega)).trans Q2.out)
   have T4 := Lib.hid ((b910 (w.heap.size + 1) (by omega)).trans Q4.out)
   have T5 := Lib.hid ((b910 g5 hg56).trans Q5.out)
   have B910 := Lib.hid b910
   clear e4 e0 b910
   go_wp2_with fail
   go_roundw
   case rel =>
    refine ⟨k + 1, by omega, by go_num, ⟨?_, ?_, ?_, ?_, ?_⟩, (b10.setCell (p := ⟨g6, 4, none⟩) (by show w.heap.size ≤ g6; omega) _).setCell (p := ⟨g6, 0, none⟩) (by show w.heap.size ≤ g6; omega) _⟩
    ·rw [Below.heap_setCell _ _ _ _ (by show w.heap.size ≠ g6; omega), Below.heap_setCell _ _ _ _ (by show w.heap.size ≠ g6; omega)]; exact T2.out
    ·rw [Below.heap_setCell _ _ _ _ (by show w.heap.size + 1 ≠ g6; omega), Below.heap_setCell _ _ _ _ (by show w.heap.size + 1 ≠ g6; omega)]; exact T4.out
    ·rw [Below.heap_setCell _ _ _ _ (by show g5 ≠ g6; omega), Below.heap_setCell _ _ _ _ (by show g5 ≠ g6; omega)]; exact T5.out
    ·rw [setc_rowT (setc_rowT R10.out), E4.out, E0.out, wsV_set, wsV_set, HN.out]; rfl
    ·simp [World.setCell]; omega
   case measure => simp [intOf]; omega
  ·obtain rfl : k = 64 := by omega
   rw [show ((64 : Nat) : Int) = 64 from rfl]
   have hy := shRounds_ok ws HX.out 64
   generalize shRounds ws x 64 = y at *
   have hxo := HX.out
   have HYO := Lib.hid hy
   clear hy
   go_wp2_with fail
   go_loopw [81] (TuJ w x y g5 g6) (fun i _ => 8 - (intOf i).toNat)
   case atStart => exact ⟨0, by omega, rfl, ⟨by rw [adP_zero]; exact q2, q4, q5, q6, qz⟩, BR⟩
   case round =>
    clear q2 q4 q5 q6 qz BR
    obtain ⟨k, hk, rfl, ⟨q2, q4, q5, q6, qz⟩, BR⟩ := hrel
    by_cases hlt : k < 8
    ·obtain ⟨s1, s2⟩ := adP_step x y k hlt
     have c2 := (cell_of_row wr _ k _ _ _ q2).trans (wsV_get _ k (by rw [adP_len _ _ _ (by omega)]; exact hlt))
     have c6 := (cell_of_row wr _ k _ _ _ q6).trans (wsV_get _ k hlt)
     have lx := H8.l_lt hxo k
     have ly := H8.l_lt HYO.out k
     rw [s1] at c2
     generalize x.l.getD k 0 = xk at *
     generalize y.l.getD k 0 = yk at *
     have fz : wr.frozen? ⟨w.heap.size, k, none⟩ = false := frozen_of_row _ _ _ _ _ q2
     have S2 := Lib.hid s2
     have Q2 := Lib.hid q2
     have Q4 := Lib.hid q4
     have Q5 := Lib.hid q5
     have Q6 := Lib.hid q6
     have k8 : (k : Int) < 8 := by omega
     obtain ⟨V, hV⟩ : ∃ V, V = (xk + yk) % 4294967296 := ⟨_, rfl⟩
     have v1 : IntKind.u32.wrap ((xk : Int) + (yk : Int)) = (V : Int) := by rw [IntKind.wrap_u32]; omega
     rw [← hV] at S2
     have zr : w.heap.size < wr.heap.size := by omega
     clear s1 s2 q2 q4 q5 q6 hV hxo
     go_wp2_with fail
     refine wp_region_last (S := fun w' => Below wr.heap.size wr w') 8 (brw9 9 255) [(0, true), (1, true), (2, true), (3, true), (4, true), (5, true), (6, true), (7, true)] (by kernel_rfl) (by kernel_rfl) (fun _ _ d _ _ h => by cases d <;> exact h) ((Below.refl _ wr).drew) ?_
     iterate 8 (refine seg_take (v := ?_) rfl (Or.inl ⟨by rfl, ?_⟩) ?_; rotate_left; (focus (intro w' hw'; have j2 := (hw'.cell (p := ⟨w.heap.size, k, none⟩) zr).trans c2; have j6 := (hw'.cell (p := ⟨g6, k, none⟩) qz).trans c6; go_simp <;> with_reducible rfl)); try simp only [Act.put, pst3])
     refine seg_done ?_
     refine last_run rfl (fun K hK => ?_)
     go_simp
     go_simp
     refine hK.out _ _ ?_
     clear hK
     try simp only [Act.put, pst3]
     go_wp2_with fail
     go_roundw
     case rel =>
      refine ⟨k + 1, by omega, by go_num, ⟨?_, ?_, ?_, ?_, by simp [World.setCell]; omega⟩, (BR.setCell (p := ⟨w.heap.size, k, none⟩) (Nat.le_refl _) _).drew⟩
      ·show (wr.setCell ⟨w.heap.size, k, none⟩ _).heap[w.heap.size]? = _
       rw [setc_rowT Q2.out, wsV_set, S2.out]
      ·show (wr.setCell ⟨w.heap.size, k, none⟩ _).heap[w.heap.size + 1]? = _
       rw [Below.heap_setCell _ _ _ _ (by show w.heap.size + 1 ≠ w.heap.size; omega)]; exact Q4.out
      ·show (wr.setCell ⟨w.heap.size, k, none⟩ _).heap[g5]? = _
       rw [Below.heap_setCell _ _ _ _ (by show g5 ≠ w.heap.size; omega)]; exact Q5.out
      ·show (wr.setCell ⟨w.heap.size, k, none⟩ _).heap[g6]? = _
       rw [Below.heap_setCell _ _ _ _ (by show g6 ≠ w.heap.size; omega)]; exact Q6.out
     case measure => simp [intOf]; omega
    ·obtain rfl : k = 8 := by omega
     rw [adP_all] at q2
     have Q2 := Lib.hid q2
     have Q4 := Lib.hid q4
     clear q2 q4 q5 q6
     go_wp2_with (first
      | (refine w8_load rfl _ rfl w.heap.size rfl (x.add y).l 137 Q2.out rfl ?_)
      | (refine w8_store rfl _ _ rfl (w.heap.size + 1) rfl (x.add y).l z8 rfl 137 Q4.out rfl rfl ?_))
     refine bodyPost_ret (results_cell_row Tryz.results105 _ _ (w.heap.size + 1) 137 (wsV (x.add y).l) (0, 0) _ rfl (setRow_heap _ _ _ (wsV (x.add y).l) _ _ Q4.out) Tryz.underlying137 rfl (info8 (x.add y).l rfl)) rfl ?_
     exact ⟨rfl, below_setRow BR (by omega) _⟩
theorem shaTurn_any (x : H8) (A : Option Addr) (n c : Nat) (xs : List UInt8) (w : World) (hx : x.ok) (hr : RdB w A n c xs) :
  Calls Tryz.prog 105 #[.agg (wsV x.l), .slice A n c] w (RetW w (shTurn x xs).l) := by
 by_cases h : n = 64
 ·subst h; exact shaTurn_long x A c xs w hx hr
 ·exact shaTurn_short x A n c xs w hr h
set_option maxHeartbeats 8000000
theorem wp_makeLC {ops : Array Oper} {rest : List Oper} {o : Oper} {a : Act} {w : World} {Q : Exit → Act → World → Prop} (hgd : o.guard = none) (ll cc : Operand) (ho : o.op = Op.makeSlice 47 ll cc)
  (kl kc : IntKind) (L C : Int) (l c : Nat) (hL : L = (l : Int)) (hC : C = (c : Int)) (hl : a.eval ll = .int kl L) (hc : a.eval cc = .int kc C) (hlc : l ≤ c) (hn : c ≤ 70368744177664)
  (h : ∀ w', OwnB w' w.heap.size (some ⟨w.heap.size, 0, none⟩) l c (List.replicate l 0) → Below w.heap.size w w' → wpList Tryz.prog ops Q rest (a.put o.dst (.slice (some ⟨w.heap.size, 0, none⟩) l c)) w') : wpList Tryz.prog ops Q (o :: rest) a w := by
 subst hL hC
 obtain ⟨i, hi, hz, hsz, hby⟩ := info_parts elemB.info
 have hr := run_make (P := Tryz.prog) w 47 5 i _ elemB.slice hi hz kl kc l c (by omega) (by omega) (by rw [hby]; omega) (by omega)
 simp only [Int.toNat_natCast, hsz, Nat.mul_one, show (Value.int .u8 0).cells = #[Value.int .u8 0] from rfl] at hr
 refine wpList_plain hgd fun K hK => ?_
 unfold Oper.wp
 simp [execOp, ho, hl, hc, hr, Result.andThen]
 refine hK _ _ (h _ ⟨by simp, .inr ⟨w.heap.size, c, _, rfl, Nat.le_refl _, heap_alloc_new w _, hlc, by unfold maxLen; omega, by rw [size_madeCells]; omega, ?_⟩⟩ ((below_self w).alloc (Nat.le_refl _) _))
 have e := toList_madeCells_one (Value.int .u8 0) c
 rw [e, Nat.mul_one, List.take_replicate, Nat.min_eq_left hlc, List.map_replicate]; rfl
theorem shaPad_any (n : Nat) (w : World) (h : n ≤ 1000000) : Calls Tryz.prog 104 #[.int .i64 (n : Int)] w (RetB w (shPad n)) := by
 obtain ⟨r, hr⟩ : ∃ r, r = n % 64 := ⟨_, rfl⟩
 obtain ⟨q, hq⟩ : ∃ q, q = 119 - r := ⟨_, rfl⟩
 obtain ⟨z, hz⟩ : ∃ z, z = q % 64 := ⟨_, rfl⟩
 have a1 : (n : Int) % 64 = (r : Int) := by omega
 have a2 : (119 : Int) - (r : Int) = (q : Int) := by omega
 have a3 : (q : Int) % 64 = (z : Int) := by omega
 have a4 : 8 * n < 18446744073709551616 := by omega
 have d1 : decide ((n : Int) < 0) = false := decide_eq_false (by omega)
 obtain ⟨m, hm⟩ : ∃ m, m = 8 * n := ⟨_, rfl⟩
 have hP : shPad n = [128] ++ List.replicate z 0 ++ beB (8 * n) 8 := by unfold shPad; rw [← hr, ← hq, ← hz]; simp
 rw [← hm] at hP
 have HP := Lib.hid hP
 have hm64 : m < 18446744073709551616 := by omega
 have hz64 : z < 64 := by omega
 have wn := w64n (k := n) (by omega)
 have w8 : IntKind.u64.wrap ((n : Int) * 8) = (m : Int) := by rw [IntWalk.u64_in _ (by omega)]; omega
 have w9 : (n : Int) * 8 % 18446744073709551616 = (m : Int) := by omega
 clear hP hr hq hz hm a4
 go_enter Tryz.func104, Tryz.ntmps104
 go_wp2_with (first
  | (at_builtin; refine wp_appZ rfl _ _ rfl (hb1.setCell (p := ⟨w.heap.size, 0, none⟩) (Nat.le_refl _) _) (Nat.le_refl _) (by have := hb1.size; simpa [World.setCell] using this) (some ⟨w.heap.size, 0, none⟩) 1 (1 + z + 8) [128] rfl (ho1.set_ 0 128) z .i64 _ rfl rfl (by omega) (1 + z) ([128] ++ List.replicate z 0) rfl rfl ?_; intro A4 c4 w4 ho4 hb4 hg4)
  | (refine wp_makeLC rfl _ _ rfl .i64 .i64 1 _ 1 (1 + z + 8) rfl ?_ rfl rfl (by omega) (by omega) ?_; (omega); intro w1 ho1 hb1; have f1 := ho1.free 0; have c1 := ho1.rd.cellS 0 (by omega)))
 refine (be_any m 8 w4 hm64).mono ?_
 rw [show clamp 8 = 8 from rfl]
 rintro e w5 ⟨A5, n5, c5, rfl, ho5, hb5⟩
 obtain rfl : n5 = 8 := by rw [← ho5.len, beB_length]
 have B5 := below_then hb4 hb5
 go_wp2_with (at_builtin; refine wp_appB rfl _ _ rfl B5 (Nat.le_refl _) B5.size A4 (1 + z) c4 ([128] ++ List.replicate z 0) rfl (ho4.below hb5) A5 8 c5 (beB m 8) rfl ho5.rd (by omega) (1 + z + 8) (shPad n) rfl (by rw [HP.out]) ?_; intro A6 c6 w6 ho6 hb6 hg6)
 go_ret
 exact ⟨_, _, _, rfl, ho6, hb6⟩
end Go.Proofs.YtpahicfnhhhifaaGreat
namespace Go.Proofs.YtpahicfnhhhifaaGreat
set_option maxRecDepth 20000
open Go.RowKit Go.Shelf
set_option maxHeartbeats 8000000
attribute [local go_sem] Oper.semAt_some
def KpX (n₁ g : Nat) (A B : World) : Prop := A.heap.size ≤ B.heap.size ∧ ∀ j, j < n₁ → j ≠ g → B.heap[j]? = A.heap[j]?
theorem KpX.refl (n₁ g : Nat) (A : World) : KpX n₁ g A A := ⟨Nat.le_refl _, fun _ _ _ => rfl⟩
theorem KpX.trans {n₁ g : Nat} {A B C : World} (h : KpX n₁ g A B) (k : KpX n₁ g B C) : KpX n₁ g A C := ⟨Nat.le_trans h.1 k.1, fun j hj hg => (k.2 j hj hg).trans (h.2 j hj hg)⟩
theorem KpX.cell {n₁ g : Nat} {A B : World} (h : KpX n₁ g A B) {p : Addr} (h1 : p.block < n₁) (h2 : p.block ≠ g) : B.cell? p = A.cell? p := World.cell?_of_block (h.2 _ h1 h2)
def chOff (k : Nat) : List Nat := (List.range k).map (64 * ·)
theorem chOff_succ (k : Nat) : chOff (k + 1) = chOff k ++ [64 * k] := by simp [chOff, List.range_succ]
theorem chOff_len (k : Nat) : (chOff k).length = k := by simp [chOff]
set_option maxRecDepth 100000 in
theorem chunk1_in (B n l Bs Bn n₁ g b o L M c : Nat) (hn : 1 ≤ n) (hL : L = 64 * M) (hLc : L ≤ c) (hc : c ≤ 9223372036854775807) (hb : b < n₁ ∧ b ≠ g) (hs : Bs < n₁ ∧ Bs ≠ g) (hn2 : Bn < n₁ ∧ Bn ≠ g) (J Jx : List Nat → World → Prop) (hJ : AbidesFrom B J)
  (hY : ∀ pre x W, J pre W → pre.length < M → x = 64 * pre.length → YieldAt Fence.wide (n - 1) Tryz.prog l #[.slice (some ⟨b, o + x, none⟩) 64 64] W fun e W' =>
   (e = .returned (.bool true) ∧ J (pre ++ [x]) W' ∧ KpX n₁ g W W') ∨ (e = .returned (.bool false) ∧ Jx (pre ++ [x]) W'))
  (W : World) (hBs : W.cell? ⟨Bs, 0, none⟩ = some (.slice (some ⟨b, o, none⟩) L c)) (hBn : W.cell? ⟨Bn, 0, none⟩ = some (.int .i64 64)) (h0 : J [] W) :
  CallsIn Fence.wide n Tryz.prog 136 #[.func (.yield l) #[] #[], .pointer (some ⟨Bs, 0, none⟩), .pointer (some ⟨Bn, 0, none⟩)] W fun e W' => (∃ v, e = .returned v) ∧
   ((∃ ys, ys = chOff M ∧ J ys W') ∨ (∃ pre, (∃ k, k ≤ M ∧ pre = chOff k) ∧ Jx pre W')) := by
 refine callsIn_of_wp Tryz.func136 rfl trivial ?_ rfl
 simp only [Tryz.ntmps136, List.size_toArray, List.length_cons, List.length_nil, Nat.reduceAdd, Nat.reduceSub, Array.replicate_succ, Array.replicate_zero, List.push_toArray, List.append_toArray, List.nil_append, List.cons_append]
 have HL := Lib.hid hL
 clear hL
 gi_wp2
 gi_loopw [4] (fun i wr => ∃ k p : Nat, k ≤ M ∧ p = 64 * k ∧ i = .int .i64 p ∧ J (chOff k) wr ∧ KpX n₁ g W wr)
  (fun i _ => L - (intOf i).toNat)
 case atStart => exact ⟨0, 0, Nat.zero_le _, rfl, rfl, h0, KpX.refl _ _ _⟩
 case round =>
  obtain ⟨k, p, hk, hp, rfl, hJs, hnx⟩ := hrel
  have hBs' := (hnx.cell (p := ⟨Bs, 0, none⟩) hs.1 hs.2).trans hBs
  have hBn' := (hnx.cell (p := ⟨Bn, 0, none⟩) hn2.1 hn2.2).trans hBn
  have HP := Lib.hid hp
  have hLL := HL.out
  by_cases hlt : k < M
  ·obtain ⟨fn, tmps, assign, body, hy, hR⟩ := hY _ p wr.drew (hJ _ _ wr.drew none hJs ⟨rfl, rfl, rfl, Nat.le_refl _, fun _ _ _ => rfl⟩ (fun r e => by cases e)) (by rw [chOff_len]; exact hlt) (by rw [chOff_len]; exact hp)
   obtain ⟨q, hq⟩ : ∃ q, q = p + 64 := ⟨_, rfl⟩
   have a1 : (p : Int) + 64 = (q : Int) := by omega
   have a2 : (q : Int) ≤ (c : Int) := by omega
   have a3 : (p : Int) ≤ (q : Int) := by omega
   have a4 : q - p = 64 := by omega
   have a5 : (p : Int) < (L : Int) := by omega
   have a6 : min (64 : Int) ((L - p : Nat) : Int) = 64 := by omega
   have a7 : ¬ (c = p) := by omega
   have a8 : p < L := by omega
   have a9 : (p : Int) ≤ (L : Int) := by omega
   have HQ := Lib.hid hq
   clear hp hLL hq
   gi_wp2
   gi_region
   gi_wp2
   refine hR.mono ?_
   rintro e W3 (⟨rfl, hJ3, hk3⟩ | ⟨rfl, hJx3⟩)
   ·have hnx3 : KpX n₁ g W W3 := hnx.trans (KpX.trans ⟨Nat.le_refl _, fun _ _ _ => rfl⟩ hk3)
    have hBn3 := (hnx3.cell (p := ⟨Bn, 0, none⟩) hn2.1 hn2.2).trans hBn
    gi_wp2
    go_roundw
    case rel => exact ⟨k + 1, q, by omega, by have := HP.out; have := HQ.out; omega, by simp [a1], by rw [chOff_succ, ← HP.out]; exact hJ3, hnx3⟩
    case measure => simp [intOf]; omega
   ·gi_wp2
    refine bodyPost_ret (results_none rfl _ _ _) rfl ?_
    exact ⟨⟨_, rfl⟩, .inr ⟨_, ⟨k + 1, by omega, by rw [chOff_succ, ← HP.out]⟩, hJx3⟩⟩
  ·obtain rfl : k = M := by omega
   have a5 : ¬ ((p : Int) < (L : Int)) := by omega
   clear hp hLL
   gi_wp2
   go_end0
   exact ⟨⟨_, rfl⟩, .inl hJs⟩
end Go.Proofs.YtpahicfnhhhifaaGreat
namespace Go.Proofs.YtpahicfnhhhifaaGreat
set_option maxRecDepth 20000
open Go.RowKit Go.Shelf
set_option maxHeartbeats 8000000
attribute [local go_sem] Oper.semAt_some
section
variable {F : Fence} {n : Nat} {ops : Array Oper} {rest : List Oper} {o : Oper} {a : Act} {w : World} {Q : Exit → Act → World → Prop}
theorem w8_loadIn (hgd : o.guard = none) (x : Operand) (ho : o.op = .load 137 x) (h : Nat) (hx : a.eval x = .pointer (some ⟨h, 0, none⟩)) (y : List Nat) (T : TypeId) (hrow : w.heap[h]? = some (.cells (wsV y) T (0, 0))) (hl : y.length = 8)
  (hK : wpListIn F n Tryz.prog ops Q rest (a.put o.dst (.agg (wsV y))) w) : wpListIn F n Tryz.prog ops Q (o :: rest) a w := by
 refine wpListIn_plain hgd fun K hK' => ?_
 unfold Oper.wpIn
 refine ⟨?_, ?_⟩
 ·simp [Oper.about, ho]
 ·rw [Oper.semAt_plain F _ _ (by rw [ho]; intro c hc'; cases hc')]
  have hr := run_loadVar_row (P := Tryz.prog) w h T 137 (wsV y) (0, 0) _ hrow Tryz.underlying137 rfl (info8 y hl)
  unfold execOp
  simp only [ho, hx, Instr.loadAt, Instr.sureAddr, Sem.run_bind, Sem.run_pure, Result.andThen_ok, hr]
  exact hK' _ _ hK
theorem w8_storeIn (hgd : o.guard = none) (x z : Operand) (ho : o.op = .store 137 x z) (h : Nat) (hx : a.eval x = .pointer (some ⟨h, 0, none⟩)) (y old : List Nat) (hz : a.eval z = .agg (wsV y)) (T : TypeId) (hrow : w.heap[h]? = some (.cells (wsV old) T (0, 0))) (hl : y.length = 8) (ho2 : old.length = 8)
  (hK : wpListIn F n Tryz.prog ops Q rest (a.put o.dst undef) (w.setRow h (wsV y))) : wpListIn F n Tryz.prog ops Q (o :: rest) a w := by
 refine wpListIn_plain hgd fun K hK' => ?_
 unfold Oper.wpIn
 refine ⟨?_, ?_⟩
 ·simp [Oper.about, ho]
 ·rw [Oper.semAt_plain F _ _ (by rw [ho]; intro c hc'; cases hc')]
  have hr := run_storeVar_row (P := Tryz.prog) w h T 137 (wsV old) (wsV y) hrow (info8 y hl) (by rw [wsV_size, wsV_size, hl, ho2]) (wsV_one y)
  unfold execOp
  simp only [ho, hx, hz, Instr.storeAt, Instr.sureAddr, Sem.run_bind, Sem.run_pure, Result.andThen_ok, hr]
  exact hK' _ _ hK
end
def RetCh (w : World) (A : Option Addr) (L c : Nat) (e : Ending) (w' : World) : Prop :=
 e = .returned (.func (.func 136) #[] #[.pointer (some ⟨w.heap.size, 0, none⟩), .pointer (some ⟨w.heap.size + 1, 0, none⟩)]) ∧ w'.cell? ⟨w.heap.size, 0, none⟩ = some (.slice A L c) ∧ w'.cell? ⟨w.heap.size + 1, 0, none⟩ = some (.int .i64 64) ∧ Below w.heap.size w w' ∧ w.heap.size + 1 < w'.heap.size
theorem chunk_any (A : Option Addr) (L c : Nat) (w : World) : Calls Tryz.prog 100 #[.slice A L c, .int .i64 64] w (RetCh w A L c) := by
 go_enter Tryz.func100, Tryz.ntmps100
 go_wp2
 go_ret
 exact ⟨rfl, cell_of_row _ _ 0 _ _ _ (row2a ..), cell_of_row _ _ 0 _ _ _ (row2b ..), ((below_self w).alloc (Nat.le_refl _) _).alloc (by simp) _, by simp⟩
theorem chunk_stops (n Bs Bn n₁ g b o L M c : Nat) (hn : 1 ≤ n) (hL : L = 64 * M) (hLc : L ≤ c) (hc : c ≤ 9223372036854775807) (hb : b < n₁ ∧ b ≠ g) (hs : Bs < n₁ ∧ Bs ≠ g) (hn2 : Bn < n₁ ∧ Bn ≠ g) (w : World) (hz : n₁ ≤ w.heap.size)
  (hBs : w.cell? ⟨Bs, 0, none⟩ = some (.slice (some ⟨b, o, none⟩) L c)) (hBn : w.cell? ⟨Bn, 0, none⟩ = some (.int .i64 64)) :
  SeqStopsK Fence.wide n Tryz.prog 136 #[.pointer (some ⟨Bs, 0, none⟩), .pointer (some ⟨Bn, 0, none⟩)] (fun x : Nat => #[Value.slice (some ⟨b, o + 64 * (x % M), none⟩) 64 64]) (KpX n₁ g) (fun ys => ys = List.range M) (fun pre => ∃ k, k ≤ M ∧ pre = List.range k) M w := by
 intro l J Jx W hW hJ hJx hY h0
 refine (chunk1_in W.heap.size n l Bs Bn n₁ g b o L M c hn hL hLc hc hb hs hn2 (fun ys => J (List.range ys.length)) (fun ys => Jx (List.range ys.length)) (fun s A B row h hg hr => hJ (List.range s.length) A B row h hg hr) ?_ W ((hW.cell (p := ⟨Bs, 0, none⟩) (by show Bs < _; omega)).trans hBs) ((hW.cell (p := ⟨Bn, 0, none⟩) (by show Bn < _; omega)).trans hBn) h0).mono ?_
 ·intro pre x W1 hp hl hx
  have h := hY (List.range pre.length) pre.length W1 hp (by rw [List.length_range]; exact hl)
  dsimp only at h
  rw [Nat.mod_eq_of_lt hl, ← hx] at h
  refine h.mono ?_
  intro e W2 hh
  have e1 : List.range (pre ++ [x]).length = List.range pre.length ++ [pre.length] := by simp [List.range_succ]
  rw [e1]
  exact hh
 ·rintro e W2 ⟨hv, (⟨ys, rfl, h⟩ | ⟨pre, ⟨k, hk, rfl⟩, h⟩)⟩
  ·rw [chOff_len] at h
   exact ⟨hv, .inl ⟨_, rfl, h⟩⟩
  ·rw [chOff_len] at h
   exact ⟨hv, .inr ⟨_, ⟨k, hk, rfl⟩, h⟩⟩
end Go.Proofs.YtpahicfnhhhifaaGreat
