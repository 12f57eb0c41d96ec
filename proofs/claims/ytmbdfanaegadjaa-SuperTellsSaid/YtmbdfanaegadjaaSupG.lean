/-
  Layer 13: the document's Get.
-/
import Derived.Test.YtmbdfanaegadjaaSupF
namespace Go.Proofs.Ytmbdfanaegadjaa
set_option maxRecDepth 20000
open Go.RowKit
set_option linter.unusedVariables false
set_option linter.unusedSimpArgs false
set_option maxHeartbeats 8000000

def digP (D : List UInt8) (k : Nat) : List UInt8 := D.take k ++ List.replicate (32 - k) 0
theorem digP_zero (D : List UInt8) : digP D 0 = List.replicate 32 0 := by simp [digP]
theorem digP_all (D : List UInt8) (h : D.length = 32) : digP D 32 = D := by simp [digP, List.take_of_length_le (show D.length ≤ 32 by omega)]
theorem digP_at (D : List UInt8) (k : Nat) (h : k < 32) (hD : D.length = 32) : ((digP D k).map vB)[k]? = some (.int .u8 0) := by
  have ht : (D.take k).length = k := by rw [List.length_take]; omega
  rw [List.getElem?_map, digP, List.getElem?_append_right (by omega), ht, Nat.sub_self]
  simp [show 0 < 32 - k by omega, vB]
theorem digP_set (g : Nat) (s l : Int) (D : List UInt8) (k : Nat) (h : k < 32) (hD : D.length = 32) : (suV g s l (digP D k)).setIfInBounds (3 + k) (.int .u8 ((D.getD k 0).toNat : Int)) = suV g s l (digP D (k + 1)) := by
  have e : (digP D k).set k (D.getD k 0) = digP D (k + 1) := by
    unfold digP
    have ht : (D.take k).length = k := by rw [List.length_take]; omega
    rw [List.set_append_right _ _ (by omega), ht, Nat.sub_self, show 32 - k = (32 - (k + 1)) + 1 by omega, List.replicate_succ, List.set_cons_zero, take_snoc D k (by omega)]
    rw [List.append_assoc]
    congr 1
    simp [List.getD, show k < D.length by omega]
  rw [← e]
  unfold suV
  apply Array.ext'
  rw [Array.toList_setIfInBounds]
  simp only [Array.toList_append, List.map_set, vB]
  rw [List.set_append_right _ _ (by simp)]
  simp
theorem setc_rowT {w : World} {g i : Nat} {cs : Array Value} {T : TypeId} {v : Value} (h : w.heap[g]? = some (.cells cs T (0, 0))) : (w.setCell ⟨g, i, none⟩ v).heap[g]? = some (.cells (cs.setIfInBounds i v) T (0, 0)) := by
  rw [setCell_eq_setRow w g i cs T (0, 0) v h]
  exact setRow_heap w g cs _ T (0, 0) h
theorem build_su0 (w : World) (g : Nat) (s l : Int) : (Instr.build 26 #[(0, .int .u32 g), (2, .int .i64 l), (1, .int .i64 s)]).run Try.prog w = .ok (.agg (suV g s l (List.replicate 32 0))) w :=
  run_build w _ _ _ (by kernel_rfl)
def RGetI (W : World) (zz gL G S L : Nat) (D : List UInt8) (v : Value) (wr : World) : Prop :=
  ∃ k : Nat, k ≤ 32 ∧ v = .int .i64 (k : Nat) ∧ wr.heap[gL]? = some (.cells (suV G S L (digP D k)) 26 (0, 0)) ∧ Below W.heap.size W wr ∧ zz ≤ wr.heap.size
theorem refsuGet_early (A : Option Addr) (n c : Nat) (xs : List UInt8) (w : World) (hr : RdB w A n c xs) (h : n ≠ 256) :
    Calls Try.prog 26 #[.slice A n c] w (RetSu w suZ 2) := by
  have hn := hr.n63
  have d1 : ((n : Int) != 256) = true := by rw [bne_iff_ne]; omega
  go_enter Try.func26, Try.ntmps26
  have hrow : (w.alloc (.cells #[.int .u32 0, .int .i64 0, .int .i64 0, .int .u8 0, .int .u8 0, .int .u8 0, .int .u8 0, .int .u8 0, .int .u8 0, .int .u8 0, .int .u8 0, .int .u8 0, .int .u8 0, .int .u8 0, .int .u8 0, .int .u8 0, .int .u8 0, .int .u8 0, .int .u8 0, .int .u8 0, .int .u8 0, .int .u8 0, .int .u8 0, .int .u8 0, .int .u8 0, .int .u8 0, .int .u8 0, .int .u8 0, .int .u8 0, .int .u8 0, .int .u8 0, .int .u8 0, .int .u8 0, .int .u8 0, .int .u8 0] 26)).heap[w.heap.size]? = some (.cells suZ.v 26 (0, 0)) := by rw [suZ_v]; exact row1 ..
  have HR := Lib.hid hrow
  clear hrow h
  go_wp2_with (refine wpList_store_row rfl 26 _ _ rfl w.heap.size suZ.v rfl rfl 26 suZ.v HR.out (suZ.info suZ_len) rfl (suV_one ..) ?_)
  refine bodyPost_ret (results_row_tmp Try.results26 _ _ w.heap.size 26 suZ.v (0, 0) _ rfl (setRow_heap _ _ _ suZ.v _ _ HR.out) Try.underlying26 rfl (suZ.info suZ_len)) rfl ?_
  exact ⟨rfl, below_setRow ((below_self w).alloc (Nat.le_refl _) _) (Nat.le_refl _) _⟩
theorem refsuGet_sum (A : Option Addr) (c : Nat) (xs : List UInt8) (w : World) (hr : RdB w A 256 c xs) (h : crcHolds xs = false) :
    Calls Try.prog 26 #[.slice A 256 c] w (RetSu w suZ 6) := by
  have d1 : ((256 : Int) != 256) = false := by decide
  have H := Lib.hid h
  clear h
  go_enter Try.func26, Try.ntmps26
  go_wp2_with fail
  refine named ?_
  intro W hW
  have bW : Below w.heap.size w W := by rw [hW]; repeat' (first | exact Below.refl _ _ | (refine Below.alloc ?_ ?_ _; rotate_left; (simp <;> omega)) | refine Below.drew ?_)
  have zW := bW.size
  have HW := Lib.hid hW
  clear hW
  have xW : w.heap.size < W.heap.size := by rw [HW.out]; simp
  have hrow : W.heap[w.heap.size]? = some (.cells suZ.v 26 (0, 0)) := by rw [HW.out, suZ_v]; exact row1 ..
  have hh := refHolds_any A 256 c xs W (hr.below bW) (by omega)
  rw [H.out] at hh
  refine hh.mono ?_
  clear hh
  rintro e w1 ⟨rfl, hb1⟩
  have hrow1 := (hb1.block _ xW).trans hrow
  go_wp2_with (refine wpList_store_row rfl 26 _ _ rfl w.heap.size suZ.v rfl rfl 26 suZ.v hrow1 (suZ.info suZ_len) rfl (suV_one ..) ?_)
  refine bodyPost_ret (results_row_tmp Try.results26 _ _ w.heap.size 26 suZ.v (0, 0) _ rfl (setRow_heap _ _ _ suZ.v _ _ hrow1) Try.underlying26 rfl (suZ.info suZ_len)) rfl ?_
  exact ⟨rfl, below_setRow (below_then bW hb1) (Nat.le_refl _) _⟩

theorem refsuGet_main (A : Option Addr) (c : Nat) (xs : List UInt8) (w : World) (hr : RdB w A 256 c xs) (h : crcHolds xs = true) :
    Calls Try.prog 26 #[.slice A 256 c] w (RetSu w (suGet xs) (suGetE xs)) := by
  have d1 : ((256 : Int) != 256) = false := by decide
  have hlen := hr.2.1
  have hc := hr.2.2.1
  have hc63 := hr.c63
  obtain ⟨b, o, u, rfl, hbl, _⟩ := hr.at_ 0 (by omega)
  have hcut : ∀ k j, k + j ≤ 256 → k < 256 → RdB w (some ⟨b, o + k, none⟩) j (c - k) ((xs.drop k).take j) := fun k j hkj hk => (hr.cutS k (256 - k) (by omega) (by omega)).take j (by omega)
  have r4 := hcut 4 4 (by omega) (by omega)
  have r8 := hcut 8 4 (by omega) (by omega)
  have r13 := hcut 13 32 (by omega) (by omega)
  have c12 := hr.cellS 12 (by omega)
  obtain ⟨b1, ⟨b2, b3⟩, ⟨b4, b5⟩, b6⟩ := suOf_bounds xs hlen
  obtain ⟨G, hG⟩ : ∃ G, lev ((xs.drop 4).take 4) = G := ⟨_, rfl⟩
  obtain ⟨L, hL⟩ : ∃ G, lev ((xs.drop 8).take 4) = G := ⟨_, rfl⟩
  obtain ⟨S, hS⟩ : ∃ G, (xs.getD 12 0).toNat = G := ⟨_, rfl⟩
  obtain ⟨D, hD⟩ : ∃ G, (xs.drop 13).take 32 = G := ⟨_, rfl⟩
  have hX : suOf xs = ⟨G, S, L, D⟩ := by unfold suOf; rw [hG, hL, hS, hD]
  rw [hX] at b1 b2 b3 b4 b5 b6
  simp only at b1 b2 b3 b4 b5 b6
  have hE : suGetE xs = if suCheck S L = true ∧ suPutL G S L D = xs then 0 else 3 := by
    unfold suGetE; rw [if_neg (by simp [hlen]), if_neg (by simp [h]), hX]
  have hGt : suGet xs = if suGetE xs = 0 then ⟨G, S, L, D⟩ else suZ := by unfold suGet; rw [hX]
  have f4 := fromLe_part xs 4
  have f8 := fromLe_part xs 8
  rw [hG] at f4
  rw [hL] at f8
  rw [hD] at r13
  rw [hS] at c12
  have F4 := Lib.hid f4
  have F8 := Lib.hid f8
  have wG : IntKind.u32.wrap (G : Int) = G := by rw [IntKind.wrap_u32]; omega
  have wL := wi64n (k := L) (by omega)
  have cb4 : ¬ (c = 4) := by omega
  have cb8 : ¬ (c = 8) := by omega
  have cb13 : ¬ (c = 13) := by omega
  have ci8 : (8 : Int) ≤ (c : Int) := by omega
  have ci12 : (12 : Int) ≤ (c : Int) := by omega
  have ci45 : (45 : Int) ≤ (c : Int) := by omega
  have H := Lib.hid h
  have HE := Lib.hid hE
  have HGt := Lib.hid hGt
  have HD := Lib.hid b6
  have HS9 := Lib.hid hlen
  have hSz : (S : Int) < 256 := by omega
  clear h hE hGt f4 f8 hX hG hL hS hD b6 hlen hcut
  have wS := wi64n (k := S) (by omega)
  obtain ⟨D0, hD0⟩ : ∃ Z : List UInt8, List.replicate 32 0 = Z := ⟨_, rfl⟩
  have HL0 := Lib.hid (show D0.length = 32 by rw [← hD0]; simp)
  have HD0 := Lib.hid hD0
  clear hD0
  go_enter Try.func26, Try.ntmps26
  go_wp2_with fail
  refine named ?_
  intro W0 hW0
  have bW0 : Below w.heap.size w W0 := by rw [hW0]; repeat' (first | exact Below.refl _ _ | (refine Below.alloc ?_ ?_ _; rotate_left; (simp <;> omega)) | refine Below.drew ?_)
  have zW0 := bW0.size
  have HW0 := Lib.hid hW0
  clear hW0
  have xW : w.heap.size < W0.heap.size := by rw [HW0.out]; simp
  have hrow0 : W0.heap[w.heap.size]? = some (.cells suZ.v 26 (0, 0)) := by rw [HW0.out, suZ_v]; exact row1 ..
  have hh := refHolds_any _ 256 c xs W0 (hr.below bW0) (by omega)
  rw [H.out] at hh
  refine hh.mono ?_
  clear hh
  rintro e W ⟨rfl, hb1⟩
  have bW := below_then bW0 hb1
  have hrow := (hb1.block _ xW).trans hrow0
  have xW1 : w.heap.size < W.heap.size := Nat.lt_of_lt_of_le xW hb1.size
  have HROW := Lib.hid hrow
  clear hrow hrow0
  have j12 := (bW.cell (p := ⟨b, o + 12, none⟩) hbl).trans c12
  have q4 := r4.below bW
  have q8 := r8.below bW
  have q13 := r13.below bW
  have hbW : b < W.heap.size := by omega
  clear r4 r8 r13 c12
  go_wp2_with fail
  refine wp_region_seg (S := fun w' => Below W.heap.size W w') 0 #[true, true, true, true, true, true, true, true, true, true, true, true, true, true, true] [(0, true), (1, true), (2, true), (3, true), (4, true), (5, true), (6, true), (7, true), (8, true), (9, true), (10, true), (11, true), (12, true), (13, false), (14, false)] (by kernel_rfl) (by kernel_rfl) (fun _ _ d _ _ h => by cases d <;> exact h) ((Below.refl W.heap.size W).drew) ?_
  have HB := (Below.refl W.heap.size W).drew
  iterate 2 (refine seg_take (v := ?_) rfl (Or.inl ⟨by rfl, ?_⟩) ?_; rotate_left; (focus (intro w' hw'; have jj := (hw'.cell (p := ⟨b, o + 12, none⟩) hbW).trans j12; go_simp <;> with_reducible rfl)); try simp only [Act.put, List.setIfInBounds_toArray, List.set_cons_zero, List.set_cons_succ])
  refine seg_pure (v := .int .u64 (G : Int)) (f := ?_) (args := ?_) rfl (by rfl) (fun w' hw' => ?_) (fun w' hw' => ?_) ?_
  rotate_left 2
  focus (have jj := (hw'.cell (p := ⟨b, o + 12, none⟩) hbW).trans j12; go_simp <;> first | (refine ⟨?_, ?_⟩ <;> with_reducible rfl) | with_reducible rfl)
  focus (exact (F4.out ▸ refFromLe_any _ _ _ _ w' (q4.below hw')))
  try simp only [Act.put, List.setIfInBounds_toArray, List.set_cons_zero, List.set_cons_succ]
  iterate 3 (refine seg_take (v := ?_) rfl (Or.inl ⟨by rfl, ?_⟩) ?_; rotate_left; (focus (intro w' hw'; have jj := (hw'.cell (p := ⟨b, o + 12, none⟩) hbW).trans j12; go_simp <;> with_reducible rfl)); try simp only [Act.put, List.setIfInBounds_toArray, List.set_cons_zero, List.set_cons_succ])
  refine seg_pure (v := .int .u64 (L : Int)) (f := ?_) (args := ?_) rfl (by rfl) (fun w' hw' => ?_) (fun w' hw' => ?_) ?_
  rotate_left 2
  focus (have jj := (hw'.cell (p := ⟨b, o + 12, none⟩) hbW).trans j12; go_simp <;> first | (refine ⟨?_, ?_⟩ <;> with_reducible rfl) | with_reducible rfl)
  focus (exact (F8.out ▸ refFromLe_any _ _ _ _ w' (q8.below hw')))
  try simp only [Act.put, List.setIfInBounds_toArray, List.set_cons_zero, List.set_cons_succ]
  iterate 5 (refine seg_take (v := ?_) rfl (Or.inl ⟨by rfl, ?_⟩) ?_; rotate_left; (focus (intro w' hw'; have jj := (hw'.cell (p := ⟨b, o + 12, none⟩) hbW).trans j12; go_simp <;> with_reducible rfl)); try simp only [Act.put, List.setIfInBounds_toArray, List.set_cons_zero, List.set_cons_succ])
  refine seg_take (v := .agg (suV G S L D0)) rfl (Or.inl ⟨by rfl, fun w' hw' => ?_⟩) ?_
  focus (exact ex_build rfl #[(0, .int .u32 (G : Int)), (2, .int .i64 (L : Int)), (1, .int .i64 (S : Int))] rfl (by have := build_su0 w' G S L; rwa [HD0.out] at this))
  try simp only [Act.put, List.setIfInBounds_toArray, List.set_cons_zero, List.set_cons_succ]
  refine seg_run rfl (fun K hK => ?_)
  rw [if_pos (by rfl)]
  refine op_new #[.int .u32 0, .int .i64 0, .int .i64 0, .int .u8 0, .int .u8 0, .int .u8 0, .int .u8 0, .int .u8 0, .int .u8 0, .int .u8 0, .int .u8 0, .int .u8 0, .int .u8 0, .int .u8 0, .int .u8 0, .int .u8 0, .int .u8 0, .int .u8 0, .int .u8 0, .int .u8 0, .int .u8 0, .int .u8 0, .int .u8 0, .int .u8 0, .int .u8 0, .int .u8 0, .int .u8 0, .int .u8 0, .int .u8 0, .int .u8 0, .int .u8 0, .int .u8 0, .int .u8 0, .int .u8 0, .int .u8 0] 26 (fun w => by go_simp) ?_
  intro gL wL eL hL HBl hLsz
  have HB0 := HB.size
  have HB := below_then HB HBl
  refine hK.out _ _ (HB) ?_
  clear hK
  try simp only [Act.put, List.setIfInBounds_toArray, List.set_cons_zero, List.set_cons_succ]
  refine seg_run rfl (fun K hK => ?_)
  rw [if_pos (by rfl)]
  have hLW : W.heap.size ≤ gL := by omega
  refine wp_store_row _ _ _ rfl gL (suV G S L D0) rfl rfl _ _ hL (suInfo _ _ _ _ HL0.out) (by rw [suVn, HL0.out]; rfl) (suV_one ..) ?_
  have HB := below_setRow HB hLW (suV G S L D0)
  refine hK.out _ _ (HB) ?_
  clear hK
  try simp only [Act.put, List.setIfInBounds_toArray, List.set_cons_zero, List.set_cons_succ]
  refine seg_done (fun _ => ?_)
  refine wpAnyH_done (by kernel_rfl) ?_ _
  have hrowL := setRow_heap _ gL _ (suV G S L D0) _ _ hL
  obtain ⟨V0, hV⟩ : ∃ V, V = wL.setRow gL (suV G S L D0) := ⟨_, rfl⟩
  rw [← hV] at hrowL HB ⊢
  have xL0 : gL < V0.heap.size := by rw [hV]; simp; omega
  clear hV hL HBl hLsz HB0 q4 q8 j12 eL
  go_wp2_with fail
  go_loopw [5] (RGetI W V0.heap.size gL G S L D) (fun v _ => 32 - (intOf v).toNat)
  case atStart => exact ⟨0, by omega, rfl, by rw [digP_zero, HD0.out]; exact hrowL, HB, Nat.le_refl _⟩
  case round =>
  obtain ⟨k, hk, rfl, hrowL, HB, xL9⟩ := hrel
  obtain ⟨V, rfl⟩ : ∃ V : World, V = wr := ⟨_, rfl⟩
  have xL : gL < V.heap.size := by omega
  by_cases hlt : k < 32
  · have e1 := (q13.below HB).cellS k (by omega)
    rw [Nat.add_assoc] at e1
    have g1 := (cell_of_row V gL (3 + k) _ _ _ hrowL).trans ((suV3 ..).trans (digP_at D k hlt HD.out))
    have g3 : V.frozen? ⟨gL, 3 + k, none⟩ = false := frozen_of_row _ _ _ _ _ hrowL
    have l1 : (k : Int) < 32 := by omega
    have l2 : (13 : Int) + (k : Int) < 256 := by omega
    have hs := digP_set G S L D k hlt HD.out
    generalize D.getD k 0 = u9 at e1 hs
    have HS := Lib.hid hs
    clear hs
    have HRL := Lib.hid hrowL
    clear hrowL
    go_wp2_with fail
    go_roundw
    case rel => exact ⟨k + 1, by omega, by go_num, by rw [setc_rowT HRL.out, HS.out], HB.setCell hLW _, by simp [World.setCell]; omega⟩
    case measure => simp [intOf]; omega
  obtain rfl : k = 32 := by omega
  rw [digP_all D HD.out] at hrowL
  have bV := below_then bW HB
  have zV := HB.size
  have hrowR := (HB.block _ xW1).trans HROW.out
  have hge := HE.out
  have hgt := HGt.out
  have HRL := Lib.hid hrowL
  have HRR := Lib.hid hrowR
  clear hrowL hrowR q13
  cases hsc : suCheck S L with
  | false =>
    rw [if_neg (by simp [hsc])] at hge
    rw [if_neg (by rw [hge]; decide)] at hgt
    have HGE2 := Lib.hid hge
    have HGT2 := Lib.hid hgt
    have hh := refsuPut_any G S L D V b1 (by omega) HD.out
    unfold suPutE suPutL at hh
    rw [if_neg (by simp [hsc]), if_neg (by simp [hsc])] at hh
    have HH := Lib.hid hh
    clear hge hgt hsc hh
    go_wp2_with (refine wpList_load_row rfl 26 _ rfl gL rfl 26 (suV G S L D) (0, 0) _ HRL.out Try.underlying26 rfl (suInfo G S L D HD.out) ?_)
    refine HH.out.mono ?_
    rintro e w5 ⟨A5, n5, c5, rfl, ho5, hb5⟩
    have hrow5 := (hb5.block _ (by omega)).trans HRR.out
    go_wp2_with (refine wpList_store_row rfl 26 _ _ rfl w.heap.size suZ.v rfl rfl 26 suZ.v hrow5 (suZ.info suZ_len) rfl (suV_one ..) ?_)
    refine bodyPost_ret (results_row_tmp Try.results26 _ _ w.heap.size 26 suZ.v (0, 0) _ rfl (setRow_heap _ _ _ suZ.v _ _ hrow5) Try.underlying26 rfl (suZ.info suZ_len)) rfl ?_
    exact ⟨by rw [HGT2.out, HGE2.out]; rfl, below_setRow (below_then bV hb5) (Nat.le_refl _) _⟩
  | true =>
    have hh := refsuPut_any G S L D V b1 (by omega) HD.out
    unfold suPutE at hh
    rw [if_pos hsc] at hh
    obtain ⟨P, hP⟩ : ∃ P, suPutL G S L D = P := ⟨suPutL G S L D, rfl⟩
    rw [hP] at hh hge
    have HH := Lib.hid hh
    have HP := Lib.hid hP
    by_cases heq : P = xs
    · rw [if_pos ⟨hsc, heq⟩] at hge
      rw [if_pos hge] at hgt
      have HGE2 := Lib.hid hge
      have HGT2 := Lib.hid hgt
      have HQ := Lib.hid heq
      clear hge hgt hsc hh hP heq
      go_wp2_with (refine wpList_load_row rfl 26 _ rfl gL rfl 26 (suV G S L D) (0, 0) _ HRL.out Try.underlying26 rfl (suInfo G S L D HD.out) ?_)
      refine HH.out.mono ?_
      rintro e w5 ⟨A5, n5, c5, rfl, ho5, hb5⟩
      have hrow5 := (hb5.block _ (by omega)).trans HRR.out
      have hrowL5 := (hb5.block _ xL).trans HRL.out
      have B5 := below_then bV hb5
      have HR5 := Lib.hid hrow5
      have HL5 := Lib.hid hrowL5
      clear hrow5 hrowL5
      go_wp2_with fail
      have hh := bytes_any _ _ _ _ _ _ xs P w5 (hr.below B5) ho5.rd
      rw [decide_eq_true HQ.out.symm] at hh
      refine hh.mono ?_
      clear hh
      rintro e w6 ⟨rfl, rfl⟩
      go_wp2_with (first
        | (refine wpList_load_row rfl 26 _ rfl gL rfl 26 (suV G S L D) (0, 0) _ HL5.out Try.underlying26 rfl (suInfo G S L D HD.out) ?_)
        | (refine wpList_store_row rfl 26 _ _ rfl w.heap.size (suV G S L D) rfl rfl 26 suZ.v HR5.out (suInfo G S L D HD.out) (by rw [suVn, HD.out]; rfl) (suV_one ..) ?_))
      refine bodyPost_ret (results_row_tmp Try.results26 _ _ w.heap.size 26 (suV G S L D) (0, 0) _ rfl (setRow_heap _ _ _ (suV G S L D) _ _ HR5.out) Try.underlying26 rfl (suInfo G S L D HD.out)) rfl ?_
      exact ⟨by rw [HGT2.out, HGE2.out]; rfl, below_setRow B5 (Nat.le_refl _) _⟩
    · rw [if_neg (fun h => heq h.2)] at hge
      rw [if_neg (by rw [hge]; decide)] at hgt
      have HGE2 := Lib.hid hge
      have HGT2 := Lib.hid hgt
      have HQ := Lib.hid heq
      clear hge hgt hsc hh hP heq
      go_wp2_with (refine wpList_load_row rfl 26 _ rfl gL rfl 26 (suV G S L D) (0, 0) _ HRL.out Try.underlying26 rfl (suInfo G S L D HD.out) ?_)
      refine HH.out.mono ?_
      rintro e w5 ⟨A5, n5, c5, rfl, ho5, hb5⟩
      have hrow5 := (hb5.block _ (by omega)).trans HRR.out
      have B5 := below_then bV hb5
      have HR5 := Lib.hid hrow5
      clear hrow5
      go_wp2_with fail
      have hh := bytes_any _ _ _ _ _ _ xs P w5 (hr.below B5) ho5.rd
      rw [decide_eq_false (fun h => HQ.out h.symm)] at hh
      refine hh.mono ?_
      clear hh
      rintro e w6 ⟨rfl, rfl⟩
      go_wp2_with (refine wpList_store_row rfl 26 _ _ rfl w.heap.size suZ.v rfl rfl 26 suZ.v HR5.out (suZ.info suZ_len) rfl (suV_one ..) ?_)
      refine bodyPost_ret (results_row_tmp Try.results26 _ _ w.heap.size 26 suZ.v (0, 0) _ rfl (setRow_heap _ _ _ suZ.v _ _ HR5.out) Try.underlying26 rfl (suZ.info suZ_len)) rfl ?_
      exact ⟨by rw [HGT2.out, HGE2.out]; rfl, below_setRow B5 (Nat.le_refl _) _⟩

theorem refsuGet_any (A : Option Addr) (n c : Nat) (xs : List UInt8) (w : World) (hr : RdB w A n c xs) :
    Calls Try.prog 26 #[.slice A n c] w (RetSu w (suGet xs) (suGetE xs)) := by
  by_cases h : n = 256
  · subst h
    cases hh : crcHolds xs with
    | true => exact refsuGet_main A c xs w hr hh
    | false =>
      have e : suGetE xs = 6 := by unfold suGetE; rw [if_neg (by simp [hr.2.1]), if_pos hh]
      have e2 : suGet xs = suZ := by unfold suGet; rw [if_neg (by rw [e]; decide)]
      rw [e, e2]
      exact refsuGet_sum A c xs w hr hh
  · have e : suGetE xs = 2 := by unfold suGetE; rw [if_pos (by rw [hr.2.1]; exact h)]
    have e2 : suGet xs = suZ := by unfold suGet; rw [if_neg (by rw [e]; decide)]
    rw [e, e2]
    exact refsuGet_early A n c xs w hr h
end Go.Proofs.Ytmbdfanaegadjaa
