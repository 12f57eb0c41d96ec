/-
  Layer 21: frag: later, place.
-/
import Derived.Test.YteajboafcjeagaaFrgH
namespace Go.Proofs.Yteajboafcjeagaa
set_option maxRecDepth 20000
open Go.RowKit
set_option linter.unusedVariables false
set_option linter.unusedSimpArgs false
set_option maxHeartbeats 8000000

theorem frgLater_any (now : Nat) (w : World) (hn : now ≤ 1000) : Calls Try.prog 66 #[.int .u64 (now : Int)] w (fun e w' => e = .returned (.int .u64 ((now + 30 : Nat) : Int)) ∧ w' = w) := by
  have e1 : min (now : Int) 1099511627776 = (now : Int) := by omega
  have e2 : IntKind.u64.wrap ((now : Int) + 30) = ((now + 30 : Nat) : Int) := by rw [IntKind.wrap_u64]; omega
  have e3 : min ((now + 30 : Nat) : Int) 1099511627776 = ((now + 30 : Nat) : Int) := by omega
  have d1 : decide ((now : Int) < 1099511627776) = true := decide_eq_true (by omega)
  have d2 : decide (((now + 30 : Nat) : Int) < 1099511627776) = true := decide_eq_true (by omega)
  have d3 : decide ((1099511627776 : Int) < (now : Int)) = false := decide_eq_false (by omega)
  have d4 : decide ((1099511627776 : Int) < ((now + 30 : Nat) : Int)) = false := decide_eq_false (by omega)
  obtain ⟨N, hN⟩ : ∃ N : Nat, N = now + 30 := ⟨_, rfl⟩
  rw [← hN] at e2 e3 d2 d4 ⊢
  clear hN
  go_enter Try.func66, Try.ntmps66
  go_wp2_with fail
  go_ret
  exact ⟨rfl, rfl⟩
theorem fold_size : ∀ (l : List Value) (j : Nat) (cs : Array Value), (List.foldl (fun (cs : Array Value) (p : Value × Nat) => cs.setIfInBounds (0 + p.2) p.1) cs (l.zipIdx j)).size = cs.size
  | [], _, _ => rfl
  | v :: l, j, cs => by rw [List.zipIdx_cons, List.foldl_cons, fold_size l (j + 1)]; simp
theorem fold_get (i : Nat) : ∀ (l : List Value) (j : Nat) (cs : Array Value), (List.foldl (fun (cs : Array Value) (p : Value × Nat) => cs.setIfInBounds (0 + p.2) p.1) cs (l.zipIdx j))[i]? = if j ≤ i ∧ i < j + l.length ∧ i < cs.size then l[i - j]? else cs[i]?
  | [], j, cs => by rw [if_neg (by simp; omega)]; rfl
  | v :: l, j, cs => by
    rw [List.zipIdx_cons, List.foldl_cons, fold_get i l (j + 1)]
    simp only [Array.size_setIfInBounds, List.length_cons, Nat.zero_add]
    by_cases h1 : j + 1 ≤ i ∧ i < j + 1 + l.length ∧ i < cs.size
    · rw [if_pos h1, if_pos (by omega), show i - j = (i - (j + 1)) + 1 by omega, List.getElem?_cons_succ]
    · rw [if_neg h1]
      by_cases h2 : i = j
      · subst h2
        by_cases h3 : i < cs.size
        · rw [if_pos (by omega)]; simp [h3]
        · rw [if_neg (by omega)]; simp [h3]
      · rw [if_neg (by omega)]
        simp [Array.getElem?_setIfInBounds, Ne.symm h2]
theorem fill_one (K : Nat) (z xs : Array Value) (hz : z.size = K) (hx : xs.size = K) : Instr.fill (fun i => some (i * K, K)) z [(0, .agg xs)] = some xs := by
  unfold Instr.fill
  have h1 : (Value.agg xs).cells = xs := rfl
  simp only [h1, hx, hz, Nat.zero_mul, Nat.zero_add]
  rw [if_neg (by simp)]
  unfold Instr.fill
  congr 1
  rw [← Array.foldl_toList, Array.toList_zipIdx]
  apply Array.ext_getElem?
  intro i
  have := fold_get i xs.toList 0 z
  simp only [Nat.zero_add] at this
  rw [this]
  by_cases hi : i < K
  · rw [if_pos (by simp [hx, hz]; exact hi)]; simp
  · rw [if_neg (by simp [hx]; intro h; omega), Array.getElem?_eq_none (by omega), Array.getElem?_eq_none (by omega)]
theorem fill_one0 (K : Nat) {zz : Array Value} {xs : Array Value} (hx : xs.size = K) : Instr.fill (fun i => some (i * K, K)) ((Array.range (1 * K)).map (zz[· % zz.size]!)) [(0, .agg xs)] = some xs := fill_one K _ _ (by rw [Array.size_map, Array.size_range, Nat.one_mul]) hx
theorem named_k {R : World → Prop} {W : World} (h : ∀ W', W' = W → R W') : R W := h W rfl
def frN (src dst id : Nat) (proto : Int) (till : Nat) : Fr := ⟨src, dst, id, proto, List.replicate 128 0, List.replicate 128 false, -1, till⟩
theorem frN_ok {src dst id : Nat} {proto : Int} {till : Nat} (ho : OwOk (src, dst, id, proto)) (ht : till < 18446744073709551616) : (frN src dst id proto till).ok := ⟨ho.1, ho.2.1, ho.2.2.1, ho.2.2.2, by simp [frN], by simp [frN], by simp [frN], ht⟩
/-- Where a packet's datagram stands then. -/
def RetPl (w : World) (l : List Fr) (po : OwT) (now : Nat) (e : Ending) (w' : World) : Prop :=
  (∃ A n c j, e = .returned (.tuple #[.slice A n c, .int .i64 ((j : Nat) : Int)]) ∧ OwFr w' w.heap.size A n c l ∧ j < l.length ∧ (l.getD j fr0).ow = po ∧ Below w.heap.size w w') ∨
  (∃ A n c, e = .returned (.tuple #[.slice A n c, .int .i64 ((l.length : Nat) : Int)]) ∧ OwFr w' w.heap.size A n c (l ++ [frN po.1 po.2.1 po.2.2.1 po.2.2.2 (now + 30)]) ∧ (∀ x ∈ l, x.ow ≠ po) ∧ Below w.heap.size w w')
set_option maxRecDepth 100000 in
theorem frgPlace_any (A : Option Addr) (n c : Nat) (l : List Fr) (id : Nat) (more : Bool) (pl proto : Int) (src dst : Nat) (B : Option Addr) (m d : Nat) (now : Nat) (w : World) (hr : RdFr w A n c l) (hn : n ≤ 3) (ho : OwOk (src, dst, id, proto)) (hnow : now ≤ 1000) :
    Calls Try.prog 51 #[.slice A n c, .agg #[.int .u16 (id : Int), .bool more, .int .i64 pl, .int .i64 proto, .int .u32 (src : Int), .int .u32 (dst : Int), .slice B m d], .int .u64 (now : Int)] w (RetPl w l (src, dst, id, proto) now) := by
  have hlen := hr.2.1
  obtain ⟨V, hV⟩ : ∃ V, V = w.alloc (.cells #[.int .u16 (id : Int), .bool more, .int .i64 pl, .int .i64 proto, .int .u32 (src : Int), .int .u32 (dst : Int), .slice B m d] 61) := ⟨_, rfl⟩
  have bV : Below w.heap.size w V := by rw [hV]; exact (below_self w).alloc (Nat.le_refl _) _
  have qV : PkAt V w.heap.size id more pl proto src dst B m d := by rw [hV]; exact frw_at _ rfl
  have HV := Lib.hid hV
  have HQ := Lib.hid qV
  have HR := Lib.hid hr
  have HL := Lib.hid hlen
  clear hV qV hr hlen
  go_enter Try.func51, Try.ntmps51
  go_wp2_with fail
  rw [← HV.out]
  refine (cloneFr_any A n c l V (HR.out.below bV) (by omega)).mono ?_
  rintro e w1 ⟨A1, c1, rfl, o1, hb1⟩
  have B1 := below_then bV hb1
  have Q1 := Lib.hid (HQ.out.up hb1)
  have O1 := Lib.hid o1
  clear o1
  go_wp2_with fail
  refine (idxFr_any w.heap.size id more pl proto src dst B m d A1 n c1 l w1 O1.out.rd Q1.out ho).mono ?_
  rintro e w2 ⟨hx, hb2⟩
  have B2 := below_then B1 hb2
  have O2 := Lib.hid (O1.out.up hb2)
  have Q2 := Lib.hid (Q1.out.up hb2)
  rcases hx with ⟨j, rfl, hj, hp, _⟩ | ⟨rfl, hq⟩
  · have d1 : decide ((0 : Int) ≤ (j : Int)) = true := decide_eq_true (by omega)
    have HP := Lib.hid hp
    clear hp
    go_wp2_with fail
    go_ret2
    exact .inl ⟨A1, n, c1, j, rfl, O2.out.mono bV.size, by rw [HL.out]; exact hj, of_decide_eq_true HP.out, B2⟩
  · have HNO := Lib.hid (show ∀ x ∈ l, x.ow ≠ (src, dst, id, proto) from fun x hx => by
      obtain ⟨i, hi, rfl⟩ := List.getElem_of_mem hx
      have := hq i (by rw [← HL.out]; exact hi)
      have h2 := of_decide_eq_false this
      simpa [List.getD, hi] using h2)
    clear hq
    have d4 : ((n : Int) == 4) = false := beq_eq_false_iff_ne.2 (by omega)
    obtain ⟨c0, _, _, c3, c4, c5, _⟩ := Q2.out.cells
    have lg := Q2.out.lt
    obtain ⟨T, hT⟩ : ∃ T, T = now + 30 := ⟨_, rfl⟩
    have hTl : T < 18446744073709551616 := by omega
    have C := Lib.hid (fun W => frgLater_any now W hnow)
    rw [← hT] at C
    obtain ⟨y, hy⟩ : ∃ y, y = frN src dst id proto T := ⟨_, rfl⟩
    have hyok : y.ok := by rw [hy]; exact frN_ok ho hTl
    have HY := Lib.hid hy
    have HT := Lib.hid hT
    have HYOK := Lib.hid hyok
    clear hT hy hyok
    obtain ⟨ie, hie1, hie2, hie3, _⟩ := frInfo
    go_wp2_with fail
    refine wp_region_seg (S := fun w' => Below V.heap.size w2 w') 0 #[true, true, true, true, true, true, true, true, true, true, true, true, true, true, true] [(0, true), (1, true), (2, true), (3, true), (4, true), (5, true), (6, true), (7, true), (8, true), (9, true), (10, true), (11, true), (12, false), (13, false), (14, true)] (by kernel_rfl) (by kernel_rfl) (fun _ _ d _ _ h => by first | (cases d <;> exact h) | cases h.1) ((Below.refl V.heap.size w2).drew) ?_
    have HB := (Below.refl V.heap.size w2).drew
    iterate 10 (refine seg_take (v := ?_) rfl (Or.inl ⟨by rfl, ?_⟩) ?_; rotate_left; (focus (intro w' hw'; have j0 := (hw'.cell (p := ⟨w.heap.size, 0, none⟩) HQ.out.lt).trans c0; have j3 := (hw'.cell (p := ⟨w.heap.size, 3, none⟩) HQ.out.lt).trans c3; have j4 := (hw'.cell (p := ⟨w.heap.size, 4, none⟩) HQ.out.lt).trans c4; have j5 := (hw'.cell (p := ⟨w.heap.size, 5, none⟩) HQ.out.lt).trans c5; go_simp <;> with_reducible rfl)); try simp only [Act.put, List.setIfInBounds_toArray, List.set_cons_zero, List.set_cons_succ])
    refine seg_pure (v := .int .u64 (T : Int)) (f := ?_) (args := ?_) rfl (by rfl) (fun w' hw' => ?_) (fun w' hw' => ?_) ?_
    rotate_left 2
    focus (have j0 := (hw'.cell (p := ⟨w.heap.size, 0, none⟩) HQ.out.lt).trans c0; have j3 := (hw'.cell (p := ⟨w.heap.size, 3, none⟩) HQ.out.lt).trans c3; have j4 := (hw'.cell (p := ⟨w.heap.size, 4, none⟩) HQ.out.lt).trans c4; have j5 := (hw'.cell (p := ⟨w.heap.size, 5, none⟩) HQ.out.lt).trans c5; go_simp <;> first | (refine ⟨?_, ?_⟩ <;> with_reducible rfl) | with_reducible rfl)
    focus (exact (C.out w').mono (fun e w1 h => ⟨h.1, h.2.symm⟩))
    try simp only [Act.put, List.setIfInBounds_toArray, List.set_cons_zero, List.set_cons_succ]
    refine seg_take (v := .agg (frA y)) rfl (Or.inl ⟨by rfl, fun w' hw' => ?_⟩) ?_
    focus (rw [HY.out]; kernel_rfl)
    try simp only [Act.put, List.setIfInBounds_toArray, List.set_cons_zero, List.set_cons_succ]
    refine seg_run rfl (fun K hK => ?_)
    rw [if_pos (by rfl)]
    refine wp_buildSlice 56 85 1 _ rfl (frA y) ie _ Try.underlying56 hie1 hie2 (by rw [hie3]; decide) (by rw [hie3]; decide) (by rw [hie3]; simp only [List.map_toArray, List.map_cons, List.map_nil]; exact fill_one0 262 (zz := (Value.agg (frA fr0)).cells) (frA_size HYOK.out)) ?_
    refine named_k ?_
    intro W8 hW8
    have b8 : Below w2.heap.size w2 W8 := by rw [hW8]; exact ((Below.refl _ w2).drew).alloc (Nat.le_refl _) _
    have HB : Below V.heap.size w2 W8 := b8.mono (by have := hb1.size; have := hb2.size; omega)
    have q8 : FrgAt W8 w2.drew.heap.size y := by rw [hW8]; exact frw_at _ rfl
    have r8 : Rd W8 (some ⟨w2.drew.heap.size, 0, none⟩) (frV y) := .inr ⟨_, 0, rfl, q8.lt, fun i v hv => by rw [Nat.zero_add, q8.cell]; exact hv⟩
    have o8 := O2.out.up b8
    clear hW8
    refine hK.out _ _ (HB) ?_
    clear hK
    try simp only [Act.put, List.setIfInBounds_toArray, List.set_cons_zero, List.set_cons_succ]
    refine seg_run rfl (fun K hK => ?_)
    rw [if_pos (by rfl)]
    obtain ⟨A9, c9, w9, hr9, o9, hg9⟩ := run_appFr (w := W8) 56 V.heap.size _ n _ o8.1 (some ⟨w2.drew.heap.size, 0, none⟩) 1 1 (frV y) r8 (by rw [frV_len HYOK.out]) (frV_one y) (by omega) (by have := HB.size; have := hb1.size; have := hb2.size; omega)
    refine op_appRun _ _ _ _ rfl _ _ rfl rfl hr9 ?_
    have HB := HB.grown hg9 (by have := HB.size; have := hb1.size; have := hb2.size; omega) (fun q hq => (o8.1.lt q hq).1)
    refine hK.out _ _ (HB) ?_
    clear hK
    try simp only [Act.put, List.setIfInBounds_toArray, List.set_cons_zero, List.set_cons_succ]
    iterate 1 (refine seg_take (v := ?_) rfl (Or.inl ⟨by rfl, ?_⟩) ?_; rotate_left; (focus (intro w' hw'; have j0 := (hw'.cell (p := ⟨w.heap.size, 0, none⟩) HQ.out.lt).trans c0; have j3 := (hw'.cell (p := ⟨w.heap.size, 3, none⟩) HQ.out.lt).trans c3; have j4 := (hw'.cell (p := ⟨w.heap.size, 4, none⟩) HQ.out.lt).trans c4; have j5 := (hw'.cell (p := ⟨w.heap.size, 5, none⟩) HQ.out.lt).trans c5; go_simp <;> with_reducible rfl)); try simp only [Act.put, List.setIfInBounds_toArray, List.set_cons_zero, List.set_cons_succ])
    refine seg_done (fun _ => ?_)
    refine wpAnyH_done (by kernel_rfl) ?_ _
    have B9 := bV.trans ((hb1.mono (Nat.le_of_lt HQ.out.lt)).trans ((hb2.mono (Nat.le_trans (Nat.le_of_lt HQ.out.lt) hb1.size)).trans (HB.mono bV.size)))
    have O9 : Hid (OwFr w9 V.heap.size A9 (n + 1) c9 (l ++ [y])) := Lib.hid ⟨by simpa using o9, fun x hx => by
      rcases List.mem_append.1 hx with h | h
      · exact O2.out.2 x h
      · simp at h; rw [h]; exact HYOK.out⟩
    clear o9 hg9 hr9
    go_wp2_with fail
    go_ret2
    refine .inr ⟨A9, n + 1, c9, by rw [HL.out]; rfl, ?_, HNO.out, B9⟩
    rw [← HT.out]
    have h := O9.out.mono (base' := w.heap.size) bV.size
    rw [HY.out] at h
    exact h
end Go.Proofs.Yteajboafcjeagaa
