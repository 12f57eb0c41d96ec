/-
  Layer 7: rings: Avail, Used, AvailAt, UsedAt.
-/
import Derived.Test.YtnfepikgbdeomaaRingE
namespace Go.Proofs.Ytnfepikgbdeomaa
set_option maxRecDepth 20000
open Go.RowKit
set_option linter.unusedVariables false
set_option linter.unusedSimpArgs false
set_option maxHeartbeats 4000000

theorem rgBack_le {k : Int} (h : rgN k) : 24 ≤ rgBack k ∧ rgBack k ≤ 292 := by rcases h with rfl | rfl | rfl | rfl | rfl <;> decide
theorem rgN_le {k : Int} (h : rgN k) : 1 ≤ k ∧ k ≤ 16 := by unfold rgN at h; omega
def rgAvail (xs : List UInt8) (b k : Int) : Nat := rgIdx xs b k (16 * k)
def rgUsed (xs : List UInt8) (b k : Int) : Nat := rgIdx xs b k (rgBack k)
theorem rgIdx_irr (xs : List UInt8) (b k p q : Int) (h : rgN k → p = q) : rgIdx xs b k p = rgIdx xs b k q := by
  unfold rgIdx
  by_cases hc : rgCheck xs.length b k = true
  · rw [h (of_decide_eq_true hc).2.1]
  · rw [if_neg hc, if_neg hc]
theorem ringAvailN_any (A : Option Addr) (n c : Nat) (xs : List UInt8) (b k : Int) (w : World) (hr : RdB w A n c xs) (hb : -9223372036854775808 ≤ b ∧ b ≤ 9223372036854775807) (hk : -9223372036854775808 ≤ k ∧ k ≤ 9223372036854775807) :
    Calls Try.prog 18 #[.agg #[.slice A n c], .int .i64 b, .int .i64 k] w (RetT w (.int .u16 (rgAvail xs b k : Nat)) (.int .i64 (rgE n b k))) := by
  obtain ⟨V, hV⟩ : ∃ V, V = w.alloc (.cells #[.slice A n c] 28) := ⟨_, rfl⟩
  have bV : Below w.heap.size w V := by rw [hV]; exact (below_self w).alloc (Nat.le_refl _) _
  have HH := Lib.hid (fun p (h : rgN k → p = 16 * k) (W : World) (hW : Below V.heap.size V W) => (rgIdx_irr xs b k p (16 * k) h) ▸ ringIndex_any A n c xs b k p W ((hr.below bV).below hW) hb hk (fun h2 => by have := h h2; have := rgN_le h2; omega))
  obtain ⟨v, hv⟩ : ∃ v, rgIdx xs b k (16 * k) = v := ⟨_, rfl⟩
  unfold rgAvail
  rw [hv] at HH ⊢
  have zV : w.heap.size < V.heap.size := by rw [hV]; simp
  have cV : V.cell? ⟨w.heap.size, 0, none⟩ = some (.slice A n c) := by rw [hV]; exact (alloc_box w _ _ 0).trans rfl
  have HV := Lib.hid hV
  clear hV hv
  go_enter Try.func18, Try.ntmps18
  go_wp2_with fail
  rw [← HV.out]
  refine wp_region_seg (S := fun w' => Below V.heap.size V w') 0 #[true, true, true, true, true, true, true, true, true, true] [(0, true), (1, true), (2, true), (3, true), (4, false), (5, false), (6, true), (7, true), (8, true), (9, true)] (by kernel_rfl) (by kernel_rfl) (fun _ _ d _ _ h => by first | (cases d <;> exact h) | cases h.1) ((Below.refl V.heap.size V).drew) ?_
  have HB := (Below.refl V.heap.size V).drew
  iterate 4 (refine seg_take (v := ?_) rfl (Or.inl ⟨by rfl, ?_⟩) ?_; rotate_left; (focus (intro w' hw'; have ja := (hw'.cell (p := ⟨w.heap.size, 0, none⟩) zV).trans cV; go_simp <;> with_reducible rfl)); try simp only [Act.put, List.setIfInBounds_toArray, List.set_cons_zero, List.set_cons_succ])
  refine seg_run rfl (fun K hK => ?_)
  go_simp
  refine (ringAvail_any k _).mono ?_
  rintro e_ w2 ⟨z, rfl, hz, rfl⟩
  refine hK.out _ _ (HB) ?_
  clear hK
  try simp only [Act.put, List.setIfInBounds_toArray, List.set_cons_zero, List.set_cons_succ]
  refine seg_run rfl (fun K hK => ?_)
  go_simp
  refine (HH.out z hz _ HB).mono ?_
  rintro e_ w3 ⟨rfl, hb3⟩
  have HB := below_then HB hb3
  refine hK.out _ _ (HB) ?_
  clear hK
  try simp only [Act.put, List.setIfInBounds_toArray, List.set_cons_zero, List.set_cons_succ]
  iterate 4 (refine seg_take (v := ?_) rfl (Or.inl ⟨by rfl, ?_⟩) ?_; rotate_left; (focus (intro w' hw'; have ja := (hw'.cell (p := ⟨w.heap.size, 0, none⟩) zV).trans cV; go_simp <;> with_reducible rfl)); try simp only [Act.put, List.setIfInBounds_toArray, List.set_cons_zero, List.set_cons_succ])
  refine seg_done (fun _ => ?_)
  refine wpAnyH_done (by kernel_rfl) ?_ _
  go_wp2_with fail
  go_ret2
  exact ⟨rfl, bV.trans (HB.mono bV.size)⟩
theorem ringUsedN_any (A : Option Addr) (n c : Nat) (xs : List UInt8) (b k : Int) (w : World) (hr : RdB w A n c xs) (hb : -9223372036854775808 ≤ b ∧ b ≤ 9223372036854775807) (hk : -9223372036854775808 ≤ k ∧ k ≤ 9223372036854775807) :
    Calls Try.prog 28 #[.agg #[.slice A n c], .int .i64 b, .int .i64 k] w (RetT w (.int .u16 (rgUsed xs b k : Nat)) (.int .i64 (rgE n b k))) := by
  obtain ⟨V, hV⟩ : ∃ V, V = w.alloc (.cells #[.slice A n c] 28) := ⟨_, rfl⟩
  have bV : Below w.heap.size w V := by rw [hV]; exact (below_self w).alloc (Nat.le_refl _) _
  have HH := Lib.hid (fun p (h : rgN k → p = rgBack k) (W : World) (hW : Below V.heap.size V W) => (rgIdx_irr xs b k p (rgBack k) h) ▸ ringIndex_any A n c xs b k p W ((hr.below bV).below hW) hb hk (fun h2 => by have := h h2; have := rgBack_le h2; omega))
  obtain ⟨v, hv⟩ : ∃ v, rgIdx xs b k (rgBack k) = v := ⟨_, rfl⟩
  unfold rgUsed
  rw [hv] at HH ⊢
  have zV : w.heap.size < V.heap.size := by rw [hV]; simp
  have cV : V.cell? ⟨w.heap.size, 0, none⟩ = some (.slice A n c) := by rw [hV]; exact (alloc_box w _ _ 0).trans rfl
  have HV := Lib.hid hV
  clear hV hv
  go_enter Try.func28, Try.ntmps28
  go_wp2_with fail
  rw [← HV.out]
  refine wp_region_seg (S := fun w' => Below V.heap.size V w') 0 #[true, true, true, true, true, true, true, true, true, true] [(0, true), (1, true), (2, true), (3, true), (4, false), (5, false), (6, true), (7, true), (8, true), (9, true)] (by kernel_rfl) (by kernel_rfl) (fun _ _ d _ _ h => by first | (cases d <;> exact h) | cases h.1) ((Below.refl V.heap.size V).drew) ?_
  have HB := (Below.refl V.heap.size V).drew
  iterate 4 (refine seg_take (v := ?_) rfl (Or.inl ⟨by rfl, ?_⟩) ?_; rotate_left; (focus (intro w' hw'; have ja := (hw'.cell (p := ⟨w.heap.size, 0, none⟩) zV).trans cV; go_simp <;> with_reducible rfl)); try simp only [Act.put, List.setIfInBounds_toArray, List.set_cons_zero, List.set_cons_succ])
  refine seg_run rfl (fun K hK => ?_)
  go_simp
  refine (ringBack_any k _).mono ?_
  rintro e_ w2 ⟨z, rfl, hz, rfl⟩
  refine hK.out _ _ (HB) ?_
  clear hK
  try simp only [Act.put, List.setIfInBounds_toArray, List.set_cons_zero, List.set_cons_succ]
  refine seg_run rfl (fun K hK => ?_)
  go_simp
  refine (HH.out z hz _ HB).mono ?_
  rintro e_ w3 ⟨rfl, hb3⟩
  have HB := below_then HB hb3
  refine hK.out _ _ (HB) ?_
  clear hK
  try simp only [Act.put, List.setIfInBounds_toArray, List.set_cons_zero, List.set_cons_succ]
  iterate 4 (refine seg_take (v := ?_) rfl (Or.inl ⟨by rfl, ?_⟩) ?_; rotate_left; (focus (intro w' hw'; have ja := (hw'.cell (p := ⟨w.heap.size, 0, none⟩) zV).trans cV; go_simp <;> with_reducible rfl)); try simp only [Act.put, List.setIfInBounds_toArray, List.set_cons_zero, List.set_cons_succ])
  refine seg_done (fun _ => ?_)
  refine wpAnyH_done (by kernel_rfl) ?_ _
  go_wp2_with fail
  go_ret2
  exact ⟨rfl, bV.trans (HB.mono bV.size)⟩
theorem ringAvailAt1_any (g gi : Nat) (A : Option Addr) (n c : Nat) (xs : List UInt8) (at_ : Int) (old : Value) (w : World) (hf : FdAt w g A n c at_) (hr : RdB w A n c xs) (ha : 0 ≤ at_ ∧ at_ ≤ 1000000) (hg : gi < g) (hi : w.heap[gi]? = some (.cells #[old] 3 (0, 0))) :
    Calls Try.prog 69 #[.pointer (some ⟨g, 0, none⟩), .pointer (some ⟨gi, 0, none⟩)] w fun e w' => e = .returned (.tuple #[]) ∧ w'.heap[gi]? = some (.cells #[.int .i64 (memNum xs at_ 2)] 3 (0, 0)) ∧ Below gi w w' := by
  have hh := fget_any g A n c xs at_ 2 w hf hr ha (by omega)
  have hlt := memNum_lt xs at_ 2
  obtain ⟨v, hv⟩ : ∃ v, memNum xs at_ 2 = v := ⟨_, rfl⟩
  rw [hv] at hh ⊢
  rw [show ((2 : Nat) : Int) = 2 from rfl, hv] at hlt
  have HH := Lib.hid hh
  have wv := wi64n (k := v) (by omega)
  have HI := Lib.hid hi
  clear hh hv hi
  go_enter Try.func69, Try.ntmps69
  go_wp2_with fail
  refine HH.out.mono ?_
  rintro e w2 ⟨rfl, hf2, hb2⟩
  have hi2 := (hb2.block gi hg).trans HI.out
  have c2 := (cell_of_row w2 gi 0 _ _ _ hi2).trans (show (#[old] : Array Value)[0]? = some old from rfl)
  have f2 : w2.frozen? ⟨gi, 0, none⟩ = false := frozen_of_row _ _ 0 _ _ hi2
  have HI2 := Lib.hid hi2
  clear hi2
  go_wp2_with fail
  refine bodyPost_end (v := .tuple #[]) (by simp [results, Try.results69]) rfl ?_
  exact ⟨rfl, (setc_rowT HI2.out).trans rfl, (hb2.mono (Nat.le_of_lt hg)).setCell (p := ⟨gi, 0, none⟩) (Nat.le_refl _) _⟩
def rgAt (xs : List UInt8) (b k : Int) (i : Nat) : Nat := if rgCheck xs.length b k = true then memNum xs (b + (16 * k + rgPlace k i 2)) 2 else 0
theorem rgPlace_le {k : Int} (h : rgN k) (i : Nat) (s : Int) (hs : s = 2 ∨ s = 8) : 4 ≤ rgPlace k i s ∧ rgPlace k i s ≤ 130 := by
  have hk := rgN_le h
  have : i % k.toNat < 16 := Nat.lt_of_lt_of_le (Nat.mod_lt _ (by omega)) (by omega)
  unfold rgPlace
  rcases hs with rfl | rfl <;> omega
theorem ringAvailAt_any (A : Option Addr) (n c : Nat) (xs : List UInt8) (b k : Int) (i : Nat) (w : World) (hr : RdB w A n c xs) (hb : -9223372036854775808 ≤ b ∧ b ≤ 9223372036854775807) (hk : -9223372036854775808 ≤ k ∧ k ≤ 9223372036854775807) (hi : i < 65536) :
    Calls Try.prog 16 #[.agg #[.slice A n c], .int .i64 b, .int .i64 k, .int .u16 (i : Int)] w (RetT w (.int .i64 (rgAt xs b k i : Nat)) (.int .i64 (rgE n b k))) := by
  have hn := hr.n63
  unfold rgAt rgE
  rw [hr.2.1]
  obtain ⟨V, hV⟩ : ∃ V, V = (w.alloc (.cells #[.slice A n c] 28)).alloc (.cells #[.int .i64 0] 3) := ⟨_, rfl⟩
  have bV : Below w.heap.size w V := by rw [hV]; exact ((below_self w).alloc (Nat.le_refl _) _).alloc (by simp) _
  have zV : V.heap.size = w.heap.size + 1 + 1 := by rw [hV]; simp
  have rV : V.heap[w.heap.size + 1]? = some (.cells #[.int .i64 0] 3 (0, 0)) := by rw [hV]; exact row2b ..
  have rM : V.heap[w.heap.size]? = some (.cells #[.slice A n c] 28 (0, 0)) := by rw [hV]; exact row2a ..
  have cM : V.cell? ⟨w.heap.size, 0, none⟩ = some (.slice A n c) := (cell_of_row V _ 0 _ _ _ rM).trans rfl
  have HV := Lib.hid hV
  have RV := Lib.hid rV
  have ZV := Lib.hid zV
  have zv0 : w.heap.size < V.heap.size := by omega
  have hrV := hr.below bV
  clear hV rV zV
  by_cases h : rgCheck n b k = true
  · rw [if_pos h, if_pos h]
    have hc := of_decide_eq_true h
    have hkn := hc.2.1
    have hpl := rgPlace_le hkn i 2 (by omega)
    have hk16 := rgN_le hkn
    have hz := (rgSize_le k).2.2 hkn
    have hb2 : 0 ≤ b ∧ b ≤ 8192 := by omega
    obtain ⟨p, hp⟩ : ∃ p, p = 16 * k + rgPlace k i 2 := ⟨_, rfl⟩
    have hp0 : 0 ≤ p ∧ p ≤ 1000 := by omega
    rw [← hp]
    obtain ⟨v, hv⟩ : ∃ v, memNum xs (b + p) 2 = v := ⟨_, rfl⟩
    rw [hv]
    have hh := fun V2 (hb2 : Below V.heap.size V V2) => ringReading_yes A n c xs b k p 69 #[.pointer (some ⟨w.heap.size + 1, 0, none⟩)] V2 (fun W g w' => w'.heap[w.heap.size + 1]? = some (.cells #[.int .i64 (memNum xs (b + p) 2)] 3 (0, 0)) ∧ Below (w.heap.size + 1) W w') (hrV.below hb2) hb hk h hp0 (fun args W => by go_simp)
      (fun W g hbW hg hs hf => ringAvailAt1_any g (w.heap.size + 1) A n c xs (b + p) _ W hf ((hrV.below hb2).below hbW) (by omega) (by have := ZV.out; have := hb2.size; omega) ((hbW.block _ (by have := ZV.out; have := hb2.size; omega)).trans ((hb2.block _ (by have := ZV.out; omega)).trans RV.out)))
    rw [hv] at hh
    have HH := Lib.hid hh
    obtain ⟨q, hq⟩ : ∃ q, q = 16 * k := ⟨_, rfl⟩
    obtain ⟨r, hr2⟩ : ∃ r, r = rgPlace k i 2 := ⟨_, rfl⟩
    rw [← hr2] at hp hpl
    rw [← hq] at hp
    have hqr : q + r = p := hp.symm
    have hq0 : 0 ≤ q ∧ q ≤ 256 := by omega
    have hr0 : 4 ≤ r ∧ r ≤ 130 := hpl
    have HQ := Lib.hid hq
    have HR2 := Lib.hid hr2
    have HK := Lib.hid hkn
    have wp : IntKind.i64.wrap p = p := by
      obtain ⟨pn, hpn⟩ : ∃ pn : Nat, p = (pn : Int) := ⟨p.toNat, by omega⟩
      rw [hpn]; exact wi64n (k := pn) (by omega)
    clear hh hv hp hc hz h hpl hkn hq hr2
    go_enter Try.func16, Try.ntmps16
    go_wp2_with fail
    rw [← HV.out]
    have HX := (Below.refl V.heap.size V).drew
    have HB := (Below.refl (w.heap.size + 1) V).drew
    have zv1 : w.heap.size < w.heap.size + 1 := Nat.lt_succ_self _
    refine wp_region_plan (S := fun w' => Below (w.heap.size + 1) V w') [(0, true), (1, true), (2, true), (3, true), (5, true), (6, true), (9, true), (4, false), (7, false), (8, true), (10, false), (11, true)] (by kernel_rfl) (by kernel_rfl) (fun _ _ d _ _ h => by cases d <;> exact h) (HB) ?_
    iterate 7 (refine plan_take (v := ?_) rfl (Or.inl ⟨by rfl, ?_⟩) ?_; rotate_left; (focus (intro w' hw'; have ja := (hw'.cell (p := ⟨w.heap.size, 0, none⟩) zv1).trans cM; go_simp <;> with_reducible rfl)); try simp only [Act.put, List.setIfInBounds_toArray, List.set_cons_zero, List.set_cons_succ])
    refine plan_run rfl (fun K hK => ?_)
    go_simp
    refine (ringAvail_any k _).mono ?_
    rintro e_ w2 ⟨z1, rfl, hz1, rfl⟩
    rw [hz1 HK.out, ← HQ.out]
    clear hz1
    refine hK.out _ _ (HB) ?_
    clear hK
    try simp only [Act.put, List.setIfInBounds_toArray, List.set_cons_zero, List.set_cons_succ]
    refine plan_run rfl (fun K hK => ?_)
    go_simp
    refine (ringPlace_any k i 2 _ hi (by omega)).mono ?_
    rintro e_ w2 ⟨z2, rfl, hz2, rfl⟩
    rw [hz2 HK.out, ← HR2.out]
    clear hz2
    refine hK.out _ _ (HB) ?_
    clear hK
    try simp only [Act.put, List.setIfInBounds_toArray, List.set_cons_zero, List.set_cons_succ]
    iterate 1 (refine plan_take (v := ?_) rfl (Or.inl ⟨by rfl, ?_⟩) ?_; rotate_left; (focus (intro w' hw'; have ja := (hw'.cell (p := ⟨w.heap.size, 0, none⟩) zv1).trans cM; go_simp <;> with_reducible rfl)); try simp only [Act.put, List.setIfInBounds_toArray, List.set_cons_zero, List.set_cons_succ])
    refine plan_run rfl (fun K hK => ?_)
    go_simp
    refine (HH.out _ HX).mono ?_
    rintro e_ w3 ⟨rfl, W, g, hbW, hg, hf, hrow, hb3⟩
    have HB9 : Below (w.heap.size + 1) V w3 := (HB.trans (hbW.mono (by have := ZV.out; have := HX.size; omega))).trans hb3
    refine hK.out _ _ (HB9) ?_
    clear hK
    try simp only [Act.put, List.setIfInBounds_toArray, List.set_cons_zero, List.set_cons_succ]
    iterate 1 (refine plan_take (v := ?_) rfl (Or.inl ⟨by rfl, ?_⟩) ?_; rotate_left; (focus (intro w' hw'; have ja := (hw'.cell (p := ⟨w.heap.size, 0, none⟩) zv1).trans cM; go_simp <;> with_reducible rfl)); try simp only [Act.put, List.setIfInBounds_toArray, List.set_cons_zero, List.set_cons_succ])
    refine plan_done ?_
    have c2 := (cell_of_row w3 _ 0 _ _ _ hrow).trans (show (#[.int .i64 (v : Int)] : Array Value)[0]? = some (.int .i64 (v : Int)) from rfl)
    go_wp2_with fail
    go_ret2
    exact ⟨rfl, bV.trans (HB9.mono (by omega))⟩
  · have h' : rgCheck n b k = false := by simpa using h
    rw [if_neg h, if_neg h]
    have HH := Lib.hid (fun a d V2 => ringReading_no A n c b k a d V2 hn hb hk h')
    clear h h'
    go_enter Try.func16, Try.ntmps16
    go_wp2_with fail
    rw [← HV.out]
    have HX := (Below.refl V.heap.size V).drew
    have HB := (Below.refl (w.heap.size + 1) V).drew
    have zv1 : w.heap.size < w.heap.size + 1 := Nat.lt_succ_self _
    refine wp_region_plan (S := fun w' => Below (w.heap.size + 1) V w') [(0, true), (1, true), (2, true), (3, true), (5, true), (6, true), (9, true), (4, false), (7, false), (8, true), (10, false), (11, true)] (by kernel_rfl) (by kernel_rfl) (fun _ _ d _ _ h => by cases d <;> exact h) (HB) ?_
    iterate 7 (refine plan_take (v := ?_) rfl (Or.inl ⟨by rfl, ?_⟩) ?_; rotate_left; (focus (intro w' hw'; have ja := (hw'.cell (p := ⟨w.heap.size, 0, none⟩) zv1).trans cM; go_simp <;> with_reducible rfl)); try simp only [Act.put, List.setIfInBounds_toArray, List.set_cons_zero, List.set_cons_succ])
    refine plan_run rfl (fun K hK => ?_)
    go_simp
    refine (ringAvail_any k _).mono ?_
    rintro e_ w2 ⟨z1, rfl, hz1, rfl⟩
    clear hz1
    refine hK.out _ _ (HB) ?_
    clear hK
    try simp only [Act.put, List.setIfInBounds_toArray, List.set_cons_zero, List.set_cons_succ]
    refine plan_run rfl (fun K hK => ?_)
    go_simp
    refine (ringPlace_any k i 2 _ hi (by omega)).mono ?_
    rintro e_ w2 ⟨z2, rfl, hz2, rfl⟩
    clear hz2
    refine hK.out _ _ (HB) ?_
    clear hK
    try simp only [Act.put, List.setIfInBounds_toArray, List.set_cons_zero, List.set_cons_succ]
    iterate 1 (refine plan_take (v := ?_) rfl (Or.inl ⟨by rfl, ?_⟩) ?_; rotate_left; (focus (intro w' hw'; have ja := (hw'.cell (p := ⟨w.heap.size, 0, none⟩) zv1).trans cM; go_simp <;> with_reducible rfl)); try simp only [Act.put, List.setIfInBounds_toArray, List.set_cons_zero, List.set_cons_succ])
    refine plan_run rfl (fun K hK => ?_)
    go_simp
    refine (HH.out _ _ _).mono ?_
    rintro e_ w3 ⟨rfl, hb3⟩
    have HX9 := below_then HX hb3
    have HB9 := HX9.mono (show w.heap.size + 1 ≤ V.heap.size by have := ZV.out; omega)
    refine hK.out _ _ (HB9) ?_
    clear hK
    try simp only [Act.put, List.setIfInBounds_toArray, List.set_cons_zero, List.set_cons_succ]
    iterate 1 (refine plan_take (v := ?_) rfl (Or.inl ⟨by rfl, ?_⟩) ?_; rotate_left; (focus (intro w' hw'; have ja := (hw'.cell (p := ⟨w.heap.size, 0, none⟩) zv1).trans cM; go_simp <;> with_reducible rfl)); try simp only [Act.put, List.setIfInBounds_toArray, List.set_cons_zero, List.set_cons_succ])
    refine plan_done ?_
    have hrow := (HX9.block (w.heap.size + 1) (by have := ZV.out; omega)).trans RV.out
    have c2 := (cell_of_row w3 _ 0 _ _ _ hrow).trans (show (#[.int .i64 0] : Array Value)[0]? = some (.int .i64 0) from rfl)
    have B2 := below_then bV HX9
    go_wp2_with fail
    go_ret2
    exact ⟨rfl, B2⟩
end Go.Proofs.Ytnfepikgbdeomaa
