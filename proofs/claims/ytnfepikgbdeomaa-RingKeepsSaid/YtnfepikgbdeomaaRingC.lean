/-
  Layer 7: rings: what reads and writes their numbers.
-/
import Derived.Test.YtnfepikgbdeomaaRingB
import Derived.Test.YtnfepikgbdeomaaPlanZ
import Derived.Test.YtnfepikgbdeomaaAid
namespace Go.Proofs.Ytnfepikgbdeomaa
set_option maxRecDepth 20000
open Go.RowKit
set_option linter.unusedVariables false
set_option linter.unusedSimpArgs false
set_option maxHeartbeats 4000000

/-- What reads, or writes, a ring's numbers. -/
def FdAt (w : World) (g : Nat) (A : Option Addr) (n c : Nat) (at_ : Int) : Prop := w.heap[g]? = some (.cells #[.slice A n c, .int .i64 at_] 118 (0, 0))
theorem FdAt.c0 {w : World} {g : Nat} {A : Option Addr} {n c : Nat} {at_ : Int} (h : FdAt w g A n c at_) : w.cell? ⟨g, 0, none⟩ = some (.slice A n c) := (cell_of_row w g 0 _ _ _ h).trans rfl
theorem FdAt.c1 {w : World} {g : Nat} {A : Option Addr} {n c : Nat} {at_ : Int} (h : FdAt w g A n c at_) : w.cell? ⟨g, 1, none⟩ = some (.int .i64 at_) := (cell_of_row w g 1 _ _ _ h).trans rfl
theorem FdAt.lt {w : World} {g : Nat} {A : Option Addr} {n c : Nat} {at_ : Int} (h : FdAt w g A n c at_) : g < w.heap.size := (Array.getElem?_eq_some_iff.1 h).1
theorem FdAt.fr {w : World} {g : Nat} {A : Option Addr} {n c : Nat} {at_ : Int} (h : FdAt w g A n c at_) (i : Nat) : w.frozen? ⟨g, i, none⟩ = false := frozen_of_row _ _ i _ _ h
theorem FdAt.below {w w' : World} {g : Nat} {A : Option Addr} {n c : Nat} {at_ : Int} (h : FdAt w g A n c at_) (hb : Below w.heap.size w w') : FdAt w' g A n c at_ := (hb.block g h.lt).trans h
theorem fget_any (g : Nat) (A : Option Addr) (n c : Nat) (xs : List UInt8) (at_ s : Int) (w : World) (hf : FdAt w g A n c at_) (hr : RdB w A n c xs) (ha : 0 ≤ at_ ∧ at_ ≤ 1000000) (hs : 0 ≤ s ∧ s ≤ 8) :
    Calls Try.prog 70 #[.pointer (some ⟨g, 0, none⟩), .int .i64 s] w fun e w' => e = .returned (.int .u64 (memNum xs at_ s)) ∧ FdAt w' g A n c (at_ + s) ∧ Below g w w' := by
  have c0 := hf.c0
  have c1 := hf.c1
  have lt := hf.lt
  have hh := fun W (hb : Below w.heap.size w W) => memNum_any A n c xs at_ s W (hr.below hb) ⟨by omega, by omega⟩ ⟨by omega, by omega⟩
  have HH := Lib.hid hh
  have HF := Lib.hid hf
  obtain ⟨v, hv⟩ : ∃ v, memNum xs at_ s = v := ⟨_, rfl⟩
  rw [hv] at HH ⊢
  clear hh hf hv
  go_enter Try.func70, Try.ntmps70
  go_wp2_with fail
  refine wp_region_plan (S := fun w' => Below w.heap.size w w') [(0, true), (1, true), (2, true), (3, true), (4, true), (5, true), (6, true), (7, true), (8, true), (9, false), (10, true), (11, true), (12, true), (13, true), (14, true)] (by kernel_rfl) (by kernel_rfl) (fun _ _ d _ _ h => by cases d <;> exact h) ((Below.refl _ w).drew) ?_
  iterate 9 (refine plan_take (v := ?_) rfl (Or.inl ⟨by rfl, ?_⟩) ?_; rotate_left; (focus (intro w' hw'; have ja := (hw'.cell (p := ⟨g, 0, none⟩) lt).trans c0; have jb := (hw'.cell (p := ⟨g, 1, none⟩) lt).trans c1; go_simp <;> with_reducible rfl)); try simp only [Act.put, List.setIfInBounds_toArray, List.set_cons_zero, List.set_cons_succ])
  refine plan_run rfl (fun K hK => ?_)
  go_simp
  refine (HH.out _ (Below.refl _ _).drew).mono ?_
  rintro e_ w2 ⟨rfl, hb2⟩
  have HB := below_then (Below.refl w.heap.size w).drew hb2
  refine hK.out _ _ (HB) ?_
  clear hK
  try simp only [Act.put, List.setIfInBounds_toArray, List.set_cons_zero, List.set_cons_succ]
  iterate 5 (refine plan_take (v := ?_) rfl (Or.inl ⟨by rfl, ?_⟩) ?_; rotate_left; (focus (intro w' hw'; have ja := (hw'.cell (p := ⟨g, 0, none⟩) lt).trans c0; have jb := (hw'.cell (p := ⟨g, 1, none⟩) lt).trans c1; go_simp <;> with_reducible rfl)); try simp only [Act.put, List.setIfInBounds_toArray, List.set_cons_zero, List.set_cons_succ])
  refine plan_done ?_
  have hf2 := HF.out.below HB
  have d0 := hf2.c0
  have d1 := hf2.c1
  have fz := hf2.fr 1
  have HF2 := Lib.hid hf2
  clear hf2
  go_wp2_with fail
  go_ret
  exact ⟨rfl, (setc_rowT HF2.out).trans rfl, (HB.mono (Nat.le_of_lt lt)).setCell (p := ⟨g, 1, none⟩) (Nat.le_refl _) _⟩
/-- A slice that does not lie in block g. -/
def Off (A : Option Addr) (g : Nat) : Prop := ∀ a, A = some a → a.block ≠ g
theorem rdB_off {w w' : World} {A : Option Addr} {n c g : Nat} {xs : List UInt8} (h : RdB w A n c xs) (ho : Off A g) (hs : w.heap.size ≤ w'.heap.size) (hb : ∀ j, j ≠ g → w'.heap[j]? = w.heap[j]?) : RdB w' A n c xs := by
  refine ⟨?_, h.2⟩
  rcases h.1 with h0 | ⟨b, o, rfl, hl, hc⟩
  · exact .inl h0
  · exact .inr ⟨b, o, rfl, by omega, fun i v hv => (World.cell?_of_block (hb b (ho _ rfl))).trans (hc i v hv)⟩
theorem memPutN_len (xs : List UInt8) (a s : Int) (x : Nat) : (memPutN xs a s x).length = xs.length := by
  unfold memPutN memPut; split
  · split
    · rename_i h1 h2
      obtain ⟨_, h3, h4, h5, h6⟩ := memAsk_ok h2
      simp only [List.length_append, List.length_take, List.length_drop]
      omega
    · rfl
  · rfl
theorem fput_any (g : Nat) (A : Option Addr) (n c : Nat) (xs : List UInt8) (at_ s : Int) (x : Nat) (w : World) (hf : FdAt w g A n c at_) (hr : RdB w A n c xs) (ho : Off A g) (ha : 0 ≤ at_ ∧ at_ ≤ 1000000) (hs : 0 ≤ s ∧ s ≤ 8) (hx : x < 18446744073709551616) :
    Calls Try.prog 66 #[.pointer (some ⟨g, 0, none⟩), .int .i64 s, .int .u64 x] w fun e w' => e = .returned (.tuple #[]) ∧ ∃ A' c', FdAt w' g A' n c' (at_ + s) ∧ RdB w' A' n c' (memPutN xs at_ s x) ∧ Off A' g ∧ (A' = A ∨ ∀ a, A' = some a → w.heap.size ≤ a.block) ∧ Below g w w' := by
  have c0 := hf.c0
  have c1 := hf.c1
  have lt := hf.lt
  have HH := Lib.hid (fun W (hb : Below w.heap.size w W) => putNum_any A n c xs at_ s x W (hr.below hb) ⟨by omega, by omega⟩ ⟨by omega, by omega⟩ hx)
  have HF := Lib.hid hf
  have HL := Lib.hid (show (memPutN xs at_ s x).length = n by rw [memPutN_len, hr.2.1])
  obtain ⟨ys, hv⟩ : ∃ v, memPutN xs at_ s x = v := ⟨_, rfl⟩
  rw [hv] at HH HL ⊢
  clear hf hv
  go_enter Try.func66, Try.ntmps66
  go_wp2_with fail
  have HXd := (Below.refl w.heap.size w).drew
  refine wp_region_seg (S := fun _ => True) 9 #[true, true, true, true, false, true, true, true, false, true, true, false, false, false, false, false, false, false] [(0, true), (1, true), (2, true), (3, true), (5, true), (6, true), (7, true), (9, true), (10, true)] (by kernel_rfl) (by kernel_rfl) (fun _ _ d _ _ h => by first | (cases d <;> exact h) | cases h.1) (trivial) ?_
  have HB := trivial
  iterate 9 (refine seg_take (v := ?_) rfl (Or.inl ⟨by rfl, ?_⟩) ?_; rotate_left; (focus (intro w' hw'; go_simp <;> with_reducible rfl)); try simp only [Act.put, List.setIfInBounds_toArray, List.set_cons_zero, List.set_cons_succ])
  refine seg_done (fun _ => ?_)
  refine wpAnyH_two (i := 4) (j := 8) (f := 8) (by kernel_rfl) ?_ ?_
  · skip
    refine op_run rfl (fun K hK => ?_)
    go_simp
    have q0 := (HF.out.below HXd).c0
    go_simp
    refine hK.out _ _ (HB) ?_
    clear hK
    try simp only [Act.put, List.setIfInBounds_toArray, List.set_cons_zero, List.set_cons_succ]
    refine wpAnyH_seg (by kernel_rfl) (fun _ _ d _ _ h => by first | (cases d <;> exact h) | cases h.1) 0 #[true, true, true, true, true, true, true, true, true, true, true, true, true, true, true, true, true, true] [(8, false), (11, false), (12, true), (13, true), (14, true), (15, true), (16, true), (17, false)] _ _ _ (by kernel_rfl) (HB) ?_
    refine seg_run rfl (fun K hK => ?_)
    go_simp
    have q1 := (HF.out.below HXd).c1
    go_simp
    refine hK.out _ _ (HB) ?_
    clear hK
    try simp only [Act.put, List.setIfInBounds_toArray, List.set_cons_zero, List.set_cons_succ]
    refine seg_run rfl (fun K hK => ?_)
    go_simp
    refine (HH.out _ HXd).mono ?_
    rintro e_ w2 ⟨A2, n2, c2, rfl, hr2, hfar, hb2⟩
    obtain rfl : n2 = n := by rw [← hr2.2.1, HL.out]
    have HX2 := below_then HXd hb2
    refine hK.out _ _ (HB) ?_
    clear hK
    try simp only [Act.put, List.setIfInBounds_toArray, List.set_cons_zero, List.set_cons_succ]
    iterate 5 (refine seg_take (v := ?_) rfl (Or.inl ⟨by rfl, ?_⟩) ?_; rotate_left; (focus (intro w' hw'; go_simp <;> with_reducible rfl)); try simp only [Act.put, List.setIfInBounds_toArray, List.set_cons_zero, List.set_cons_succ])
    refine seg_run rfl (fun K hK => ?_)
    go_simp
    have hf2 := HF.out.below HX2
    have o5 := hf2.c0
    have f5 := hf2.fr 0
    go_simp
    refine hK.out _ _ (HB) ?_
    clear hK
    try simp only [Act.put, List.setIfInBounds_toArray, List.set_cons_zero, List.set_cons_succ]
    refine seg_done (fun _ => ?_)
    refine wpAnyH_done (by kernel_rfl) ?_ _
    have h2 : FdAt (w2.setCell ⟨g, 0, none⟩ (.slice A2 n2 c2)) g A2 n2 c2 at_ := (setc_rowT (HF.out.below HX2)).trans rfl
    have B2 : Below g w (w2.setCell ⟨g, 0, none⟩ (.slice A2 n2 c2)) := (HX2.mono (Nat.le_of_lt lt)).setCell (p := ⟨g, 0, none⟩) (Nat.le_refl _) _
    have off2 : Off A2 g := fun a e => by
      rcases hfar with ⟨rfl, _⟩ | h
      · exact ho a e
      · have := h a e; simp at this; omega
    have far2 : A2 = A ∨ ∀ a, A2 = some a → w.heap.size ≤ a.block := by
      rcases hfar with ⟨rfl, _⟩ | h
      · exact .inl rfl
      · exact .inr fun a e => by have := h a e; simpa using this
    have r2 : RdB (w2.setCell ⟨g, 0, none⟩ (.slice A2 n2 c2)) A2 n2 c2 ys := rdB_off hr2 off2 (by simp [World.setCell]) (fun j hj => Below.heap_setCell _ _ _ _ hj)
    obtain ⟨V, hV⟩ : ∃ V, V = w2.setCell ⟨g, 0, none⟩ (.slice A2 n2 c2) := ⟨_, rfl⟩
    rw [← hV] at h2 B2 r2
    try rw [← hV]
    have d0 := h2.c0
    have d1 := h2.c1
    have fz := h2.fr 1
    have H2 := Lib.hid h2
    clear h2 hV
    go_wp2_with fail
    refine bodyPost_end (v := .tuple #[]) (by simp [results, Try.results66]) rfl ?_
    exact ⟨rfl, A2, c2, (setc_rowT H2.out).trans rfl, rdB_off r2 off2 (by simp [World.setCell]) (fun j hj => Below.heap_setCell _ _ _ _ hj), off2, far2, B2.setCell (p := ⟨g, 1, none⟩) (Nat.le_refl _) _⟩
  · skip
    refine op_run rfl (fun K hK => ?_)
    go_simp
    have q1 := (HF.out.below HXd).c1
    go_simp
    refine hK.out _ _ (HB) ?_
    clear hK
    try simp only [Act.put, List.setIfInBounds_toArray, List.set_cons_zero, List.set_cons_succ]
    refine wpAnyH_seg (by kernel_rfl) (fun _ _ d _ _ h => by first | (cases d <;> exact h) | cases h.1) 0 #[true, true, true, true, true, true, true, true, true, true, true, true, true, true, true, true, true, true] [(4, false), (11, false), (12, true), (13, true), (14, true), (15, true), (16, true), (17, false)] _ _ _ (by kernel_rfl) (HB) ?_
    refine seg_run rfl (fun K hK => ?_)
    go_simp
    have q0 := (HF.out.below HXd).c0
    go_simp
    refine hK.out _ _ (HB) ?_
    clear hK
    try simp only [Act.put, List.setIfInBounds_toArray, List.set_cons_zero, List.set_cons_succ]
    refine seg_run rfl (fun K hK => ?_)
    go_simp
    refine (HH.out _ HXd).mono ?_
    rintro e_ w2 ⟨A2, n2, c2, rfl, hr2, hfar, hb2⟩
    obtain rfl : n2 = n := by rw [← hr2.2.1, HL.out]
    have HX2 := below_then HXd hb2
    refine hK.out _ _ (HB) ?_
    clear hK
    try simp only [Act.put, List.setIfInBounds_toArray, List.set_cons_zero, List.set_cons_succ]
    iterate 5 (refine seg_take (v := ?_) rfl (Or.inl ⟨by rfl, ?_⟩) ?_; rotate_left; (focus (intro w' hw'; go_simp <;> with_reducible rfl)); try simp only [Act.put, List.setIfInBounds_toArray, List.set_cons_zero, List.set_cons_succ])
    refine seg_run rfl (fun K hK => ?_)
    go_simp
    have hf2 := HF.out.below HX2
    have o5 := hf2.c0
    have f5 := hf2.fr 0
    go_simp
    refine hK.out _ _ (HB) ?_
    clear hK
    try simp only [Act.put, List.setIfInBounds_toArray, List.set_cons_zero, List.set_cons_succ]
    refine seg_done (fun _ => ?_)
    refine wpAnyH_done (by kernel_rfl) ?_ _
    have h2 : FdAt (w2.setCell ⟨g, 0, none⟩ (.slice A2 n2 c2)) g A2 n2 c2 at_ := (setc_rowT (HF.out.below HX2)).trans rfl
    have B2 : Below g w (w2.setCell ⟨g, 0, none⟩ (.slice A2 n2 c2)) := (HX2.mono (Nat.le_of_lt lt)).setCell (p := ⟨g, 0, none⟩) (Nat.le_refl _) _
    have off2 : Off A2 g := fun a e => by
      rcases hfar with ⟨rfl, _⟩ | h
      · exact ho a e
      · have := h a e; simp at this; omega
    have far2 : A2 = A ∨ ∀ a, A2 = some a → w.heap.size ≤ a.block := by
      rcases hfar with ⟨rfl, _⟩ | h
      · exact .inl rfl
      · exact .inr fun a e => by have := h a e; simpa using this
    have r2 : RdB (w2.setCell ⟨g, 0, none⟩ (.slice A2 n2 c2)) A2 n2 c2 ys := rdB_off hr2 off2 (by simp [World.setCell]) (fun j hj => Below.heap_setCell _ _ _ _ hj)
    obtain ⟨V, hV⟩ : ∃ V, V = w2.setCell ⟨g, 0, none⟩ (.slice A2 n2 c2) := ⟨_, rfl⟩
    rw [← hV] at h2 B2 r2
    try rw [← hV]
    have d0 := h2.c0
    have d1 := h2.c1
    have fz := h2.fr 1
    have H2 := Lib.hid h2
    clear h2 hV
    go_wp2_with fail
    refine bodyPost_end (v := .tuple #[]) (by simp [results, Try.results66]) rfl ?_
    exact ⟨rfl, A2, c2, (setc_rowT H2.out).trans rfl, rdB_off r2 off2 (by simp [World.setCell]) (fun j hj => Below.heap_setCell _ _ _ _ hj), off2, far2, B2.setCell (p := ⟨g, 1, none⟩) (Nat.le_refl _) _⟩
end Go.Proofs.Ytnfepikgbdeomaa
