/-
  Layer 7: rings: Offer.
-/
import Derived.Test.YtnfepikgbdeomaaRingH
import Derived.Test.YtnfepikgbdeomaaRingP
namespace Go.Proofs.Ytnfepikgbdeomaa
set_option maxRecDepth 20000
open Go.RowKit
set_option linter.unusedVariables false
set_option linter.unusedSimpArgs false
set_option maxHeartbeats 4000000

theorem row_at {w : World} {k : Nat} (o : Obj) (h : w.heap.size = k) : (w.alloc o).heap[k]? = some o := by subst h; exact heap_alloc_new w o
theorem row_old {w : World} {g : Nat} {o : Obj} (o' : Obj) (h : w.heap[g]? = some o) : (w.alloc o').heap[g]? = some o := (heap_alloc_old _ _ (Array.getElem?_eq_some_iff.1 h).1).trans h
/-- Memory and an error. -/
def RetMmE (w : World) (A : Option Addr) (n : Nat) (ys : List UInt8) (er : Int) (e : Ending) (w' : World) : Prop := ∃ A' c', e = .returned (.tuple #[.agg #[.slice A' n c'], .int .i64 er]) ∧ RdB w' A' n c' ys ∧ (A' = A ∨ ∀ a, A' = some a → w.heap.size ≤ a.block) ∧ Below w.heap.size w w'
theorem wi64i {p : Int} (h : 0 ≤ p ∧ p ≤ 9000000) : IntKind.i64.wrap p = p := by
  obtain ⟨pn, hpn⟩ : ∃ pn : Nat, p = (pn : Int) := ⟨p.toNat, by omega⟩
  rw [hpn]; exact wi64n (k := pn) (by omega)
theorem ringOffer_any (A : Option Addr) (n c : Nat) (xs : List UInt8) (b k : Int) (i : Nat) (fi : Int) (w : World) (hr : RdB w A n c xs) (hb : -9223372036854775808 ≤ b ∧ b ≤ 9223372036854775807) (hk : -9223372036854775808 ≤ k ∧ k ≤ 9223372036854775807) (hi : i < 65536) (hfi : -9223372036854775808 ≤ fi ∧ fi ≤ 9223372036854775807) :
    Calls Try.prog 14 #[.agg #[.slice A n c], .int .i64 b, .int .i64 k, .int .u16 (i : Int), .int .i64 fi] w (RetMmE w A n (rgOffer xs b k i (fi % 18446744073709551616).toNat) (rgE n b k)) := by
  have hn := hr.n63
  unfold rgOffer rgE
  rw [hr.2.1]
  obtain ⟨V, hV⟩ : ∃ V, V = (((((w.alloc (.cells #[.slice A n c] 28)).alloc (.cells #[.int .i64 b] 3)).alloc (.cells #[.int .i64 k] 3)).alloc (.cells #[.int .u16 (i : Int)] 22)).alloc (.cells #[.int .i64 fi] 3)).alloc (.cells #[.slice none 0 0] 28) := ⟨_, rfl⟩
  have bV : Below w.heap.size w V := by rw [hV]; exact ((((((below_self w).alloc (Nat.le_refl _) _).alloc (by simp) _).alloc (by simp; omega) _).alloc (by simp; omega) _).alloc (by simp; omega) _).alloc (by simp; omega) _
  have zV : V.heap.size = w.heap.size + 6 := by rw [hV]; simp
  have q0 : BoxAt V w.heap.size 28 (.slice A n c) := by rw [hV]; exact row_old _ (row_old _ (row_old _ (row_old _ (row_old _ (row_at _ rfl)))))
  have q1 : BoxAt V (w.heap.size + 1) 3 (.int .i64 b) := by rw [hV]; exact row_old _ (row_old _ (row_old _ (row_old _ (row_at _ (by simp)))))
  have q2 : BoxAt V (w.heap.size + 2) 3 (.int .i64 k) := by rw [hV]; exact row_old _ (row_old _ (row_old _ (row_at _ (by simp))))
  have q3 : BoxAt V (w.heap.size + 3) 22 (.int .u16 (i : Int)) := by rw [hV]; exact row_old _ (row_old _ (row_at _ (by simp)))
  have q4 : BoxAt V (w.heap.size + 4) 3 (.int .i64 fi) := by rw [hV]; exact row_old _ (row_at _ (by simp))
  have q5 : BoxAt V (w.heap.size + 5) 28 (.slice none 0 0) := by rw [hV]; exact row_at _ (by simp)
  have l1 : w.heap.size + 1 < V.heap.size := by omega
  have l2 : w.heap.size + 2 < V.heap.size := by omega
  have l3 : w.heap.size + 3 < V.heap.size := by omega
  have n1 : w.heap.size + 1 ≠ w.heap.size := by omega
  have n2 : w.heap.size + 2 ≠ w.heap.size := by omega
  have n3 : w.heap.size + 3 ≠ w.heap.size := by omega
  have c0 : V.drew.cell? ⟨w.heap.size, 0, none⟩ = some (.slice A n c) := q0.c
  have k1 := q1.c
  have k2 := q2.c
  have k3 := q3.c
  have Q0 := Lib.hid q0
  have Q1 := Lib.hid q1
  have Q2 := Lib.hid q2
  have Q3 := Lib.hid q3
  have Q4 := Lib.hid q4
  have Q5 := Lib.hid q5
  have HV := Lib.hid hV
  have ZV := Lib.hid zV
  have hrV := hr.below bV
  have HX := (Below.refl V.heap.size V).drew
  clear hV zV q0 q1 q2 q3 q4 q5
  by_cases h : rgCheck n b k = true
  · rw [if_pos h, if_pos h]
    have hc := of_decide_eq_true h
    have hkn := hc.2.1
    have hpl := rgPlace_le hkn i 2 (by omega)
    have hk16 := rgN_le hkn
    have hz := (rgSize_le k).2.2 hkn
    have hb2 : 0 ≤ b ∧ b ≤ 8192 := by omega
    have hold := hr.old (show 0 < n by omega)
    obtain ⟨p, hp⟩ : ∃ p, p = 16 * k + rgPlace k i 2 := ⟨_, rfl⟩
    have hp0 : 0 ≤ p ∧ p ≤ 1000 := by omega
    rw [← hp]
    have hh := fun V2 (hb2 : Below V.heap.size V V2) => ringReading_yes A n c xs b k p 65 #[.pointer (some ⟨w.heap.size + 4, 0, none⟩), .pointer (some ⟨w.heap.size + 1, 0, none⟩), .pointer (some ⟨w.heap.size + 2, 0, none⟩), .pointer (some ⟨w.heap.size + 3, 0, none⟩), .pointer (some ⟨w.heap.size, 0, none⟩)] V2
      (fun W g w' => MmBox g w.heap.size n A (memPutN (memPutN xs (b + p) 2 (fi % 18446744073709551616).toNat) (b + 16 * k + 2) 2 ((i + 1) % 65536)) W w') (hrV.below hb2) hb hk h hp0 (fun args W => by go_simp)
      (fun W g hbW hg hs hf => by
        have z := ZV.out
        have z2 := hb2.size
        exact ringOffer1_any g (w.heap.size + 4) (w.heap.size + 1) (w.heap.size + 2) (w.heap.size + 3) w.heap.size A n c xs (b + p) fi b k i (.slice A n c) W hf ((hrV.below hb2).below hbW) hold (by omega) (by omega) hkn hfi hi
          ((hbW.block _ (by omega)).trans ((hb2.block _ (by omega)).trans Q4.out)) ((hbW.block _ (by omega)).trans ((hb2.block _ (by omega)).trans Q1.out)) ((hbW.block _ (by omega)).trans ((hb2.block _ (by omega)).trans Q2.out)) ((hbW.block _ (by omega)).trans ((hb2.block _ (by omega)).trans Q3.out)) ((hbW.block _ (by omega)).trans ((hb2.block _ (by omega)).trans Q0.out)) (by omega) (by omega) (by omega) (by omega) (by omega))
    rw [show b + 16 * k + 2 = b + (16 * k + 2) by omega] at hh
    obtain ⟨ys, hys⟩ : ∃ ys, memPutN (memPutN xs (b + p) 2 (fi % 18446744073709551616).toNat) (b + (16 * k + 2)) 2 ((i + 1) % 65536) = ys := ⟨_, rfl⟩
    have hyo : rgOff xs (b + p) (b + (16 * k + 2)) (fi % 18446744073709551616).toNat ((i + 1) % 65536) = ys := hys
    rw [hys] at hh
    rw [hyo]
    have HH := Lib.hid hh
    obtain ⟨q, hq⟩ : ∃ q, q = 16 * k := ⟨_, rfl⟩
    obtain ⟨r, hr2⟩ : ∃ r, r = rgPlace k i 2 := ⟨_, rfl⟩
    rw [← hr2] at hp hpl
    rw [← hq] at hp
    have hqr : q + r = p := hp.symm
    have hq0 : 0 ≤ q ∧ q ≤ 256 := by omega
    have hr0 : 4 ≤ r ∧ r ≤ 130 := hpl
    have HQ := Lib.hid hq
    have HR2 := Lib.hid hr2
    have HK := Lib.hid hkn
    have wp : IntKind.i64.wrap p = p := wi64i (by omega)
    clear hh hys hyo hp hc hz h hpl hkn hq hr2
    go_enter Try.func14, Try.ntmps14
    go_wp2_with fail
    rw [← HV.out]
    refine wp_region_seg (S := fun w' => But w.heap.size V.heap.size V w') 6 #[false, true, true, true, false, true, true, false, false, true, false, false] [(1, true), (2, true), (3, true), (5, true), (6, true), (9, true)] (by kernel_rfl) (by kernel_rfl) (fun _ _ d _ _ h => by first | (cases d <;> exact h) | cases h.1) (but_of (g := w.heap.size) HX) ?_
    have HB := but_of (g := w.heap.size) HX
    iterate 6 (refine seg_take (v := ?_) rfl (Or.inl ⟨by rfl, ?_⟩) ?_; rotate_left; (focus (intro w' hw'; have j1 := hw'.cell l1 n1 k1; have j2 := hw'.cell l2 n2 k2; have j3 := hw'.cell l3 n3 k3; go_simp <;> with_reducible rfl)); try simp only [Act.put, List.setIfInBounds_toArray, List.set_cons_zero, List.set_cons_succ])
    refine seg_done (fun _ => ?_)
    refine wpAnyH_two (i := 0) (j := 4) (f := 5) (by kernel_rfl) ?_ ?_
    · skip
      refine op_run rfl (fun K hK => ?_)
      go_simp
      go_simp
      refine hK.out _ _ (HB) ?_
      clear hK
      try simp only [Act.put, List.setIfInBounds_toArray, List.set_cons_zero, List.set_cons_succ]
      refine wpAnyH_seg (by kernel_rfl) (fun _ _ d _ _ h => by first | (cases d <;> exact h) | cases h.1) 0 #[true, true, true, true, true, true, true, true, true, true, true, true] [(4, false), (7, false), (8, true), (10, false), (11, true)] _ _ _ (by kernel_rfl) (HB) ?_
      refine seg_run rfl (fun K hK => ?_)
      go_simp
      refine (ringAvail_any k _).mono ?_
      rintro e_ w2 ⟨z1, rfl, hz1, rfl⟩
      rw [hz1 HK.out, ← HQ.out]
      clear hz1
      refine hK.out _ _ (HB) ?_
      clear hK
      try simp only [Act.put, List.setIfInBounds_toArray, List.set_cons_zero, List.set_cons_succ]
      refine seg_run rfl (fun K hK => ?_)
      go_simp
      refine (ringPlace_any k i 2 _ hi (by omega)).mono ?_
      rintro e_ w2 ⟨z2, rfl, hz2, rfl⟩
      rw [hz2 HK.out, ← HR2.out]
      clear hz2
      refine hK.out _ _ (HB) ?_
      clear hK
      try simp only [Act.put, List.setIfInBounds_toArray, List.set_cons_zero, List.set_cons_succ]
      iterate 1 (refine seg_take (v := ?_) rfl (Or.inl ⟨by rfl, ?_⟩) ?_; rotate_left; (focus (intro w' hw'; have j1 := hw'.cell l1 n1 k1; have j2 := hw'.cell l2 n2 k2; have j3 := hw'.cell l3 n3 k3; go_simp <;> with_reducible rfl)); try simp only [Act.put, List.setIfInBounds_toArray, List.set_cons_zero, List.set_cons_succ])
      refine seg_run rfl (fun K hK => ?_)
      go_simp
      refine (HH.out _ HX).mono ?_
      rintro e_ w3 ⟨rfl, W, g, hbW, hg, hf, A3, c3, bx, r3, far3, bt3, bl3⟩
      have HB : But w.heap.size V.heap.size V w3 := ((but_of HX).trans (but_of hbW)).trans (bt3.mono hg)
      have HL : Below w.heap.size V w3 := ((HX.mono (by have := ZV.out; omega)).trans (hbW.mono (by have := ZV.out; have := HX.size; omega))).trans bl3
      refine hK.out _ _ (HB) ?_
      clear hK
      try simp only [Act.put, List.setIfInBounds_toArray, List.set_cons_zero, List.set_cons_succ]
      iterate 1 (refine seg_take (v := ?_) rfl (Or.inl ⟨by rfl, ?_⟩) ?_; rotate_left; (focus (intro w' hw'; have j1 := hw'.cell l1 n1 k1; have j2 := hw'.cell l2 n2 k2; have j3 := hw'.cell l3 n3 k3; go_simp <;> with_reducible rfl)); try simp only [Act.put, List.setIfInBounds_toArray, List.set_cons_zero, List.set_cons_succ])
      refine seg_done (fun _ => ?_)
      refine wpAnyH_done (by kernel_rfl) ?_ _
      have rO3 := (HB.block (w.heap.size + 5) (by have := ZV.out; omega) (by omega)).trans Q5.out
      have e0 := bx.c
      have o0 := (cell_of_row w3 _ 0 _ _ _ rO3).trans (show (#[.slice none 0 0] : Array Value)[0]? = some (.slice none 0 0) from rfl)
      have f0 : w3.frozen? ⟨w.heap.size + 5, 0, none⟩ = false := frozen_of_row _ _ 0 _ _ rO3
      have RO3 := Lib.hid rO3
      clear rO3 bx
      go_wp2_with fail
      have hrow2 : (w3.setCell ⟨w.heap.size + 5, 0, none⟩ (.slice A3 n c3)).heap[w.heap.size + 5]? = some (.cells #[.slice A3 n c3] 28 (0, 0)) := (setc_rowT RO3.out).trans rfl
      have hl := run_loadVar_row (P := Try.prog) _ _ _ 28 _ _ _ hrow2 Try.underlying28 rfl (by kernel_rfl)
      refine bodyPost_ret (v := .tuple #[.agg #[.slice A3 n c3], .int .i64 0]) (by simp [results, Try.results14, asAddr, hl]) rfl ?_
      have zz := ZV.out
      have zw := hbW.size
      have off3 : Off A3 (w.heap.size + 5) := fun a e => by
        rcases far3 with rfl | h
        · have := hold a e; omega
        · have := h a e; simp at zw; omega
      exact ⟨A3, c3, rfl, rdB_off r3 off3 (by simp [World.setCell]) (fun j hj => Below.heap_setCell _ _ _ _ hj), far3.imp id (fun h a e => by have := h a e; simp at zw; omega), (bV.trans HL).setCell (p := ⟨w.heap.size + 5, 0, none⟩) (by simp) _⟩
    · skip
      refine op_run rfl (fun K hK => ?_)
      go_simp
      refine (ringAvail_any k _).mono ?_
      rintro e_ w2 ⟨z1, rfl, hz1, rfl⟩
      rw [hz1 HK.out, ← HQ.out]
      clear hz1
      refine hK.out _ _ (HB) ?_
      clear hK
      try simp only [Act.put, List.setIfInBounds_toArray, List.set_cons_zero, List.set_cons_succ]
      refine wpAnyH_seg (by kernel_rfl) (fun _ _ d _ _ h => by first | (cases d <;> exact h) | cases h.1) 5 #[false, true, true, true, true, true, true, false, false, true, false, false] [] _ _ _ (by kernel_rfl) (HB) ?_
      refine seg_done (fun _ => ?_)
      refine wpAnyH_two (i := 0) (j := 7) (f := 4) (by kernel_rfl) ?_ ?_
      · skip
        refine op_run rfl (fun K hK => ?_)
        go_simp
        go_simp
        refine hK.out _ _ (HB) ?_
        clear hK
        try simp only [Act.put, List.setIfInBounds_toArray, List.set_cons_zero, List.set_cons_succ]
        refine wpAnyH_seg (by kernel_rfl) (fun _ _ d _ _ h => by first | (cases d <;> exact h) | cases h.1) 0 #[true, true, true, true, true, true, true, true, true, true, true, true] [(7, false), (8, true), (10, false), (11, true)] _ _ _ (by kernel_rfl) (HB) ?_
        refine seg_run rfl (fun K hK => ?_)
        go_simp
        refine (ringPlace_any k i 2 _ hi (by omega)).mono ?_
        rintro e_ w2 ⟨z2, rfl, hz2, rfl⟩
        rw [hz2 HK.out, ← HR2.out]
        clear hz2
        refine hK.out _ _ (HB) ?_
        clear hK
        try simp only [Act.put, List.setIfInBounds_toArray, List.set_cons_zero, List.set_cons_succ]
        iterate 1 (refine seg_take (v := ?_) rfl (Or.inl ⟨by rfl, ?_⟩) ?_; rotate_left; (focus (intro w' hw'; have j1 := hw'.cell l1 n1 k1; have j2 := hw'.cell l2 n2 k2; have j3 := hw'.cell l3 n3 k3; go_simp <;> with_reducible rfl)); try simp only [Act.put, List.setIfInBounds_toArray, List.set_cons_zero, List.set_cons_succ])
        refine seg_run rfl (fun K hK => ?_)
        go_simp
        refine (HH.out _ HX).mono ?_
        rintro e_ w3 ⟨rfl, W, g, hbW, hg, hf, A3, c3, bx, r3, far3, bt3, bl3⟩
        have HB : But w.heap.size V.heap.size V w3 := ((but_of HX).trans (but_of hbW)).trans (bt3.mono hg)
        have HL : Below w.heap.size V w3 := ((HX.mono (by have := ZV.out; omega)).trans (hbW.mono (by have := ZV.out; have := HX.size; omega))).trans bl3
        refine hK.out _ _ (HB) ?_
        clear hK
        try simp only [Act.put, List.setIfInBounds_toArray, List.set_cons_zero, List.set_cons_succ]
        iterate 1 (refine seg_take (v := ?_) rfl (Or.inl ⟨by rfl, ?_⟩) ?_; rotate_left; (focus (intro w' hw'; have j1 := hw'.cell l1 n1 k1; have j2 := hw'.cell l2 n2 k2; have j3 := hw'.cell l3 n3 k3; go_simp <;> with_reducible rfl)); try simp only [Act.put, List.setIfInBounds_toArray, List.set_cons_zero, List.set_cons_succ])
        refine seg_done (fun _ => ?_)
        refine wpAnyH_done (by kernel_rfl) ?_ _
        have rO3 := (HB.block (w.heap.size + 5) (by have := ZV.out; omega) (by omega)).trans Q5.out
        have e0 := bx.c
        have o0 := (cell_of_row w3 _ 0 _ _ _ rO3).trans (show (#[.slice none 0 0] : Array Value)[0]? = some (.slice none 0 0) from rfl)
        have f0 : w3.frozen? ⟨w.heap.size + 5, 0, none⟩ = false := frozen_of_row _ _ 0 _ _ rO3
        have RO3 := Lib.hid rO3
        clear rO3 bx
        go_wp2_with fail
        have hrow2 : (w3.setCell ⟨w.heap.size + 5, 0, none⟩ (.slice A3 n c3)).heap[w.heap.size + 5]? = some (.cells #[.slice A3 n c3] 28 (0, 0)) := (setc_rowT RO3.out).trans rfl
        have hl := run_loadVar_row (P := Try.prog) _ _ _ 28 _ _ _ hrow2 Try.underlying28 rfl (by kernel_rfl)
        refine bodyPost_ret (v := .tuple #[.agg #[.slice A3 n c3], .int .i64 0]) (by simp [results, Try.results14, asAddr, hl]) rfl ?_
        have zz := ZV.out
        have zw := hbW.size
        have off3 : Off A3 (w.heap.size + 5) := fun a e => by
          rcases far3 with rfl | h
          · have := hold a e; omega
          · have := h a e; simp at zw; omega
        exact ⟨A3, c3, rfl, rdB_off r3 off3 (by simp [World.setCell]) (fun j hj => Below.heap_setCell _ _ _ _ hj), far3.imp id (fun h a e => by have := h a e; simp at zw; omega), (bV.trans HL).setCell (p := ⟨w.heap.size + 5, 0, none⟩) (by simp) _⟩
      · skip
        refine op_run rfl (fun K hK => ?_)
        go_simp
        refine (ringPlace_any k i 2 _ hi (by omega)).mono ?_
        rintro e_ w2 ⟨z2, rfl, hz2, rfl⟩
        rw [hz2 HK.out, ← HR2.out]
        clear hz2
        refine hK.out _ _ (HB) ?_
        clear hK
        try simp only [Act.put, List.setIfInBounds_toArray, List.set_cons_zero, List.set_cons_succ]
        refine wpAnyH_seg (by kernel_rfl) (fun _ _ d _ _ h => by first | (cases d <;> exact h) | cases h.1) 0 #[true, true, true, true, true, true, true, true, true, true, true, true] [(8, true), (0, false), (10, false), (11, true)] _ _ _ (by kernel_rfl) (HB) ?_
        iterate 1 (refine seg_take (v := ?_) rfl (Or.inl ⟨by rfl, ?_⟩) ?_; rotate_left; (focus (intro w' hw'; have j1 := hw'.cell l1 n1 k1; have j2 := hw'.cell l2 n2 k2; have j3 := hw'.cell l3 n3 k3; go_simp <;> with_reducible rfl)); try simp only [Act.put, List.setIfInBounds_toArray, List.set_cons_zero, List.set_cons_succ])
        refine seg_run rfl (fun K hK => ?_)
        go_simp
        go_simp
        refine hK.out _ _ (HB) ?_
        clear hK
        try simp only [Act.put, List.setIfInBounds_toArray, List.set_cons_zero, List.set_cons_succ]
        refine seg_run rfl (fun K hK => ?_)
        go_simp
        refine (HH.out _ HX).mono ?_
        rintro e_ w3 ⟨rfl, W, g, hbW, hg, hf, A3, c3, bx, r3, far3, bt3, bl3⟩
        have HB : But w.heap.size V.heap.size V w3 := ((but_of HX).trans (but_of hbW)).trans (bt3.mono hg)
        have HL : Below w.heap.size V w3 := ((HX.mono (by have := ZV.out; omega)).trans (hbW.mono (by have := ZV.out; have := HX.size; omega))).trans bl3
        refine hK.out _ _ (HB) ?_
        clear hK
        try simp only [Act.put, List.setIfInBounds_toArray, List.set_cons_zero, List.set_cons_succ]
        iterate 1 (refine seg_take (v := ?_) rfl (Or.inl ⟨by rfl, ?_⟩) ?_; rotate_left; (focus (intro w' hw'; have j1 := hw'.cell l1 n1 k1; have j2 := hw'.cell l2 n2 k2; have j3 := hw'.cell l3 n3 k3; go_simp <;> with_reducible rfl)); try simp only [Act.put, List.setIfInBounds_toArray, List.set_cons_zero, List.set_cons_succ])
        refine seg_done (fun _ => ?_)
        refine wpAnyH_done (by kernel_rfl) ?_ _
        have rO3 := (HB.block (w.heap.size + 5) (by have := ZV.out; omega) (by omega)).trans Q5.out
        have e0 := bx.c
        have o0 := (cell_of_row w3 _ 0 _ _ _ rO3).trans (show (#[.slice none 0 0] : Array Value)[0]? = some (.slice none 0 0) from rfl)
        have f0 : w3.frozen? ⟨w.heap.size + 5, 0, none⟩ = false := frozen_of_row _ _ 0 _ _ rO3
        have RO3 := Lib.hid rO3
        clear rO3 bx
        go_wp2_with fail
        have hrow2 : (w3.setCell ⟨w.heap.size + 5, 0, none⟩ (.slice A3 n c3)).heap[w.heap.size + 5]? = some (.cells #[.slice A3 n c3] 28 (0, 0)) := (setc_rowT RO3.out).trans rfl
        have hl := run_loadVar_row (P := Try.prog) _ _ _ 28 _ _ _ hrow2 Try.underlying28 rfl (by kernel_rfl)
        refine bodyPost_ret (v := .tuple #[.agg #[.slice A3 n c3], .int .i64 0]) (by simp [results, Try.results14, asAddr, hl]) rfl ?_
        have zz := ZV.out
        have zw := hbW.size
        have off3 : Off A3 (w.heap.size + 5) := fun a e => by
          rcases far3 with rfl | h
          · have := hold a e; omega
          · have := h a e; simp at zw; omega
        exact ⟨A3, c3, rfl, rdB_off r3 off3 (by simp [World.setCell]) (fun j hj => Below.heap_setCell _ _ _ _ hj), far3.imp id (fun h a e => by have := h a e; simp at zw; omega), (bV.trans HL).setCell (p := ⟨w.heap.size + 5, 0, none⟩) (by simp) _⟩
  · have h' : rgCheck n b k = false := by simpa using h
    rw [if_neg h, if_neg h]
    have HH := Lib.hid (fun a d V2 => ringReading_no A n c b k a d V2 hn hb hk h')
    clear h h'
    go_enter Try.func14, Try.ntmps14
    go_wp2_with fail
    rw [← HV.out]
    refine wp_region_seg (S := fun w' => But w.heap.size V.heap.size V w') 6 #[false, true, true, true, false, true, true, false, false, true, false, false] [(1, true), (2, true), (3, true), (5, true), (6, true), (9, true)] (by kernel_rfl) (by kernel_rfl) (fun _ _ d _ _ h => by first | (cases d <;> exact h) | cases h.1) (but_of (g := w.heap.size) HX) ?_
    have HB := but_of (g := w.heap.size) HX
    iterate 6 (refine seg_take (v := ?_) rfl (Or.inl ⟨by rfl, ?_⟩) ?_; rotate_left; (focus (intro w' hw'; have j1 := hw'.cell l1 n1 k1; have j2 := hw'.cell l2 n2 k2; have j3 := hw'.cell l3 n3 k3; go_simp <;> with_reducible rfl)); try simp only [Act.put, List.setIfInBounds_toArray, List.set_cons_zero, List.set_cons_succ])
    refine seg_done (fun _ => ?_)
    refine wpAnyH_two (i := 0) (j := 4) (f := 5) (by kernel_rfl) ?_ ?_
    · skip
      refine op_run rfl (fun K hK => ?_)
      go_simp
      go_simp
      refine hK.out _ _ (HB) ?_
      clear hK
      try simp only [Act.put, List.setIfInBounds_toArray, List.set_cons_zero, List.set_cons_succ]
      refine wpAnyH_seg (by kernel_rfl) (fun _ _ d _ _ h => by first | (cases d <;> exact h) | cases h.1) 0 #[true, true, true, true, true, true, true, true, true, true, true, true] [(4, false), (7, false), (8, true), (10, false), (11, true)] _ _ _ (by kernel_rfl) (HB) ?_
      refine seg_run rfl (fun K hK => ?_)
      go_simp
      refine (ringAvail_any k _).mono ?_
      rintro e_ w2 ⟨z1, rfl, hz1, rfl⟩
      clear hz1
      refine hK.out _ _ (HB) ?_
      clear hK
      try simp only [Act.put, List.setIfInBounds_toArray, List.set_cons_zero, List.set_cons_succ]
      refine seg_run rfl (fun K hK => ?_)
      go_simp
      refine (ringPlace_any k i 2 _ hi (by omega)).mono ?_
      rintro e_ w2 ⟨z2, rfl, hz2, rfl⟩
      clear hz2
      refine hK.out _ _ (HB) ?_
      clear hK
      try simp only [Act.put, List.setIfInBounds_toArray, List.set_cons_zero, List.set_cons_succ]
      iterate 1 (refine seg_take (v := ?_) rfl (Or.inl ⟨by rfl, ?_⟩) ?_; rotate_left; (focus (intro w' hw'; have j1 := hw'.cell l1 n1 k1; have j2 := hw'.cell l2 n2 k2; have j3 := hw'.cell l3 n3 k3; go_simp <;> with_reducible rfl)); try simp only [Act.put, List.setIfInBounds_toArray, List.set_cons_zero, List.set_cons_succ])
      refine seg_run rfl (fun K hK => ?_)
      go_simp
      refine (HH.out _ _ _).mono ?_
      rintro e_ w3 ⟨rfl, hb3⟩
      have HX9 := below_then HX hb3
      have HB : But w.heap.size V.heap.size V w3 := but_of HX9
      refine hK.out _ _ (HB) ?_
      clear hK
      try simp only [Act.put, List.setIfInBounds_toArray, List.set_cons_zero, List.set_cons_succ]
      iterate 1 (refine seg_take (v := ?_) rfl (Or.inl ⟨by rfl, ?_⟩) ?_; rotate_left; (focus (intro w' hw'; have j1 := hw'.cell l1 n1 k1; have j2 := hw'.cell l2 n2 k2; have j3 := hw'.cell l3 n3 k3; go_simp <;> with_reducible rfl)); try simp only [Act.put, List.setIfInBounds_toArray, List.set_cons_zero, List.set_cons_succ])
      refine seg_done (fun _ => ?_)
      refine wpAnyH_done (by kernel_rfl) ?_ _
      have rO3 := (HX9.block (w.heap.size + 5) (by have := ZV.out; omega)).trans Q5.out
      have rM3 := (HX9.block w.heap.size (by have := ZV.out; omega)).trans Q0.out
      have e0 := (cell_of_row w3 _ 0 _ _ _ rM3).trans (show (#[.slice A n c] : Array Value)[0]? = some (.slice A n c) from rfl)
      have o0 := (cell_of_row w3 _ 0 _ _ _ rO3).trans (show (#[.slice none 0 0] : Array Value)[0]? = some (.slice none 0 0) from rfl)
      have f0 : w3.frozen? ⟨w.heap.size + 5, 0, none⟩ = false := frozen_of_row _ _ 0 _ _ rO3
      have RO3 := Lib.hid rO3
      clear rO3 rM3
      go_wp2_with fail
      have hrow2 : (w3.setCell ⟨w.heap.size + 5, 0, none⟩ (.slice A n c)).heap[w.heap.size + 5]? = some (.cells #[.slice A n c] 28 (0, 0)) := (setc_rowT RO3.out).trans rfl
      have hl := run_loadVar_row (P := Try.prog) _ _ _ 28 _ _ _ hrow2 Try.underlying28 rfl (by kernel_rfl)
      refine bodyPost_ret (v := .tuple #[.agg #[.slice A n c], .int .i64 70]) (by simp [results, Try.results14, asAddr, hl]) rfl ?_
      have B3 := below_then bV HX9
      exact ⟨A, c, rfl, rd_far (hr.below B3) _ _ (fun hn0 a e => by have := hr.lt hn0 a e; show a.block ≠ w.heap.size + 5; omega), .inl rfl, B3.setCell (p := ⟨w.heap.size + 5, 0, none⟩) (by simp) _⟩
    · skip
      refine op_run rfl (fun K hK => ?_)
      go_simp
      refine (ringAvail_any k _).mono ?_
      rintro e_ w2 ⟨z1, rfl, hz1, rfl⟩
      clear hz1
      refine hK.out _ _ (HB) ?_
      clear hK
      try simp only [Act.put, List.setIfInBounds_toArray, List.set_cons_zero, List.set_cons_succ]
      refine wpAnyH_seg (by kernel_rfl) (fun _ _ d _ _ h => by first | (cases d <;> exact h) | cases h.1) 5 #[false, true, true, true, true, true, true, false, false, true, false, false] [] _ _ _ (by kernel_rfl) (HB) ?_
      refine seg_done (fun _ => ?_)
      refine wpAnyH_two (i := 0) (j := 7) (f := 4) (by kernel_rfl) ?_ ?_
      · skip
        refine op_run rfl (fun K hK => ?_)
        go_simp
        go_simp
        refine hK.out _ _ (HB) ?_
        clear hK
        try simp only [Act.put, List.setIfInBounds_toArray, List.set_cons_zero, List.set_cons_succ]
        refine wpAnyH_seg (by kernel_rfl) (fun _ _ d _ _ h => by first | (cases d <;> exact h) | cases h.1) 0 #[true, true, true, true, true, true, true, true, true, true, true, true] [(7, false), (8, true), (10, false), (11, true)] _ _ _ (by kernel_rfl) (HB) ?_
        refine seg_run rfl (fun K hK => ?_)
        go_simp
        refine (ringPlace_any k i 2 _ hi (by omega)).mono ?_
        rintro e_ w2 ⟨z2, rfl, hz2, rfl⟩
        clear hz2
        refine hK.out _ _ (HB) ?_
        clear hK
        try simp only [Act.put, List.setIfInBounds_toArray, List.set_cons_zero, List.set_cons_succ]
        iterate 1 (refine seg_take (v := ?_) rfl (Or.inl ⟨by rfl, ?_⟩) ?_; rotate_left; (focus (intro w' hw'; have j1 := hw'.cell l1 n1 k1; have j2 := hw'.cell l2 n2 k2; have j3 := hw'.cell l3 n3 k3; go_simp <;> with_reducible rfl)); try simp only [Act.put, List.setIfInBounds_toArray, List.set_cons_zero, List.set_cons_succ])
        refine seg_run rfl (fun K hK => ?_)
        go_simp
        refine (HH.out _ _ _).mono ?_
        rintro e_ w3 ⟨rfl, hb3⟩
        have HX9 := below_then HX hb3
        have HB : But w.heap.size V.heap.size V w3 := but_of HX9
        refine hK.out _ _ (HB) ?_
        clear hK
        try simp only [Act.put, List.setIfInBounds_toArray, List.set_cons_zero, List.set_cons_succ]
        iterate 1 (refine seg_take (v := ?_) rfl (Or.inl ⟨by rfl, ?_⟩) ?_; rotate_left; (focus (intro w' hw'; have j1 := hw'.cell l1 n1 k1; have j2 := hw'.cell l2 n2 k2; have j3 := hw'.cell l3 n3 k3; go_simp <;> with_reducible rfl)); try simp only [Act.put, List.setIfInBounds_toArray, List.set_cons_zero, List.set_cons_succ])
        refine seg_done (fun _ => ?_)
        refine wpAnyH_done (by kernel_rfl) ?_ _
        have rO3 := (HX9.block (w.heap.size + 5) (by have := ZV.out; omega)).trans Q5.out
        have rM3 := (HX9.block w.heap.size (by have := ZV.out; omega)).trans Q0.out
        have e0 := (cell_of_row w3 _ 0 _ _ _ rM3).trans (show (#[.slice A n c] : Array Value)[0]? = some (.slice A n c) from rfl)
        have o0 := (cell_of_row w3 _ 0 _ _ _ rO3).trans (show (#[.slice none 0 0] : Array Value)[0]? = some (.slice none 0 0) from rfl)
        have f0 : w3.frozen? ⟨w.heap.size + 5, 0, none⟩ = false := frozen_of_row _ _ 0 _ _ rO3
        have RO3 := Lib.hid rO3
        clear rO3 rM3
        go_wp2_with fail
        have hrow2 : (w3.setCell ⟨w.heap.size + 5, 0, none⟩ (.slice A n c)).heap[w.heap.size + 5]? = some (.cells #[.slice A n c] 28 (0, 0)) := (setc_rowT RO3.out).trans rfl
        have hl := run_loadVar_row (P := Try.prog) _ _ _ 28 _ _ _ hrow2 Try.underlying28 rfl (by kernel_rfl)
        refine bodyPost_ret (v := .tuple #[.agg #[.slice A n c], .int .i64 70]) (by simp [results, Try.results14, asAddr, hl]) rfl ?_
        have B3 := below_then bV HX9
        exact ⟨A, c, rfl, rd_far (hr.below B3) _ _ (fun hn0 a e => by have := hr.lt hn0 a e; show a.block ≠ w.heap.size + 5; omega), .inl rfl, B3.setCell (p := ⟨w.heap.size + 5, 0, none⟩) (by simp) _⟩
      · skip
        refine op_run rfl (fun K hK => ?_)
        go_simp
        refine (ringPlace_any k i 2 _ hi (by omega)).mono ?_
        rintro e_ w2 ⟨z2, rfl, hz2, rfl⟩
        clear hz2
        refine hK.out _ _ (HB) ?_
        clear hK
        try simp only [Act.put, List.setIfInBounds_toArray, List.set_cons_zero, List.set_cons_succ]
        refine wpAnyH_seg (by kernel_rfl) (fun _ _ d _ _ h => by first | (cases d <;> exact h) | cases h.1) 0 #[true, true, true, true, true, true, true, true, true, true, true, true] [(8, true), (0, false), (10, false), (11, true)] _ _ _ (by kernel_rfl) (HB) ?_
        iterate 1 (refine seg_take (v := ?_) rfl (Or.inl ⟨by rfl, ?_⟩) ?_; rotate_left; (focus (intro w' hw'; have j1 := hw'.cell l1 n1 k1; have j2 := hw'.cell l2 n2 k2; have j3 := hw'.cell l3 n3 k3; go_simp <;> with_reducible rfl)); try simp only [Act.put, List.setIfInBounds_toArray, List.set_cons_zero, List.set_cons_succ])
        refine seg_run rfl (fun K hK => ?_)
        go_simp
        go_simp
        refine hK.out _ _ (HB) ?_
        clear hK
        try simp only [Act.put, List.setIfInBounds_toArray, List.set_cons_zero, List.set_cons_succ]
        refine seg_run rfl (fun K hK => ?_)
        go_simp
        refine (HH.out _ _ _).mono ?_
        rintro e_ w3 ⟨rfl, hb3⟩
        have HX9 := below_then HX hb3
        have HB : But w.heap.size V.heap.size V w3 := but_of HX9
        refine hK.out _ _ (HB) ?_
        clear hK
        try simp only [Act.put, List.setIfInBounds_toArray, List.set_cons_zero, List.set_cons_succ]
        iterate 1 (refine seg_take (v := ?_) rfl (Or.inl ⟨by rfl, ?_⟩) ?_; rotate_left; (focus (intro w' hw'; have j1 := hw'.cell l1 n1 k1; have j2 := hw'.cell l2 n2 k2; have j3 := hw'.cell l3 n3 k3; go_simp <;> with_reducible rfl)); try simp only [Act.put, List.setIfInBounds_toArray, List.set_cons_zero, List.set_cons_succ])
        refine seg_done (fun _ => ?_)
        refine wpAnyH_done (by kernel_rfl) ?_ _
        have rO3 := (HX9.block (w.heap.size + 5) (by have := ZV.out; omega)).trans Q5.out
        have rM3 := (HX9.block w.heap.size (by have := ZV.out; omega)).trans Q0.out
        have e0 := (cell_of_row w3 _ 0 _ _ _ rM3).trans (show (#[.slice A n c] : Array Value)[0]? = some (.slice A n c) from rfl)
        have o0 := (cell_of_row w3 _ 0 _ _ _ rO3).trans (show (#[.slice none 0 0] : Array Value)[0]? = some (.slice none 0 0) from rfl)
        have f0 : w3.frozen? ⟨w.heap.size + 5, 0, none⟩ = false := frozen_of_row _ _ 0 _ _ rO3
        have RO3 := Lib.hid rO3
        clear rO3 rM3
        go_wp2_with fail
        have hrow2 : (w3.setCell ⟨w.heap.size + 5, 0, none⟩ (.slice A n c)).heap[w.heap.size + 5]? = some (.cells #[.slice A n c] 28 (0, 0)) := (setc_rowT RO3.out).trans rfl
        have hl := run_loadVar_row (P := Try.prog) _ _ _ 28 _ _ _ hrow2 Try.underlying28 rfl (by kernel_rfl)
        refine bodyPost_ret (v := .tuple #[.agg #[.slice A n c], .int .i64 70]) (by simp [results, Try.results14, asAddr, hl]) rfl ?_
        have B3 := below_then bV HX9
        exact ⟨A, c, rfl, rd_far (hr.below B3) _ _ (fun hn0 a e => by have := hr.lt hn0 a e; show a.block ≠ w.heap.size + 5; omega), .inl rfl, B3.setCell (p := ⟨w.heap.size + 5, 0, none⟩) (by simp) _⟩
end Go.Proofs.Ytnfepikgbdeomaa
