/-
  Layer 20: Get of the document, the packet.
-/
import Derived.Test.YtieilgphcfiapaaIpI
import Derived.Test.YtieilgphcfiapaaIpG
import Derived.Deep.DeepCutAuto
-- facts: PkAt
namespace Go.Proofs.Ytieilgphcfiapaa
set_option maxRecDepth 20000
open Go.RowKit
set_option linter.unusedVariables false
set_option linter.unusedSimpArgs false

theorem fld_one (xs : List UInt8) (p : Nat) (h : p < xs.length) : fld xs p 1 = (xs.getD p 0).toNat := by
  unfold fld
  rw [List.drop_eq_getElem_cons h, List.take_succ_cons, List.take_zero]
  simp [bev, List.getD, h]

set_option maxHeartbeats 1600000 in
theorem refGet20_main (A : Option Addr) (n c : Nat) (xs : List UInt8) (w : World) (hr : RdB w A n c xs) (h : 20 ≤ n) (h1 : fld xs 2 2 ≤ n) (h2 : xs.getD 0 0 = 69) (h3 : 20 ≤ fld xs 2 2) (h4 : fld xs 6 2 < 32768) (h5 : numCheck (xs.take 20) = 0) (h6 : xs.getD 8 0 ≠ 0) (f : Pk) (er : Int) (hf : (fld xs 2 2 ≤ 166 ∧ f = ipGetP xs ∧ er = 0) ∨ (166 < fld xs 2 2 ∧ f = pkZero ∧ er = 2)) :
    Calls Try.prog 33 #[.slice A n c] w (RetPk w f er) := by
  have hn63 := hr.n63
  have hc := hr.2.2.1
  have hc63 := hr.c63
  obtain ⟨b, o, u, rfl, hbl, _⟩ := hr.at_ 0 (by omega)
  have d1 : decide ((n : Int) < 20) = false := decide_eq_false (by omega)
  have c0 : w.cell? ⟨b, o, none⟩ = some (.int .u8 69) := by have := hr.cellS 0 (by omega); rw [Nat.add_zero, h2] at this; exact this
  have c8 := hr.cellS 8 (by omega)
  have c9 := hr.cellS 9 (by omega)
  have hB8 : (xs.getD 8 0).toNat ≠ 0 := fun e => h6 (UInt8.toNat_inj.1 e)
  have hb8 := (xs.getD 8 0).toNat_lt
  have hb9 := (xs.getD 9 0).toNat_lt
  have h91 := fld_one xs 9 (by rw [hr.2.1]; omega)
  generalize (xs.getD 8 0).toNat = B8 at *
  generalize (xs.getD 9 0).toNat = I9 at *
  have HF := Lib.hid (show ∀ (p k : Nat), p + k ≤ 20 → 0 < k → k ≤ 4 → ∀ W : World, RdB W (some ⟨b, o, none⟩) n c xs → Calls Try.prog 67 #[.slice (some ⟨b, o + p, none⟩) k (c - p)] W fun e w' => e = .returned (.int .u64 (fld xs p k : Nat)) ∧ W = w' from fun p k q1 q2 q3 W hR => by
    have h2 := (hR.cutS p (n - p) (by omega) (by omega)).take k (by omega)
    have h3 := refFromBe_any _ _ _ _ W h2
    have e : fromBe ((xs.drop p).take k) = fld xs p k := by unfold fromBe fld; rw [List.take_of_length_le (by rw [h2.2.1]; omega)]
    rw [e] at h3
    exact h3)
  have hnc : (20 : Int) ≤ (c : Int) := by omega
  have kn0 : (0 : Int) < (n : Int) := by omega
  have kn8 : (8 : Int) < (n : Int) := by omega
  have kn9 : (9 : Int) < (n : Int) := by omega
  have kc2 : ¬ (c = 2) := by omega
  have kc4 : ¬ (c = 4) := by omega
  have kc6 : ¬ (c = 6) := by omega
  have kc12 : ¬ (c = 12) := by omega
  have kc16 : ¬ (c = 16) := by omega
  have m6 : (6 : Int) ≤ (c : Int) := by omega
  have m16 : (16 : Int) ≤ (c : Int) := by omega
  have b22 : fld xs 2 2 < 65536 := fld_lt xs 2 2
  have b42 : fld xs 4 2 < 65536 := fld_lt xs 4 2
  have b124 : fld xs 12 4 < 4294967296 := fld_lt xs 12 4
  have b164 : fld xs 16 4 < 4294967296 := fld_lt xs 16 4
  have HP0 := Lib.hid (show ipGetP xs = ⟨fld xs 4 2, decide (fld xs 6 2 / 8192 = 1 ∨ fld xs 6 2 / 8192 = 3), ((8 * (fld xs 6 2 % 8192) : Nat) : Int), (fld xs 9 1 : Nat), fld xs 12 4, fld xs 16 4, (xs.take (fld xs 2 2)).drop 20⟩ from rfl)
  have rL := hr.take (fld xs 2 2) h1
  have HFF := Lib.hid hf
  obtain ⟨L, hL⟩ : ∃ L, L = fld xs 2 2 := ⟨_, rfl⟩
  obtain ⟨Pl, hPl⟩ : ∃ Pl, Pl = fld xs 6 2 := ⟨_, rfl⟩
  obtain ⟨I4, hI4⟩ : ∃ I4, I4 = fld xs 4 2 := ⟨_, rfl⟩
  obtain ⟨S12, hS12⟩ : ∃ S12, S12 = fld xs 12 4 := ⟨_, rfl⟩
  obtain ⟨S16, hS16⟩ : ∃ S16, S16 = fld xs 16 4 := ⟨_, rfl⟩
  have HL := Lib.hid hL
  have HPl := Lib.hid hPl
  have HI4 := Lib.hid hI4
  have HI9 := Lib.hid h91
  have HS12 := Lib.hid hS12
  have HS16 := Lib.hid hS16
  rw [← hL] at h1 h3 b22 rL
  rw [← hPl] at h4
  rw [← hI4] at b42
  rw [← hS12] at b124
  rw [← hS16] at b164
  obtain ⟨mo, hmo⟩ : ∃ mo : Bool, mo = decide (Pl / 8192 = 1 ∨ Pl / 8192 = 3) := ⟨_, rfl⟩
  have HMO := Lib.hid hmo
  obtain ⟨Q, hQ⟩ : ∃ Q : Nat, Q = Pl % 8192 := ⟨_, rfl⟩
  have hQ8 : Q ≤ 8191 := by omega
  have HQ := Lib.hid hQ
  have a0 : IntKind.i64.wrap ((Pl : Int) / 8192) = (Pl : Int) / 8192 := IntWalk.i64_in _ (by omega)
  have a1 : ((((Pl : Int) / 8192)).tmod 2 == 1) = mo := by
    rw [Int.tmod_eq_emod_of_nonneg (by omega), hmo, Bool.eq_iff_iff, beq_iff_eq, decide_eq_true_iff]; omega
  have a2 : (Pl : Int).tmod 8192 = (Q : Int) := by rw [Int.tmod_eq_emod_of_nonneg (by omega)]; omega
  have a3 : IntKind.i64.wrap (8 * (Q : Int)) = 8 * (Q : Int) := IntWalk.i64_in _ (by omega)
  have a4 : IntKind.i64.wrap (I9 : Int) = (I9 : Int) := IntWalk.i64_in _ (by omega)
  have a5 : IntKind.u16.wrap (I4 : Int) = (I4 : Int) := by rw [IntKind.wrap_u16]; omega
  have a6 : IntKind.u32.wrap (S12 : Int) = (S12 : Int) := by rw [IntKind.wrap_u32]; omega
  have a7 : IntKind.u32.wrap (S16 : Int) = (S16 : Int) := by rw [IntKind.wrap_u32]; omega
  have l0 : decide (n < L) = false := decide_eq_false (by omega)
  have l0b : (L : Int) ≤ (n : Int) := by omega
  have l2 : decide ((L : Int) < 20) = false := decide_eq_false (by omega)
  have l2b : (20 : Int) ≤ (L : Int) := by omega
  have l2c : (L : Int) ≤ (c : Int) := by omega
  have l3 : decide ((32768 : Int) ≤ (Pl : Int)) = false := decide_eq_false (by omega)
  have l5 : ((B8 : Int) == 0) = false := by rw [beq_eq_false_iff_ne]; omega
  have HCK := Lib.hid (show ∀ (W : World), RdB W (some ⟨b, o, none⟩) n c xs → Calls Try.prog 59 #[.slice (some ⟨b, o, none⟩) 20 c] W fun e w' => e = .returned (.int .u16 0) ∧ W = w' from fun W hR => by
    have := refNumCheck_any (some ⟨b, o, none⟩) 20 c (xs.take 20) W (hR.take 20 h) (by omega)
    rw [h5] at this
    exact this)
  obtain ⟨A2, k20⟩ : ∃ A2, (if c = 20 then some (⟨b, o, none⟩ : Addr) else some ⟨b, o + 20, none⟩) = A2 := ⟨_, rfl⟩
  have hr3 : RdB w A2 (L - 20) (c - 20) ((xs.take L).drop 20) := by
    have := rL.drop 20 h3
    rw [← k20]
    simpa [Addr.add_lit] using this
  obtain ⟨W, hW⟩ : ∃ W, W = w.alloc (.cells #[.int .u16 0, .bool false, .int .i64 0, .int .i64 0, .int .u32 0, .int .u32 0, .slice none 0 0] 51) := ⟨_, rfl⟩
  have bW : Below w.heap.size w W := by rw [hW]; exact (below_self w).alloc (Nat.le_refl _) _
  have hzW : W.heap.size = w.heap.size + 1 := by rw [hW]; simp
  have hg0 : W.heap[w.heap.size]? = some (.cells #[.int .u16 0, .bool false, .int .i64 0, .int .i64 0, .int .u32 0, .int .u32 0, .slice none 0 0] 51 (0, 0)) := by rw [hW]; exact heap_alloc_new w _
  have hRW := hr.below bW
  have hr3W := hr3.below bW
  have c9W := (bW.cell (p := ⟨b, o + 9, none⟩) hbl).trans c9
  have hbW : b < W.heap.size := by omega
  have HZ := Lib.hid hzW
  have HG := Lib.hid hg0
  have HW := Lib.hid hW
  clear hf hL hPl hI4 h91 hS12 hS16 hmo hQ h5 h6 hB8 hW hzW hg0
  go_enter Try.func33, Try.ntmps33
  go_wp2_with fail
  refine (HF.out 2 2 (by omega) (by omega) (by omega) _ (by exact hr.alloc _)).mono ?_
  rintro e w1 ⟨rfl, rfl⟩
  rw [← HL.out]
  go_wp2_with fail
  refine (HF.out 6 2 (by omega) (by omega) (by omega) _ (by exact hr.alloc _)).mono ?_
  rintro e w1 ⟨rfl, rfl⟩
  rw [← HPl.out]
  go_wp2_with fail
  refine (HCK.out _ (by exact hr.alloc _)).mono ?_
  rintro e w1 ⟨rfl, rfl⟩
  go_upto_region 13 with fail
  go_cut [6] (fun s6 wx => ∃ g A3 n3 c3, s6 = .pointer (some ⟨g, 0, none⟩) ∧ W.heap.size ≤ g ∧ g < wx.heap.size ∧ wx.heap[g]? = some (.cells #[.int .u16 I4, .bool mo, .int .i64 (8 * (Q : Int)), .int .i64 (I9 : Nat), .int .u32 S12, .int .u32 S16, .slice A3 n3 c3] 51 (0, 0)) ∧ RdB wx A3 n3 c3 ((xs.take L).drop 20) ∧ n3 = L - 20 ∧ (∀ a, A3 = some a → a.block ≠ g ∧ W.heap.size ≤ a.block) ∧ Below W.heap.size W wx)
  case first =>
    rw [← HW.out]
    refine wp_region_seg (S := fun w' => Below W.heap.size W w') 5 #[true, true, true, true, true, true, true, true, true, true, true, true, true, true, true, true, true, true, true, true, true, true, true, false, true, true, true, false, false, false, false] [(0, true), (1, true), (2, true), (3, true), (4, true), (5, true), (6, true), (7, true), (8, true), (9, true), (10, true), (11, true), (12, true), (13, true), (14, true), (15, true), (16, true), (17, true), (18, true), (19, true), (20, true), (21, true), (22, true), (24, true), (25, true), (26, true)] (by kernel_rfl) (by kernel_rfl) (fun _ _ d _ _ h => by cases d <;> exact h) ((Below.refl W.heap.size W).drew) ?_
    have HB := (Below.refl W.heap.size W).drew
    iterate 2 (refine seg_take (v := ?_) rfl (Or.inl ⟨by rfl, ?_⟩) ?_; rotate_left; (focus (intro w' hw'; have j9 := (hw'.cell (p := ⟨b, o + 9, none⟩) hbW).trans c9W; go_simp <;> with_reducible rfl)); try simp only [Act.put, List.setIfInBounds_toArray, List.set_cons_zero, List.set_cons_succ])
    refine seg_pure (v := .int .u64 (I4 : Int)) (f := ?_) (args := ?_) rfl (by rfl) (fun w' hw' => ?_) (fun w' hw' => ?_) ?_
    rotate_left 2
    focus (have j9 := (hw'.cell (p := ⟨b, o + 9, none⟩) hbW).trans c9W; go_simp <;> first | (refine ⟨?_, ?_⟩ <;> with_reducible rfl) | with_reducible rfl)
    focus (rw [HI4.out]; exact HF.out 4 2 (by omega) (by omega) (by omega) w' (hRW.below hw'))
    try simp only [Act.put, List.setIfInBounds_toArray, List.set_cons_zero, List.set_cons_succ]
    iterate 14 (refine seg_take (v := ?_) rfl (Or.inl ⟨by rfl, ?_⟩) ?_; rotate_left; (focus (intro w' hw'; have j9 := (hw'.cell (p := ⟨b, o + 9, none⟩) hbW).trans c9W; go_simp <;> with_reducible rfl)); try simp only [Act.put, List.setIfInBounds_toArray, List.set_cons_zero, List.set_cons_succ])
    refine seg_pure (v := .int .u64 (S12 : Int)) (f := ?_) (args := ?_) rfl (by rfl) (fun w' hw' => ?_) (fun w' hw' => ?_) ?_
    rotate_left 2
    focus (have j9 := (hw'.cell (p := ⟨b, o + 9, none⟩) hbW).trans c9W; go_simp <;> first | (refine ⟨?_, ?_⟩ <;> with_reducible rfl) | with_reducible rfl)
    focus (rw [HS12.out]; exact HF.out 12 4 (by omega) (by omega) (by omega) w' (hRW.below hw'))
    try simp only [Act.put, List.setIfInBounds_toArray, List.set_cons_zero, List.set_cons_succ]
    iterate 3 (refine seg_take (v := ?_) rfl (Or.inl ⟨by rfl, ?_⟩) ?_; rotate_left; (focus (intro w' hw'; have j9 := (hw'.cell (p := ⟨b, o + 9, none⟩) hbW).trans c9W; go_simp <;> with_reducible rfl)); try simp only [Act.put, List.setIfInBounds_toArray, List.set_cons_zero, List.set_cons_succ])
    refine seg_pure (v := .int .u64 (S16 : Int)) (f := ?_) (args := ?_) rfl (by rfl) (fun w' hw' => ?_) (fun w' hw' => ?_) ?_
    rotate_left 2
    focus (have j9 := (hw'.cell (p := ⟨b, o + 9, none⟩) hbW).trans c9W; go_simp <;> first | (refine ⟨?_, ?_⟩ <;> with_reducible rfl) | with_reducible rfl)
    focus (rw [HS16.out]; exact HF.out 16 4 (by omega) (by omega) (by omega) w' (hRW.below hw'))
    try simp only [Act.put, List.setIfInBounds_toArray, List.set_cons_zero, List.set_cons_succ]
    iterate 4 (refine seg_take (v := ?_) rfl (Or.inl ⟨by rfl, ?_⟩) ?_; rotate_left; (focus (intro w' hw'; have j9 := (hw'.cell (p := ⟨b, o + 9, none⟩) hbW).trans c9W; go_simp <;> with_reducible rfl)); try simp only [Act.put, List.setIfInBounds_toArray, List.set_cons_zero, List.set_cons_succ])
    refine seg_done (fun _ => ?_)
    refine wpAnyH_two (i := 23) (j := 29) (f := 4) (by kernel_rfl) ?_ ?_
    · skip
      refine op_run rfl (fun K hK => ?_)
      rw [if_pos (by rfl)]
      refine op_lit #[] 5 0 rfl (fun w => by go_simp) ?_
      intro gB wB eB hBrow HBb hBsz
      try have hLz := Nat.lt_of_lt_of_le hLz HBb.size
      have HB0 := HB.size
      try have hL := (HBb.block _ (by omega)).trans hL
      have HB := below_then HB HBb
      have hoB := own_at0 hBrow (base := W.heap.size) (by omega)
      refine hK.out _ _ (HB) ?_
      clear hK
      try simp only [Act.put, List.setIfInBounds_toArray, List.set_cons_zero, List.set_cons_succ]
      refine wpAnyH_seg (by kernel_rfl) (fun _ _ d _ _ h => by cases d <;> exact h) 4 #[true, true, true, true, true, true, true, true, true, true, true, true, true, true, true, true, true, true, true, true, true, true, true, true, true, true, true, false, false, false, false] [] _ _ _ (by kernel_rfl) (HB) ?_
      refine seg_done (fun _ => ?_)
      refine wpAnyH_two (i := 27) (j := 29) (f := 3) (by kernel_rfl) ?_ ?_
      · skip
        refine op_run rfl (fun K hK => ?_)
        rw [if_pos (by rfl)]
        have hA0 : ∀ a, some (⟨gB, 0, none⟩ : Addr) = some a → a.block = gB := fun a h => by cases h; rfl
        refine op_appB _ _ rfl HB (Nat.le_refl _) HB.size _ _ _ _ rfl hoB _ _ _ _ rfl (hr3W.below HB) (by omega) (L - 20) ((xs.take L).drop 20) (by omega) (by simp) ?_
        intro A3 c3 wA hoA HBa hgA
        try have hL := grown_keep hgA hL (fun a h => by rw [hA0 a h]; omega)
        try have hLz := Nat.lt_of_lt_of_le hLz hgA.size
        have HB := HBa
        refine hK.out _ _ (HB) ?_
        clear hK
        try simp only [Act.put, List.setIfInBounds_toArray, List.set_cons_zero, List.set_cons_succ]
        refine wpAnyH_seg (by kernel_rfl) (fun _ _ d _ _ h => by cases d <;> exact h) 0 #[true, true, true, true, true, true, true, true, true, true, true, true, true, true, true, true, true, true, true, true, true, true, true, true, true, true, true, true, true, true, true] [(28, true), (29, false), (30, false)] _ _ _ (by kernel_rfl) (HB) ?_
        iterate 1 (refine seg_take (v := ?_) rfl (Or.inl ⟨by rfl, ?_⟩) ?_; rotate_left; (focus (intro w' hw'; have j9 := (hw'.cell (p := ⟨b, o + 9, none⟩) hbW).trans c9W; go_simp <;> with_reducible rfl)); try simp only [Act.put, List.setIfInBounds_toArray, List.set_cons_zero, List.set_cons_succ])
        refine seg_run rfl (fun K hK => ?_)
        rw [if_pos (by rfl)]
        refine op_new #[.int .u16 0, .bool false, .int .i64 0, .int .i64 0, .int .u32 0, .int .u32 0, .slice none 0 0] 51 (fun w => by go_simp) ?_
        intro gL wL eL hL HBl hLsz
        have hLz : gL < wL.heap.size := by omega
        try have hoB := hoB.below HBl
        try have hoA := hoA.below HBl
        have HB0 := HB.size
        have HB := below_then HB HBl
        refine hK.out _ _ (HB) ?_
        clear hK
        try simp only [Act.put, List.setIfInBounds_toArray, List.set_cons_zero, List.set_cons_succ]
        refine seg_run rfl (fun K hK => ?_)
        rw [if_pos (by rfl)]
        have hLW : W.heap.size ≤ gL := by omega
        refine wp_store_row _ _ _ rfl gL #[.int .u16 I4, .bool mo, .int .i64 (8 * (Q : Int)), .int .i64 (I9 : Nat), .int .u32 S12, .int .u32 S16, .slice A3 (L - 20) c3] rfl rfl _ _ hL (by kernel_rfl : (Try.prog.info? 51).map (·.size) = some 7) rfl (by simp [Value.oneCell']) ?_
        have HB := below_setRow HB hLW #[.int .u16 I4, .bool mo, .int .i64 (8 * (Q : Int)), .int .i64 (I9 : Nat), .int .u32 S12, .int .u32 S16, .slice A3 (L - 20) c3]
        refine hK.out _ _ (HB) ?_
        clear hK
        try simp only [Act.put, List.setIfInBounds_toArray, List.set_cons_zero, List.set_cons_succ]
        refine seg_done (fun _ => ?_)
        refine wpAnyH_done (by kernel_rfl) ?_ _
        have hA3 := own_ne hoA hL (by decide)
        have hrow := setRow_heap _ gL _ #[.int .u16 I4, .bool mo, .int .i64 (8 * (Q : Int)), .int .i64 (I9 : Nat), .int .u32 S12, .int .u32 S16, .slice A3 (L - 20) c3] _ _ hL
        go_wp2_with fail
        go_meet
        exact ⟨gL, A3, L - 20, c3, rfl, hLW, by simp; omega, hrow, rd_row hoA.rd _ _ (fun _ a ha => (hA3 a ha).1), rfl, hA3, HB⟩
      · skip
        refine op_run rfl (fun K hK => ?_)
        rw [if_pos (by rfl)]
        refine op_new #[.int .u16 0, .bool false, .int .i64 0, .int .i64 0, .int .u32 0, .int .u32 0, .slice none 0 0] 51 (fun w => by go_simp) ?_
        intro gL wL eL hL HBl hLsz
        have hLz : gL < wL.heap.size := by omega
        try have hoB := hoB.below HBl
        try have hoA := hoA.below HBl
        have HB0 := HB.size
        have HB := below_then HB HBl
        refine hK.out _ _ (HB) ?_
        clear hK
        try simp only [Act.put, List.setIfInBounds_toArray, List.set_cons_zero, List.set_cons_succ]
        refine wpAnyH_seg (by kernel_rfl) (fun _ _ d _ _ h => by cases d <;> exact h) 0 #[true, true, true, true, true, true, true, true, true, true, true, true, true, true, true, true, true, true, true, true, true, true, true, true, true, true, true, true, true, true, true] [(27, false), (28, true), (30, false)] _ _ _ (by kernel_rfl) (HB) ?_
        refine seg_run rfl (fun K hK => ?_)
        rw [if_pos (by rfl)]
        have hA0 : ∀ a, some (⟨gB, 0, none⟩ : Addr) = some a → a.block = gB := fun a h => by cases h; rfl
        refine op_appB _ _ rfl HB (Nat.le_refl _) HB.size _ _ _ _ rfl hoB _ _ _ _ rfl (hr3W.below HB) (by omega) (L - 20) ((xs.take L).drop 20) (by omega) (by simp) ?_
        intro A3 c3 wA hoA HBa hgA
        try have hL := grown_keep hgA hL (fun a h => by rw [hA0 a h]; omega)
        try have hLz := Nat.lt_of_lt_of_le hLz hgA.size
        have HB := HBa
        refine hK.out _ _ (HB) ?_
        clear hK
        try simp only [Act.put, List.setIfInBounds_toArray, List.set_cons_zero, List.set_cons_succ]
        iterate 1 (refine seg_take (v := ?_) rfl (Or.inl ⟨by rfl, ?_⟩) ?_; rotate_left; (focus (intro w' hw'; have j9 := (hw'.cell (p := ⟨b, o + 9, none⟩) hbW).trans c9W; go_simp <;> with_reducible rfl)); try simp only [Act.put, List.setIfInBounds_toArray, List.set_cons_zero, List.set_cons_succ])
        refine seg_run rfl (fun K hK => ?_)
        rw [if_pos (by rfl)]
        have hLW : W.heap.size ≤ gL := by omega
        refine wp_store_row _ _ _ rfl gL #[.int .u16 I4, .bool mo, .int .i64 (8 * (Q : Int)), .int .i64 (I9 : Nat), .int .u32 S12, .int .u32 S16, .slice A3 (L - 20) c3] rfl rfl _ _ hL (by kernel_rfl : (Try.prog.info? 51).map (·.size) = some 7) rfl (by simp [Value.oneCell']) ?_
        have HB := below_setRow HB hLW #[.int .u16 I4, .bool mo, .int .i64 (8 * (Q : Int)), .int .i64 (I9 : Nat), .int .u32 S12, .int .u32 S16, .slice A3 (L - 20) c3]
        refine hK.out _ _ (HB) ?_
        clear hK
        try simp only [Act.put, List.setIfInBounds_toArray, List.set_cons_zero, List.set_cons_succ]
        refine seg_done (fun _ => ?_)
        refine wpAnyH_done (by kernel_rfl) ?_ _
        have hA3 := own_ne hoA hL (by decide)
        have hrow := setRow_heap _ gL _ #[.int .u16 I4, .bool mo, .int .i64 (8 * (Q : Int)), .int .i64 (I9 : Nat), .int .u32 S12, .int .u32 S16, .slice A3 (L - 20) c3] _ _ hL
        go_wp2_with fail
        go_meet
        exact ⟨gL, A3, L - 20, c3, rfl, hLW, by simp; omega, hrow, rd_row hoA.rd _ _ (fun _ a ha => (hA3 a ha).1), rfl, hA3, HB⟩
    · skip
      refine op_run rfl (fun K hK => ?_)
      rw [if_pos (by rfl)]
      refine op_new #[.int .u16 0, .bool false, .int .i64 0, .int .i64 0, .int .u32 0, .int .u32 0, .slice none 0 0] 51 (fun w => by go_simp) ?_
      intro gL wL eL hL HBl hLsz
      have hLz : gL < wL.heap.size := by omega
      try have hoB := hoB.below HBl
      try have hoA := hoA.below HBl
      have HB0 := HB.size
      have HB := below_then HB HBl
      refine hK.out _ _ (HB) ?_
      clear hK
      try simp only [Act.put, List.setIfInBounds_toArray, List.set_cons_zero, List.set_cons_succ]
      refine wpAnyH_seg (by kernel_rfl) (fun _ _ d _ _ h => by cases d <;> exact h) 0 #[true, true, true, true, true, true, true, true, true, true, true, true, true, true, true, true, true, true, true, true, true, true, true, true, true, true, true, true, true, true, true] [(23, false), (27, false), (28, true), (30, false)] _ _ _ (by kernel_rfl) (HB) ?_
      refine seg_run rfl (fun K hK => ?_)
      rw [if_pos (by rfl)]
      refine op_lit #[] 5 0 rfl (fun w => by go_simp) ?_
      intro gB wB eB hBrow HBb hBsz
      try have hLz := Nat.lt_of_lt_of_le hLz HBb.size
      have HB0 := HB.size
      try have hL := (HBb.block _ (by omega)).trans hL
      have HB := below_then HB HBb
      have hoB := own_at0 hBrow (base := W.heap.size) (by omega)
      refine hK.out _ _ (HB) ?_
      clear hK
      try simp only [Act.put, List.setIfInBounds_toArray, List.set_cons_zero, List.set_cons_succ]
      refine seg_run rfl (fun K hK => ?_)
      rw [if_pos (by rfl)]
      have hA0 : ∀ a, some (⟨gB, 0, none⟩ : Addr) = some a → a.block = gB := fun a h => by cases h; rfl
      refine op_appB _ _ rfl HB (Nat.le_refl _) HB.size _ _ _ _ rfl hoB _ _ _ _ rfl (hr3W.below HB) (by omega) (L - 20) ((xs.take L).drop 20) (by omega) (by simp) ?_
      intro A3 c3 wA hoA HBa hgA
      try have hL := grown_keep hgA hL (fun a h => by rw [hA0 a h]; omega)
      try have hLz := Nat.lt_of_lt_of_le hLz hgA.size
      have HB := HBa
      refine hK.out _ _ (HB) ?_
      clear hK
      try simp only [Act.put, List.setIfInBounds_toArray, List.set_cons_zero, List.set_cons_succ]
      iterate 1 (refine seg_take (v := ?_) rfl (Or.inl ⟨by rfl, ?_⟩) ?_; rotate_left; (focus (intro w' hw'; have j9 := (hw'.cell (p := ⟨b, o + 9, none⟩) hbW).trans c9W; go_simp <;> with_reducible rfl)); try simp only [Act.put, List.setIfInBounds_toArray, List.set_cons_zero, List.set_cons_succ])
      refine seg_run rfl (fun K hK => ?_)
      rw [if_pos (by rfl)]
      have hLW : W.heap.size ≤ gL := by omega
      refine wp_store_row _ _ _ rfl gL #[.int .u16 I4, .bool mo, .int .i64 (8 * (Q : Int)), .int .i64 (I9 : Nat), .int .u32 S12, .int .u32 S16, .slice A3 (L - 20) c3] rfl rfl _ _ hL (by kernel_rfl : (Try.prog.info? 51).map (·.size) = some 7) rfl (by simp [Value.oneCell']) ?_
      have HB := below_setRow HB hLW #[.int .u16 I4, .bool mo, .int .i64 (8 * (Q : Int)), .int .i64 (I9 : Nat), .int .u32 S12, .int .u32 S16, .slice A3 (L - 20) c3]
      refine hK.out _ _ (HB) ?_
      clear hK
      try simp only [Act.put, List.setIfInBounds_toArray, List.set_cons_zero, List.set_cons_succ]
      refine seg_done (fun _ => ?_)
      refine wpAnyH_done (by kernel_rfl) ?_ _
      have hA3 := own_ne hoA hL (by decide)
      have hrow := setRow_heap _ gL _ #[.int .u16 I4, .bool mo, .int .i64 (8 * (Q : Int)), .int .i64 (I9 : Nat), .int .u32 S12, .int .u32 S16, .slice A3 (L - 20) c3] _ _ hL
      go_wp2_with fail
      go_meet
      exact ⟨gL, A3, L - 20, c3, rfl, hLW, by simp; omega, hrow, rd_row hoA.rd _ _ (fun _ a ha => (hA3 a ha).1), rfl, hA3, HB⟩
  case rest =>
    obtain ⟨g, A6, n6, c6, rfl, hgW, hgz, hrow, rdV, rfl, hA6, BV⟩ := hcut
    have pV : PkAt wc g I4 mo (8 * (Q : Int)) (I9 : Nat) S12 S16 A6 (L - 20) c6 := by
      have c0 := fun i => cell_of_row wc g i _ _ _ hrow
      exact ⟨c0 0, c0 1, c0 2, c0 3, c0 4, c0 5, c0 6⟩
    have rowV := (BV.block w.heap.size (by rw [HZ.out]; omega)).trans HG.out
    have hp := pV
    obtain ⟨q0, q1, q2, q3, q4, q5, q6⟩ := hp
    clear hrow
    go_wp2_with fail
    clear q0 q1 q2 q3 q4 q5 q6
    refine (refCheck20_any I4 mo (8 * (Q : Int)) I9 S12 S16 A6 (L - 20) c6 wc (by omega) (by omega) (by omega)).mono ?_
    rintro e w8 ⟨rfl, hb8⟩
    have p8 := pV.below hb8 hgz
    have zz := HZ.out
    have zv := BV.size
    have row8 := (hb8.block w.heap.size (by omega)).trans rowV
    have B8 := below_then (below_then bW BV) hb8
    have rd8 := rdV.below hb8
    have ROW8 := Lib.hid row8
    have HNE := Lib.hid (show ∀ a, A6 = some a → a.block ≠ w.heap.size from fun a ha => by have := (hA6 a ha).2; omega)
    clear row8 rowV hA6 zz
    rcases HFF.out with ⟨g1, g2, g3⟩ | ⟨g1, g2, g3⟩
    · have hck : ipCheck (8 * (Q : Int)) (I9 : Nat) (L - 20) = true := by rw [ipCheck_iff]; have := HL.out; omega
      rw [hck]
      subst g2 g3
      clear hck
      obtain ⟨q0, q1, q2, q3, q4, q5, q6⟩ := p8
      go_wp2_with (refine wpList_store_row rfl _ _ _ rfl w.heap.size #[.int .u16 I4, .bool mo, .int .i64 (8 * (Q : Int)), .int .i64 (I9 : Nat), .int .u32 S12, .int .u32 S16, .slice A6 (L - 20) c6] rfl rfl _ _ ROW8.out (by kernel_rfl : (Try.prog.info? 51).map (·.size) = some 7) rfl (by simp [Value.oneCell']) ?_)
      have cs := fun j => cell_setRow_same w8 w.heap.size j _ #[.int .u16 I4, .bool mo, .int .i64 (8 * (Q : Int)), .int .i64 (I9 : Nat), .int .u32 S12, .int .u32 S16, .slice A6 (L - 20) c6] _ _ ROW8.out
      exact bodyPost_ret (v := .tuple #[.agg #[.int .u16 I4, .bool mo, .int .i64 (8 * (Q : Int)), .int .i64 (I9 : Nat), .int .u32 S12, .int .u32 S16, .slice A6 (L - 20) c6], .int .i64 0]) (by simp [results, Try.results33, go_sem, cs]) rfl ⟨A6, L - 20, c6, by rw [HP0.out, ← HL.out, ← HPl.out, ← HI4.out, HI9.out, ← HS12.out, ← HS16.out]; simp only [← HMO.out, ← HQ.out]; rw [show ((8 * Q : Nat) : Int) = 8 * (Q : Int) by omega], rd_row (by rw [HP0.out, ← HL.out]; exact rd8) _ _ (fun _ a ha => HNE.out a ha), below_setRow B8 (by omega) _⟩
    · have hck : ipCheck (8 * (Q : Int)) (I9 : Nat) (L - 20) = false := by rw [Bool.eq_false_iff, Ne, ipCheck_iff]; have := HL.out; omega
      rw [hck]
      subst g2 g3
      clear hck
      obtain ⟨q0, q1, q2, q3, q4, q5, q6⟩ := p8
      go_wp2_with (refine wpList_store_row rfl _ _ _ rfl w.heap.size #[.int .u16 0, .bool false, .int .i64 0, .int .i64 0, .int .u32 0, .int .u32 0, .slice none 0 0] rfl rfl _ _ ROW8.out (by kernel_rfl : (Try.prog.info? 51).map (·.size) = some 7) rfl (by simp [Value.oneCell']) ?_)
      have cs := fun j => cell_setRow_same w8 w.heap.size j _ #[.int .u16 0, .bool false, .int .i64 0, .int .i64 0, .int .u32 0, .int .u32 0, .slice none 0 0] _ _ ROW8.out
      exact bodyPost_ret (v := .tuple #[.agg #[.int .u16 0, .bool false, .int .i64 0, .int .i64 0, .int .u32 0, .int .u32 0, .slice none 0 0], .int .i64 2]) (by simp [results, Try.results33, go_sem, cs]) rfl ⟨none, 0, 0, rfl, RdB.nilB _, below_setRow B8 (by omega) _⟩
end Go.Proofs.Ytieilgphcfiapaa
