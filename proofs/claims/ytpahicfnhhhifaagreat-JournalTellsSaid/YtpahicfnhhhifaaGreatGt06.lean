/-
 Proved here, for the statement JournalTells:
 Layer 13: joined, Put of the package.
-/
import Derived.Test.YtpahicfnhhhifaaGreatGt03
import Derived.Test.YtpahicfnhhhifaaGreatGt05
set_option linter.unusedVariables false
set_option linter.unusedSimpArgs false
namespace Go.Proofs.YtpahicfnhhhifaaGreat
set_option maxRecDepth 20000
open Go.RowKit
set_option maxHeartbeats 8000000
theorem suDig {w : World} {h g : Nat} {s l : Int} {D : List UInt8} {T : TypeId} {m : Nat × Nat} (hw : w.heap[h]? = some (.cells (suV g s l D) T m)) (hD : D.length = 32) : RdB w (some ⟨h, 3, none⟩) 32 32 D :=
 rdPart hw 3 D 32 (fun i _ => suV3 ..) hD (by simp [maxLen])
theorem suInfo (g : Nat) (s l : Int) (D : List UInt8) (hD : D.length = 32) : (Tryz.prog.info? 33).map (·.size) = some (suV g s l D).size := by
 rw [suVn, hD]; kernel_rfl
theorem suB_flat (g s l : Nat) (D : List UInt8) : ([[80, 72, 83, 66], leB g 4, leB l 4, [UInt8.ofNat s], D] : List (List UInt8)).flatten ++ List.replicate (252 - 45) 0 = suB g s l D := by
 simp [suB, List.append_assoc]
theorem joined13_any (A : Option Addr) (K c : Nat) (ss : List Value) (yss : List (List UInt8)) (w : World) (hr : Rd w A ss) (hK : ss.length = K) (hK2 : K ≤ 1000000) (hp : Parts w ss yss) (hm : yss.flatten.length ≤ 252) :
  Calls Tryz.prog 96 #[.slice A K c] w (RetB w (yss.flatten ++ List.replicate (252 - yss.flatten.length) 0)) := by
 obtain ⟨Z, hZ⟩ : ∃ Z, yss.flatten = Z := ⟨_, rfl⟩
 rw [hZ] at hm ⊢
 have HZ := Lib.hid hZ
 clear hZ
 go_enter Tryz.func96, Tryz.ntmps96
 go_wp2_with fail
 refine (concat_any A K c ss yss _ hr hK hK2 hp (by rw [HZ.out]; omega)).mono ?_
 rintro e w1 ⟨A1, n1, c1, rfl, ho, hb⟩
 rw [HZ.out] at ho
 have hl := ho.len
 subst hl
 have z1 := hb.size
 go_wp2_with (at_builtin; refine wp_appZ rfl _ _ rfl hb (Nat.le_refl _) z1 A1 _ c1 Z rfl ho (252 - Z.length) .i64 _ rfl (by omega) (by omega) 252 _ (by omega) rfl ?_; intro A2 c2 w2 ho2 hb2 hg2)
 go_ret
 exact ⟨_, _, _, rfl, ho2, hb2⟩
theorem suPut_no (g : Nat) (s l : Int) (D : List UInt8) (w : World) (hs : -9223372036854775808 ≤ s ∧ s ≤ 9223372036854775807) (hD : D.length = 32) (hc : suCheck s l = false) :
  Calls Tryz.prog 55 #[.agg (suV g s l D)] w (RetBE w [] 2) := by
 have hsz : (suV g s l D).size = 35 := by rw [suVn, hD]
 obtain ⟨W, hW⟩ : ∃ W, W = w.alloc (.cells (suV g s l D) 33) := ⟨_, rfl⟩
 have bW : Below w.heap.size w W := by rw [hW]; exact (below_self w).alloc (Nat.le_refl _) _
 have HW := Lib.hid hW
 clear hW
 go_enter Tryz.func55, Tryz.ntmps55
 go_wp2_with (refine wpList_load_row rfl 33 _ rfl w.heap.size rfl 33 (suV g s l D) (0, 0) _ (row1 ..) Tryz.underlying33 rfl (suInfo g s l D hD) ?_)
 rw [← HW.out]
 have hh := suCheck_any g s l D W hs hD
 rw [hc] at hh
 refine hh.mono ?_
 rintro e w1 ⟨rfl, hb1⟩
 go_wp2
 go_ret2
 exact ⟨none, 0, 0, rfl, OwnB.nilB _ _, below_then bW hb1⟩
theorem cutS8 {G : Prop} {R : World → Nat → Option Addr → Nat → Nat → Option Addr → Nat → Nat → Nat → Prop} {P : World → Nat → Option Addr → Nat → Nat → Option Addr → Nat → Nat → Nat → Prop} (T : ∀ U gM AG nG cG AL nL cL gS, R U gM AG nG cG AL nL cL gS → P U gM AG nG cG AL nL cL gS) (M : (∀ U gM AG nG cG AL nL cL gS, R U gM AG nG cG AL nL cL gS → P U gM AG nG cG AL nL cL gS) → G) : G := M T
theorem suPut_yes (g s l : Nat) (D : List UInt8) (w : World) (hg : g < 4294967296) (hD : D.length = 32) (hc : suCheck (s : Int) (l : Int) = true) :
  Calls Tryz.prog 55 #[.agg (suV g s l D)] w (RetBE w (suL g s l D) 0) := by
 have hc' := of_decide_eq_true hc
 have hsz : (suV g s l D).size = 35 := by rw [suVn, hD]
 obtain ⟨W0, hW⟩ : ∃ W, W = w.alloc (.cells (suV g s l D) 33) := ⟨_, rfl⟩
 have bW0 : Below w.heap.size w W0 := by rw [hW]; exact (below_self w).alloc (Nat.le_refl _) _
 have hrow0 : W0.heap[w.heap.size]? = some (.cells (suV g s l D) 33 (0, 0)) := by rw [hW]; exact row1 ..
 have hz0 : w.heap.size < W0.heap.size := by rw [hW]; simp
 have HW := Lib.hid hW
 have HR0 := Lib.hid hrow0
 clear hW hrow0
 go_enter Tryz.func55, Tryz.ntmps55
 go_wp2_with (refine wpList_load_row rfl 33 _ rfl w.heap.size rfl 33 (suV g s l D) (0, 0) _ (row1 ..) Tryz.underlying33 rfl (suInfo g s l D hD) ?_)
 rw [← HW.out]
 have hh := suCheck_any g s l D W0 (by omega) hD
 rw [hc] at hh
 refine hh.mono ?_
 clear hh
 rintro e W ⟨rfl, hb1⟩
 have bW := below_then bW0 hb1
 have hz : w.heap.size < W.heap.size := Nat.lt_of_lt_of_le hz0 hb1.size
 have hrow := (hb1.block _ hz0).trans HR0.out
 have c0 := (cell_of_row W _ 0 _ _ _ hrow).trans (suV0 g s l D)
 have c1 := (cell_of_row W _ 1 _ _ _ hrow).trans (suV1 g s l D)
 have c2 := (cell_of_row W _ 2 _ _ _ hrow).trans (suV2 g s l D)
 have rD := suDig hrow hD
 clear hrow
 have w8 : IntKind.u8.wrap (s : Int) = ((UInt8.ofNat s).toNat : Int) := by rw [UInt8.toNat_ofNat', IntKind.wrap_u8]; omega
 have wg := w64n (k := g) (by omega)
 have wl := w64n (k := l) (by omega)
 have W8 := Lib.hid w8
 go_wp2_with fail
 have JJ : Hid (∀ w', Below W.heap.size W w' → w'.cell? ⟨w.heap.size, 0, none⟩ = some (.int .u32 (g : Int)) ∧ w'.cell? ⟨w.heap.size, 1, none⟩ = some (.int .i64 (s : Int)) ∧ w'.cell? ⟨w.heap.size, 2, none⟩ = some (.int .i64 (l : Int))) := Lib.hid (fun w' hw' => ⟨(hw'.cell (p := ⟨w.heap.size, 0, none⟩) hz).trans c0, (hw'.cell (p := ⟨w.heap.size, 1, none⟩) hz).trans c1, (hw'.cell (p := ⟨w.heap.size, 2, none⟩) hz).trans c2⟩)
 apply cutS8 (R := fun U gM AG nG cG AL nL cL gS => RdB U (some ⟨gM, 0, none⟩) 4 4 [80, 72, 83, 66] ∧ RdB U AG nG cG (leB g 4) ∧ RdB U AL nL cL (leB l 4) ∧ RdB U (some ⟨gS, 0, none⟩) 1 1 [UInt8.ofNat s] ∧ Below W.heap.size W U)
 rotate_left
 ·intro TL
  refine wp_region_seg (S := fun w' => Below W.heap.size W w') 10 (brw9 21 56796) [(2, true), (3, true), (4, true), (6, true), (7, true), (8, true), (10, true), (11, true), (12, true), (14, true), (15, true)] (by kernel_rfl) (by kernel_rfl) (fun _ _ d _ _ h => by first | (cases d <;> exact h) | cases h.1) ((Below.refl W.heap.size W).drew) ?_
  have HB := (Below.refl W.heap.size W).drew
  iterate 11 (refine seg_take (v := ?_) rfl (Or.inl ⟨by rfl, ?_⟩) ?_; rotate_left; (focus (intro w' hw'; obtain ⟨j0, j1, j2⟩ := JJ.out w' hw'; go_simp <;> with_reducible rfl)); try simp only [Act.put, pst3])
  refine seg_done (fun _ => ?_)
  refine wpAnyH_three (i := 0) (j := 5) (k := 13) (f := 9) (by kernel_rfl) ?_ ?_ ?_
  ·skip
   refine op_run rfl (fun K hK => ?_)
   rw [if_pos (by rfl)]
   refine op_lit #[.int .u8 80, .int .u8 72, .int .u8 83, .int .u8 66] 5 4 rfl (fun w => by go_simp) ?_
   intro gM wM eM hMrow HMb hMsz
   have hMle0 := HB.size
   have HB := below_then HB HMb
   try have rG := rG.below HMb
   try have rL := rL.below HMb
   try have rS := rS.below HMb
   have hMW : W.heap.size ≤ gM := by rw [← eM]; exact Nat.le_trans hMle0 (Nat.le_refl _)
   have hMlt : gM < wM.heap.size := by rw [hMsz]; exact Nat.lt_succ_self _
   refine hK.out _ _ (HB) ?_
   clear hK
   try simp only [Act.put, pst3]
   refine wpAnyH_seg (by kernel_rfl) (fun _ _ d _ _ h => by first | (cases d <;> exact h) | cases h.1) 9 (brw9 21 56797) [] _ _ _ (by kernel_rfl) (HB) ?_
   refine seg_done (fun _ => ?_)
   refine wpAnyH_three (i := 1) (j := 5) (k := 13) (f := 8) (by kernel_rfl) ?_ ?_ ?_
   ·skip
    refine op_run rfl (fun K hK => ?_)
    rw [if_pos (by rfl)]
    refine op_mark _ rfl gM 4 4 rfl _ _ hMrow HB hMW ?_
    intro wF HFs HB HFo
    try have rG := rG.same HFs
    try have rL := rL.same HFs
    try have rS := rS.same HFs
    have rM := (rdAt hMrow [80, 72, 83, 66] 4 rfl rfl (by simp [maxLen])).same HFs
    clear hMrow
    refine hK.out _ _ (HB) ?_
    clear hK
    try simp only [Act.put, pst3]
    refine wpAnyH_seg (by kernel_rfl) (fun _ _ d _ _ h => by first | (cases d <;> exact h) | cases h.1) 8 (brw9 21 56799) [] _ _ _ (by kernel_rfl) (HB) ?_
    refine seg_done (fun _ => ?_)
    refine wpAnyH_two (i := 5) (j := 13) (f := 7) (by kernel_rfl) ?_ ?_
    ·skip
     refine op_run rfl (fun K hK => ?_)
     go_simp
     refine (le_any g 4 _ (by omega)).mono ?_
     rintro e wG ⟨AG, nG, cG, rfl, oG, HGb⟩
     have HB := below_then HB HGb
     try have hMrow := (HGb.block _ hMlt).trans hMrow
     try have hMlt := Nat.lt_of_lt_of_le hMlt HGb.size
     try have rM := rM.below HGb
     try have rS := rS.below HGb
     have rG := oG.rd
     clear oG
     refine hK.out _ _ (HB) ?_
     clear hK
     try simp only [Act.put, pst3]
     refine wpAnyH_seg (by kernel_rfl) (fun _ _ d _ _ h => by first | (cases d <;> exact h) | cases h.1) 7 (brw9 21 56831) [] _ _ _ (by kernel_rfl) (HB) ?_
     refine seg_done (fun _ => ?_)
     refine wpAnyH_two (i := 9) (j := 13) (f := 6) (by kernel_rfl) ?_ ?_
     ·skip
      refine op_run rfl (fun K hK => ?_)
      go_simp
      refine (le_any l 4 _ (by omega)).mono ?_
      rintro e wL ⟨AL, nL, cL, rfl, oL, HLb⟩
      have HB := below_then HB HLb
      try have hMrow := (HLb.block _ hMlt).trans hMrow
      try have hMlt := Nat.lt_of_lt_of_le hMlt HLb.size
      try have rM := rM.below HLb
      try have rG := rG.below HLb
      try have rS := rS.below HLb
      have rL := oL.rd
      clear oL
      refine hK.out _ _ (HB) ?_
      clear hK
      try simp only [Act.put, pst3]
      refine wpAnyH_seg (by kernel_rfl) (fun _ _ d _ _ h => by first | (cases d <;> exact h) | cases h.1) 5 (brw9 21 65535) [(13, false)] _ _ _ (by kernel_rfl) (HB) ?_
      refine seg_run rfl (fun K hK => ?_)
      rw [if_pos (by rfl)]
      refine op_lit #[.int .u8 (((UInt8.ofNat s).toNat : Nat) : Int)] 5 1 rfl (fun w => by go_simp) ?_
      intro gS wS eS hSrow HSb hSsz
      have HB := below_then HB HSb
      try have hMrow := (HSb.block _ hMlt).trans hMrow
      try have hMlt := Nat.lt_of_lt_of_le hMlt HSb.size
      try have rM := rM.below HSb
      try have rG := rG.below HSb
      try have rL := rL.below HSb
      have rS := rdAt hSrow [UInt8.ofNat s] 1 rfl rfl (by simp [maxLen])
      clear hSrow
      refine hK.out _ _ (HB) ?_
      clear hK
      try simp only [Act.put, pst3]
      refine seg_done (fun _ => ?_)
      exact TL _ _ _ _ _ _ _ _ _ ⟨rM, rG, rL, rS, HB⟩
     ·skip
      refine op_run rfl (fun K hK => ?_)
      rw [if_pos (by rfl)]
      refine op_lit #[.int .u8 (((UInt8.ofNat s).toNat : Nat) : Int)] 5 1 rfl (fun w => by go_simp) ?_
      intro gS wS eS hSrow HSb hSsz
      have HB := below_then HB HSb
      try have hMrow := (HSb.block _ hMlt).trans hMrow
      try have hMlt := Nat.lt_of_lt_of_le hMlt HSb.size
      try have rM := rM.below HSb
      try have rG := rG.below HSb
      try have rL := rL.below HSb
      have rS := rdAt hSrow [UInt8.ofNat s] 1 rfl rfl (by simp [maxLen])
      clear hSrow
      refine hK.out _ _ (HB) ?_
      clear hK
      try simp only [Act.put, pst3]
      refine wpAnyH_seg (by kernel_rfl) (fun _ _ d _ _ h => by first | (cases d <;> exact h) | cases h.1) 5 (brw9 21 65535) [(9, false)] _ _ _ (by kernel_rfl) (HB) ?_
      refine seg_run rfl (fun K hK => ?_)
      go_simp
      refine (le_any l 4 _ (by omega)).mono ?_
      rintro e wL ⟨AL, nL, cL, rfl, oL, HLb⟩
      have HB := below_then HB HLb
      try have hMrow := (HLb.block _ hMlt).trans hMrow
      try have hMlt := Nat.lt_of_lt_of_le hMlt HLb.size
      try have rM := rM.below HLb
      try have rG := rG.below HLb
      try have rS := rS.below HLb
      have rL := oL.rd
      clear oL
      refine hK.out _ _ (HB) ?_
      clear hK
      try simp only [Act.put, pst3]
      refine seg_done (fun _ => ?_)
      exact TL _ _ _ _ _ _ _ _ _ ⟨rM, rG, rL, rS, HB⟩
    ·skip
     refine op_run rfl (fun K hK => ?_)
     rw [if_pos (by rfl)]
     refine op_lit #[.int .u8 (((UInt8.ofNat s).toNat : Nat) : Int)] 5 1 rfl (fun w => by go_simp) ?_
     intro gS wS eS hSrow HSb hSsz
     have HB := below_then HB HSb
     try have hMrow := (HSb.block _ hMlt).trans hMrow
     try have hMlt := Nat.lt_of_lt_of_le hMlt HSb.size
     try have rM := rM.below HSb
     try have rG := rG.below HSb
     try have rL := rL.below HSb
     have rS := rdAt hSrow [UInt8.ofNat s] 1 rfl rfl (by simp [maxLen])
     clear hSrow
     refine hK.out _ _ (HB) ?_
     clear hK
     try simp only [Act.put, pst3]
     refine wpAnyH_seg (by kernel_rfl) (fun _ _ d _ _ h => by first | (cases d <;> exact h) | cases h.1) 5 (brw9 21 65535) [(5, false), (9, false)] _ _ _ (by kernel_rfl) (HB) ?_
     refine seg_run rfl (fun K hK => ?_)
     go_simp
     refine (le_any g 4 _ (by omega)).mono ?_
     rintro e wG ⟨AG, nG, cG, rfl, oG, HGb⟩
     have HB := below_then HB HGb
     try have hMrow := (HGb.block _ hMlt).trans hMrow
     try have hMlt := Nat.lt_of_lt_of_le hMlt HGb.size
     try have rM := rM.below HGb
     try have rS := rS.below HGb
     have rG := oG.rd
     clear oG
     refine hK.out _ _ (HB) ?_
     clear hK
     try simp only [Act.put, pst3]
     refine seg_run rfl (fun K hK => ?_)
     go_simp
     refine (le_any l 4 _ (by omega)).mono ?_
     rintro e wL ⟨AL, nL, cL, rfl, oL, HLb⟩
     have HB := below_then HB HLb
     try have hMrow := (HLb.block _ hMlt).trans hMrow
     try have hMlt := Nat.lt_of_lt_of_le hMlt HLb.size
     try have rM := rM.below HLb
     try have rG := rG.below HLb
     try have rS := rS.below HLb
     have rL := oL.rd
     clear oL
     refine hK.out _ _ (HB) ?_
     clear hK
     try simp only [Act.put, pst3]
     refine seg_done (fun _ => ?_)
     exact TL _ _ _ _ _ _ _ _ _ ⟨rM, rG, rL, rS, HB⟩
   ·skip
    refine op_run rfl (fun K hK => ?_)
    go_simp
    refine (le_any g 4 _ (by omega)).mono ?_
    rintro e wG ⟨AG, nG, cG, rfl, oG, HGb⟩
    have HB := below_then HB HGb
    try have hMrow := (HGb.block _ hMlt).trans hMrow
    try have hMlt := Nat.lt_of_lt_of_le hMlt HGb.size
    try have rM := rM.below HGb
    try have rS := rS.below HGb
    have rG := oG.rd
    clear oG
    refine hK.out _ _ (HB) ?_
    clear hK
    try simp only [Act.put, pst3]
    refine wpAnyH_seg (by kernel_rfl) (fun _ _ d _ _ h => by first | (cases d <;> exact h) | cases h.1) 8 (brw9 21 56829) [] _ _ _ (by kernel_rfl) (HB) ?_
    refine seg_done (fun _ => ?_)
    refine wpAnyH_three (i := 1) (j := 9) (k := 13) (f := 7) (by kernel_rfl) ?_ ?_ ?_
    ·skip
     refine op_run rfl (fun K hK => ?_)
     rw [if_pos (by rfl)]
     refine op_mark _ rfl gM 4 4 rfl _ _ hMrow HB hMW ?_
     intro wF HFs HB HFo
     try have rG := rG.same HFs
     try have rL := rL.same HFs
     try have rS := rS.same HFs
     have rM := (rdAt hMrow [80, 72, 83, 66] 4 rfl rfl (by simp [maxLen])).same HFs
     clear hMrow
     refine hK.out _ _ (HB) ?_
     clear hK
     try simp only [Act.put, pst3]
     refine wpAnyH_seg (by kernel_rfl) (fun _ _ d _ _ h => by first | (cases d <;> exact h) | cases h.1) 7 (brw9 21 56831) [] _ _ _ (by kernel_rfl) (HB) ?_
     refine seg_done (fun _ => ?_)
     refine wpAnyH_two (i := 9) (j := 13) (f := 6) (by kernel_rfl) ?_ ?_
     ·skip
      refine op_run rfl (fun K hK => ?_)
      go_simp
      refine (le_any l 4 _ (by omega)).mono ?_
      rintro e wL ⟨AL, nL, cL, rfl, oL, HLb⟩
      have HB := below_then HB HLb
      try have hMrow := (HLb.block _ hMlt).trans hMrow
      try have hMlt := Nat.lt_of_lt_of_le hMlt HLb.size
      try have rM := rM.below HLb
      try have rG := rG.below HLb
      try have rS := rS.below HLb
      have rL := oL.rd
      clear oL
      refine hK.out _ _ (HB) ?_
      clear hK
      try simp only [Act.put, pst3]
      refine wpAnyH_seg (by kernel_rfl) (fun _ _ d _ _ h => by first | (cases d <;> exact h) | cases h.1) 5 (brw9 21 65535) [(13, false)] _ _ _ (by kernel_rfl) (HB) ?_
      refine seg_run rfl (fun K hK => ?_)
      rw [if_pos (by rfl)]
      refine op_lit #[.int .u8 (((UInt8.ofNat s).toNat : Nat) : Int)] 5 1 rfl (fun w => by go_simp) ?_
      intro gS wS eS hSrow HSb hSsz
      have HB := below_then HB HSb
      try have hMrow := (HSb.block _ hMlt).trans hMrow
      try have hMlt := Nat.lt_of_lt_of_le hMlt HSb.size
      try have rM := rM.below HSb
      try have rG := rG.below HSb
      try have rL := rL.below HSb
      have rS := rdAt hSrow [UInt8.ofNat s] 1 rfl rfl (by simp [maxLen])
      clear hSrow
      refine hK.out _ _ (HB) ?_
      clear hK
      try simp only [Act.put, pst3]
      refine seg_done (fun _ => ?_)
      exact TL _ _ _ _ _ _ _ _ _ ⟨rM, rG, rL, rS, HB⟩
     ·skip
      refine op_run rfl (fun K hK => ?_)
      rw [if_pos (by rfl)]
      refine op_lit #[.int .u8 (((UInt8.ofNat s).toNat : Nat) : Int)] 5 1 rfl (fun w => by go_simp) ?_
      intro gS wS eS hSrow HSb hSsz
      have HB := below_then HB HSb
      try have hMrow := (HSb.block _ hMlt).trans hMrow
      try have hMlt := Nat.lt_of_lt_of_le hMlt HSb.size
      try have rM := rM.below HSb
      try have rG := rG.below HSb
      try have rL := rL.below HSb
      have rS := rdAt hSrow [UInt8.ofNat s] 1 rfl rfl (by simp [maxLen])
      clear hSrow
      refine hK.out _ _ (HB) ?_
      clear hK
      try simp only [Act.put, pst3]
      refine wpAnyH_seg (by kernel_rfl) (fun _ _ d _ _ h => by first | (cases d <;> exact h) | cases h.1) 5 (brw9 21 65535) [(9, false)] _ _ _ (by kernel_rfl) (HB) ?_
      refine seg_run rfl (fun K hK => ?_)
      go_simp
      refine (le_any l 4 _ (by omega)).mono ?_
      rintro e wL ⟨AL, nL, cL, rfl, oL, HLb⟩
      have HB := below_then HB HLb
      try have hMrow := (HLb.block _ hMlt).trans hMrow
      try have hMlt := Nat.lt_of_lt_of_le hMlt HLb.size
      try have rM := rM.below HLb
      try have rG := rG.below HLb
      try have rS := rS.below HLb
      have rL := oL.rd
      clear oL
      refine hK.out _ _ (HB) ?_
      clear hK
      try simp only [Act.put, pst3]
      refine seg_done (fun _ => ?_)
      exact TL _ _ _ _ _ _ _ _ _ ⟨rM, rG, rL, rS, HB⟩
    ·skip
     refine op_run rfl (fun K hK => ?_)
     go_simp
     refine (le_any l 4 _ (by omega)).mono ?_
     rintro e wL ⟨AL, nL, cL, rfl, oL, HLb⟩
     have HB := below_then HB HLb
     try have hMrow := (HLb.block _ hMlt).trans hMrow
     try have hMlt := Nat.lt_of_lt_of_le hMlt HLb.size
     try have rM := rM.below HLb
     try have rG := rG.below HLb
     try have rS := rS.below HLb
     have rL := oL.rd
     clear oL
     refine hK.out _ _ (HB) ?_
     clear hK
     try simp only [Act.put, pst3]
     refine wpAnyH_seg (by kernel_rfl) (fun _ _ d _ _ h => by first | (cases d <;> exact h) | cases h.1) 7 (brw9 21 57341) [] _ _ _ (by kernel_rfl) (HB) ?_
     refine seg_done (fun _ => ?_)
     refine wpAnyH_two (i := 1) (j := 13) (f := 6) (by kernel_rfl) ?_ ?_
     ·skip
      refine op_run rfl (fun K hK => ?_)
      rw [if_pos (by rfl)]
      refine op_mark _ rfl gM 4 4 rfl _ _ hMrow HB hMW ?_
      intro wF HFs HB HFo
      try have rG := rG.same HFs
      try have rL := rL.same HFs
      try have rS := rS.same HFs
      have rM := (rdAt hMrow [80, 72, 83, 66] 4 rfl rfl (by simp [maxLen])).same HFs
      clear hMrow
      refine hK.out _ _ (HB) ?_
      clear hK
      try simp only [Act.put, pst3]
      refine wpAnyH_seg (by kernel_rfl) (fun _ _ d _ _ h => by first | (cases d <;> exact h) | cases h.1) 5 (brw9 21 65535) [(13, false)] _ _ _ (by kernel_rfl) (HB) ?_
      refine seg_run rfl (fun K hK => ?_)
      rw [if_pos (by rfl)]
      refine op_lit #[.int .u8 (((UInt8.ofNat s).toNat : Nat) : Int)] 5 1 rfl (fun w => by go_simp) ?_
      intro gS wS eS hSrow HSb hSsz
      have HB := below_then HB HSb
      try have hMrow := (HSb.block _ hMlt).trans hMrow
      try have hMlt := Nat.lt_of_lt_of_le hMlt HSb.size
      try have rM := rM.below HSb
      try have rG := rG.below HSb
      try have rL := rL.below HSb
      have rS := rdAt hSrow [UInt8.ofNat s] 1 rfl rfl (by simp [maxLen])
      clear hSrow
      refine hK.out _ _ (HB) ?_
      clear hK
      try simp only [Act.put, pst3]
      refine seg_done (fun _ => ?_)
      exact TL _ _ _ _ _ _ _ _ _ ⟨rM, rG, rL, rS, HB⟩
     ·skip
      refine op_run rfl (fun K hK => ?_)
      rw [if_pos (by rfl)]
      refine op_lit #[.int .u8 (((UInt8.ofNat s).toNat : Nat) : Int)] 5 1 rfl (fun w => by go_simp) ?_
      intro gS wS eS hSrow HSb hSsz
      have HB := below_then HB HSb
      try have hMrow := (HSb.block _ hMlt).trans hMrow
      try have hMlt := Nat.lt_of_lt_of_le hMlt HSb.size
      try have rM := rM.below HSb
      try have rG := rG.below HSb
      try have rL := rL.below HSb
      have rS := rdAt hSrow [UInt8.ofNat s] 1 rfl rfl (by simp [maxLen])
      clear hSrow
      refine hK.out _ _ (HB) ?_
      clear hK
      try simp only [Act.put, pst3]
      refine wpAnyH_seg (by kernel_rfl) (fun _ _ d _ _ h => by first | (cases d <;> exact h) | cases h.1) 5 (brw9 21 65535) [(1, false)] _ _ _ (by kernel_rfl) (HB) ?_
      refine seg_run rfl (fun K hK => ?_)
      rw [if_pos (by rfl)]
      refine op_mark _ rfl gM 4 4 rfl _ _ hMrow HB hMW ?_
      intro wF HFs HB HFo
      try have rG := rG.same HFs
      try have rL := rL.same HFs
      try have rS := rS.same HFs
      have rM := (rdAt hMrow [80, 72, 83, 66] 4 rfl rfl (by simp [maxLen])).same HFs
      clear hMrow
      refine hK.out _ _ (HB) ?_
      clear hK
      try simp only [Act.put, pst3]
      refine seg_done (fun _ => ?_)
      exact TL _ _ _ _ _ _ _ _ _ ⟨rM, rG, rL, rS, HB⟩
    ·skip
     refine op_run rfl (fun K hK => ?_)
     rw [if_pos (by rfl)]
     refine op_lit #[.int .u8 (((UInt8.ofNat s).toNat : Nat) : Int)] 5 1 rfl (fun w => by go_simp) ?_
     intro gS wS eS hSrow HSb hSsz
     have HB := below_then HB HSb
     try have hMrow := (HSb.block _ hMlt).trans hMrow
     try have hMlt := Nat.lt_of_lt_of_le hMlt HSb.size
     try have rM := rM.below HSb
     try have rG := rG.below HSb
     try have rL := rL.below HSb
     have rS := rdAt hSrow [UInt8.ofNat s] 1 rfl rfl (by simp [maxLen])
     clear hSrow
     refine hK.out _ _ (HB) ?_
     clear hK
     try simp only [Act.put, pst3]
     refine wpAnyH_seg (by kernel_rfl) (fun _ _ d _ _ h => by first | (cases d <;> exact h) | cases h.1) 7 (brw9 21 65021) [] _ _ _ (by kernel_rfl) (HB) ?_
     refine seg_done (fun _ => ?_)
     refine wpAnyH_two (i := 1) (j := 9) (f := 6) (by kernel_rfl) ?_ ?_
     ·skip
      refine op_run rfl (fun K hK => ?_)
      rw [if_pos (by rfl)]
      refine op_mark _ rfl gM 4 4 rfl _ _ hMrow HB hMW ?_
      intro wF HFs HB HFo
      try have rG := rG.same HFs
      try have rL := rL.same HFs
      try have rS := rS.same HFs
      have rM := (rdAt hMrow [80, 72, 83, 66] 4 rfl rfl (by simp [maxLen])).same HFs
      clear hMrow
      refine hK.out _ _ (HB) ?_
      clear hK
      try simp only [Act.put, pst3]
      refine wpAnyH_seg (by kernel_rfl) (fun _ _ d _ _ h => by first | (cases d <;> exact h) | cases h.1) 5 (brw9 21 65535) [(9, false)] _ _ _ (by kernel_rfl) (HB) ?_
      refine seg_run rfl (fun K hK => ?_)
      go_simp
      refine (le_any l 4 _ (by omega)).mono ?_
      rintro e wL ⟨AL, nL, cL, rfl, oL, HLb⟩
      have HB := below_then HB HLb
      try have hMrow := (HLb.block _ hMlt).trans hMrow
      try have hMlt := Nat.lt_of_lt_of_le hMlt HLb.size
      try have rM := rM.below HLb
      try have rG := rG.below HLb
      try have rS := rS.below HLb
      have rL := oL.rd
      clear oL
      refine hK.out _ _ (HB) ?_
      clear hK
      try simp only [Act.put, pst3]
      refine seg_done (fun _ => ?_)
      exact TL _ _ _ _ _ _ _ _ _ ⟨rM, rG, rL, rS, HB⟩
     ·skip
      refine op_run rfl (fun K hK => ?_)
      go_simp
      refine (le_any l 4 _ (by omega)).mono ?_
      rintro e wL ⟨AL, nL, cL, rfl, oL, HLb⟩
      have HB := below_then HB HLb
      try have hMrow := (HLb.block _ hMlt).trans hMrow
      try have hMlt := Nat.lt_of_lt_of_le hMlt HLb.size
      try have rM := rM.below HLb
      try have rG := rG.below HLb
      try have rS := rS.below HLb
      have rL := oL.rd
      clear oL
      refine hK.out _ _ (HB) ?_
      clear hK
      try simp only [Act.put, pst3]
      refine wpAnyH_seg (by kernel_rfl) (fun _ _ d _ _ h => by first | (cases d <;> exact h) | cases h.1) 5 (brw9 21 65535) [(1, false)] _ _ _ (by kernel_rfl) (HB) ?_
      refine seg_run rfl (fun K hK => ?_)
      rw [if_pos (by rfl)]
      refine op_mark _ rfl gM 4 4 rfl _ _ hMrow HB hMW ?_
      intro wF HFs HB HFo
      try have rG := rG.same HFs
      try have rL := rL.same HFs
      try have rS := rS.same HFs
      have rM := (rdAt hMrow [80, 72, 83, 66] 4 rfl rfl (by simp [maxLen])).same HFs
      clear hMrow
      refine hK.out _ _ (HB) ?_
      clear hK
      try simp only [Act.put, pst3]
      refine seg_done (fun _ => ?_)
      exact TL _ _ _ _ _ _ _ _ _ ⟨rM, rG, rL, rS, HB⟩
   ·skip
    refine op_run rfl (fun K hK => ?_)
    rw [if_pos (by rfl)]
    refine op_lit #[.int .u8 (((UInt8.ofNat s).toNat : Nat) : Int)] 5 1 rfl (fun w => by go_simp) ?_
    intro gS wS eS hSrow HSb hSsz
    have HB := below_then HB HSb
    try have hMrow := (HSb.block _ hMlt).trans hMrow
    try have hMlt := Nat.lt_of_lt_of_le hMlt HSb.size
    try have rM := rM.below HSb
    try have rG := rG.below HSb
    try have rL := rL.below HSb
    have rS := rdAt hSrow [UInt8.ofNat s] 1 rfl rfl (by simp [maxLen])
    clear hSrow
    refine hK.out _ _ (HB) ?_
    clear hK
    try simp only [Act.put, pst3]
    refine wpAnyH_seg (by kernel_rfl) (fun _ _ d _ _ h => by first | (cases d <;> exact h) | cases h.1) 8 (brw9 21 64989) [] _ _ _ (by kernel_rfl) (HB) ?_
    refine seg_done (fun _ => ?_)
    refine wpAnyH_two (i := 1) (j := 5) (f := 7) (by kernel_rfl) ?_ ?_
    ·skip
     refine op_run rfl (fun K hK => ?_)
     rw [if_pos (by rfl)]
     refine op_mark _ rfl gM 4 4 rfl _ _ hMrow HB hMW ?_
     intro wF HFs HB HFo
     try have rG := rG.same HFs
     try have rL := rL.same HFs
     try have rS := rS.same HFs
     have rM := (rdAt hMrow [80, 72, 83, 66] 4 rfl rfl (by simp [maxLen])).same HFs
     clear hMrow
     refine hK.out _ _ (HB) ?_
     clear hK
     try simp only [Act.put, pst3]
     refine wpAnyH_seg (by kernel_rfl) (fun _ _ d _ _ h => by first | (cases d <;> exact h) | cases h.1) 5 (brw9 21 65535) [(5, false), (9, false)] _ _ _ (by kernel_rfl) (HB) ?_
     refine seg_run rfl (fun K hK => ?_)
     go_simp
     refine (le_any g 4 _ (by omega)).mono ?_
     rintro e wG ⟨AG, nG, cG, rfl, oG, HGb⟩
     have HB := below_then HB HGb
     try have hMrow := (HGb.block _ hMlt).trans hMrow
     try have hMlt := Nat.lt_of_lt_of_le hMlt HGb.size
     try have rM := rM.below HGb
     try have rS := rS.below HGb
     have rG := oG.rd
     clear oG
     refine hK.out _ _ (HB) ?_
     clear hK
     try simp only [Act.put, pst3]
     refine seg_run rfl (fun K hK => ?_)
     go_simp
     refine (le_any l 4 _ (by omega)).mono ?_
     rintro e wL ⟨AL, nL, cL, rfl, oL, HLb⟩
     have HB := below_then HB HLb
     try have hMrow := (HLb.block _ hMlt).trans hMrow
     try have hMlt := Nat.lt_of_lt_of_le hMlt HLb.size
     try have rM := rM.below HLb
     try have rG := rG.below HLb
     try have rS := rS.below HLb
     have rL := oL.rd
     clear oL
     refine hK.out _ _ (HB) ?_
     clear hK
     try simp only [Act.put, pst3]
     refine seg_done (fun _ => ?_)
     exact TL _ _ _ _ _ _ _ _ _ ⟨rM, rG, rL, rS, HB⟩
    ·skip
     refine op_run rfl (fun K hK => ?_)
     go_simp
     refine (le_any g 4 _ (by omega)).mono ?_
     rintro e wG ⟨AG, nG, cG, rfl, oG, HGb⟩
     have HB := below_then HB HGb
     try have hMrow := (HGb.block _ hMlt).trans hMrow
     try have hMlt := Nat.lt_of_lt_of_le hMlt HGb.size
     try have rM := rM.below HGb
     try have rS := rS.below HGb
     have rG := oG.rd
     clear oG
     refine hK.out _ _ (HB) ?_
     clear hK
     try simp only [Act.put, pst3]
     refine wpAnyH_seg (by kernel_rfl) (fun _ _ d _ _ h => by first | (cases d <;> exact h) | cases h.1) 7 (brw9 21 65021) [] _ _ _ (by kernel_rfl) (HB) ?_
     refine seg_done (fun _ => ?_)
     refine wpAnyH_two (i := 1) (j := 9) (f := 6) (by kernel_rfl) ?_ ?_
     ·skip
      refine op_run rfl (fun K hK => ?_)
      rw [if_pos (by rfl)]
      refine op_mark _ rfl gM 4 4 rfl _ _ hMrow HB hMW ?_
      intro wF HFs HB HFo
      try have rG := rG.same HFs
      try have rL := rL.same HFs
      try have rS := rS.same HFs
      have rM := (rdAt hMrow [80, 72, 83, 66] 4 rfl rfl (by simp [maxLen])).same HFs
      clear hMrow
      refine hK.out _ _ (HB) ?_
      clear hK
      try simp only [Act.put, pst3]
      refine wpAnyH_seg (by kernel_rfl) (fun _ _ d _ _ h => by first | (cases d <;> exact h) | cases h.1) 5 (brw9 21 65535) [(9, false)] _ _ _ (by kernel_rfl) (HB) ?_
      refine seg_run rfl (fun K hK => ?_)
      go_simp
      refine (le_any l 4 _ (by omega)).mono ?_
      rintro e wL ⟨AL, nL, cL, rfl, oL, HLb⟩
      have HB := below_then HB HLb
      try have hMrow := (HLb.block _ hMlt).trans hMrow
      try have hMlt := Nat.lt_of_lt_of_le hMlt HLb.size
      try have rM := rM.below HLb
      try have rG := rG.below HLb
      try have rS := rS.below HLb
      have rL := oL.rd
      clear oL
      refine hK.out _ _ (HB) ?_
      clear hK
      try simp only [Act.put, pst3]
      refine seg_done (fun _ => ?_)
      exact TL _ _ _ _ _ _ _ _ _ ⟨rM, rG, rL, rS, HB⟩
     ·skip
      refine op_run rfl (fun K hK => ?_)
      go_simp
      refine (le_any l 4 _ (by omega)).mono ?_
      rintro e wL ⟨AL, nL, cL, rfl, oL, HLb⟩
      have HB := below_then HB HLb
      try have hMrow := (HLb.block _ hMlt).trans hMrow
      try have hMlt := Nat.lt_of_lt_of_le hMlt HLb.size
      try have rM := rM.below HLb
      try have rG := rG.below HLb
      try have rS := rS.below HLb
      have rL := oL.rd
      clear oL
      refine hK.out _ _ (HB) ?_
      clear hK
      try simp only [Act.put, pst3]
      refine wpAnyH_seg (by kernel_rfl) (fun _ _ d _ _ h => by first | (cases d <;> exact h) | cases h.1) 5 (brw9 21 65535) [(1, false)] _ _ _ (by kernel_rfl) (HB) ?_
      refine seg_run rfl (fun K hK => ?_)
      rw [if_pos (by rfl)]
      refine op_mark _ rfl gM 4 4 rfl _ _ hMrow HB hMW ?_
      intro wF HFs HB HFo
      try have rG := rG.same HFs
      try have rL := rL.same HFs
      try have rS := rS.same HFs
      have rM := (rdAt hMrow [80, 72, 83, 66] 4 rfl rfl (by simp [maxLen])).same HFs
      clear hMrow
      refine hK.out _ _ (HB) ?_
      clear hK
      try simp only [Act.put, pst3]
      refine seg_done (fun _ => ?_)
      exact TL _ _ _ _ _ _ _ _ _ ⟨rM, rG, rL, rS, HB⟩
  ·skip
   refine op_run rfl (fun K hK => ?_)
   go_simp
   refine (le_any g 4 _ (by omega)).mono ?_
   rintro e wG ⟨AG, nG, cG, rfl, oG, HGb⟩
   have HB := below_then HB HGb
   try have hMrow := (HGb.block _ hMlt).trans hMrow
   try have hMlt := Nat.lt_of_lt_of_le hMlt HGb.size
   try have rM := rM.below HGb
   try have rS := rS.below HGb
   have rG := oG.rd
   clear oG
   refine hK.out _ _ (HB) ?_
   clear hK
   try simp only [Act.put, pst3]
   refine wpAnyH_seg (by kernel_rfl) (fun _ _ d _ _ h => by first | (cases d <;> exact h) | cases h.1) 9 (brw9 21 56828) [] _ _ _ (by kernel_rfl) (HB) ?_
   refine seg_done (fun _ => ?_)
   refine wpAnyH_three (i := 0) (j := 9) (k := 13) (f := 8) (by kernel_rfl) ?_ ?_ ?_
   ·skip
    refine op_run rfl (fun K hK => ?_)
    rw [if_pos (by rfl)]
    refine op_lit #[.int .u8 80, .int .u8 72, .int .u8 83, .int .u8 66] 5 4 rfl (fun w => by go_simp) ?_
    intro gM wM eM hMrow HMb hMsz
    have hMle0 := HB.size
    have HB := below_then HB HMb
    try have rG := rG.below HMb
    try have rL := rL.below HMb
    try have rS := rS.below HMb
    have hMW : W.heap.size ≤ gM := by rw [← eM]; exact Nat.le_trans hMle0 (Nat.le_refl _)
    have hMlt : gM < wM.heap.size := by rw [hMsz]; exact Nat.lt_succ_self _
    refine hK.out _ _ (HB) ?_
    clear hK
    try simp only [Act.put, pst3]
    refine wpAnyH_seg (by kernel_rfl) (fun _ _ d _ _ h => by first | (cases d <;> exact h) | cases h.1) 8 (brw9 21 56829) [] _ _ _ (by kernel_rfl) (HB) ?_
    refine seg_done (fun _ => ?_)
    refine wpAnyH_three (i := 1) (j := 9) (k := 13) (f := 7) (by kernel_rfl) ?_ ?_ ?_
    ·skip
     refine op_run rfl (fun K hK => ?_)
     rw [if_pos (by rfl)]
     refine op_mark _ rfl gM 4 4 rfl _ _ hMrow HB hMW ?_
     intro wF HFs HB HFo
     try have rG := rG.same HFs
     try have rL := rL.same HFs
     try have rS := rS.same HFs
     have rM := (rdAt hMrow [80, 72, 83, 66] 4 rfl rfl (by simp [maxLen])).same HFs
     clear hMrow
     refine hK.out _ _ (HB) ?_
     clear hK
     try simp only [Act.put, pst3]
     refine wpAnyH_seg (by kernel_rfl) (fun _ _ d _ _ h => by first | (cases d <;> exact h) | cases h.1) 7 (brw9 21 56831) [] _ _ _ (by kernel_rfl) (HB) ?_
     refine seg_done (fun _ => ?_)
     refine wpAnyH_two (i := 9) (j := 13) (f := 6) (by kernel_rfl) ?_ ?_
     ·skip
      refine op_run rfl (fun K hK => ?_)
      go_simp
      refine (le_any l 4 _ (by omega)).mono ?_
      rintro e wL ⟨AL, nL, cL, rfl, oL, HLb⟩
      have HB := below_then HB HLb
      try have hMrow := (HLb.block _ hMlt).trans hMrow
      try have hMlt := Nat.lt_of_lt_of_le hMlt HLb.size
      try have rM := rM.below HLb
      try have rG := rG.below HLb
      try have rS := rS.below HLb
      have rL := oL.rd
      clear oL
      refine hK.out _ _ (HB) ?_
      clear hK
      try simp only [Act.put, pst3]
      refine wpAnyH_seg (by kernel_rfl) (fun _ _ d _ _ h => by first | (cases d <;> exact h) | cases h.1) 5 (brw9 21 65535) [(13, false)] _ _ _ (by kernel_rfl) (HB) ?_
      refine seg_run rfl (fun K hK => ?_)
      rw [if_pos (by rfl)]
      refine op_lit #[.int .u8 (((UInt8.ofNat s).toNat : Nat) : Int)] 5 1 rfl (fun w => by go_simp) ?_
      intro gS wS eS hSrow HSb hSsz
      have HB := below_then HB HSb
      try have hMrow := (HSb.block _ hMlt).trans hMrow
      try have hMlt := Nat.lt_of_lt_of_le hMlt HSb.size
      try have rM := rM.below HSb
      try have rG := rG.below HSb
      try have rL := rL.below HSb
      have rS := rdAt hSrow [UInt8.ofNat s] 1 rfl rfl (by simp [maxLen])
      clear hSrow
      refine hK.out _ _ (HB) ?_
      clear hK
      try simp only [Act.put, pst3]
      refine seg_done (fun _ => ?_)
      exact TL _ _ _ _ _ _ _ _ _ ⟨rM, rG, rL, rS, HB⟩
     ·skip
      refine op_run rfl (fun K hK => ?_)
      rw [if_pos (by rfl)]
      refine op_lit #[.int .u8 (((UInt8.ofNat s).toNat : Nat) : Int)] 5 1 rfl (fun w => by go_simp) ?_
      intro gS wS eS hSrow HSb hSsz
      have HB := below_then HB HSb
      try have hMrow := (HSb.block _ hMlt).trans hMrow
      try have hMlt := Nat.lt_of_lt_of_le hMlt HSb.size
      try have rM := rM.below HSb
      try have rG := rG.below HSb
      try have rL := rL.below HSb
      have rS := rdAt hSrow [UInt8.ofNat s] 1 rfl rfl (by simp [maxLen])
      clear hSrow
      refine hK.out _ _ (HB) ?_
      clear hK
      try simp only [Act.put, pst3]
      refine wpAnyH_seg (by kernel_rfl) (fun _ _ d _ _ h => by first | (cases d <;> exact h) | cases h.1) 5 (brw9 21 65535) [(9, false)] _ _ _ (by kernel_rfl) (HB) ?_
      refine seg_run rfl (fun K hK => ?_)
      go_simp
      refine (le_any l 4 _ (by omega)).mono ?_
      rintro e wL ⟨AL, nL, cL, rfl, oL, HLb⟩
      have HB := below_then HB HLb
      try have hMrow := (HLb.block _ hMlt).trans hMrow
      try have hMlt := Nat.lt_of_lt_of_le hMlt HLb.size
      try have rM := rM.below HLb
      try have rG := rG.below HLb
      try have rS := rS.below HLb
      have rL := oL.rd
      clear oL
      refine hK.out _ _ (HB) ?_
      clear hK
      try simp only [Act.put, pst3]
      refine seg_done (fun _ => ?_)
      exact TL _ _ _ _ _ _ _ _ _ ⟨rM, rG, rL, rS, HB⟩
    ·skip
     refine op_run rfl (fun K hK => ?_)
     go_simp
     refine (le_any l 4 _ (by omega)).mono ?_
     rintro e wL ⟨AL, nL, cL, rfl, oL, HLb⟩
     have HB := below_then HB HLb
     try have hMrow := (HLb.block _ hMlt).trans hMrow
     try have hMlt := Nat.lt_of_lt_of_le hMlt HLb.size
     try have rM := rM.below HLb
     try have rG := rG.below HLb
     try have rS := rS.below HLb
     have rL := oL.rd
     clear oL
     refine hK.out _ _ (HB) ?_
     clear hK
     try simp only [Act.put, pst3]
     refine wpAnyH_seg (by kernel_rfl) (fun _ _ d _ _ h => by first | (cases d <;> exact h) | cases h.1) 7 (brw9 21 57341) [] _ _ _ (by kernel_rfl) (HB) ?_
     refine seg_done (fun _ => ?_)
     refine wpAnyH_two (i := 1) (j := 13) (f := 6) (by kernel_rfl) ?_ ?_
     ·skip
      refine op_run rfl (fun K hK => ?_)
      rw [if_pos (by rfl)]
      refine op_mark _ rfl gM 4 4 rfl _ _ hMrow HB hMW ?_
      intro wF HFs HB HFo
      try have rG := rG.same HFs
      try have rL := rL.same HFs
      try have rS := rS.same HFs
      have rM := (rdAt hMrow [80, 72, 83, 66] 4 rfl rfl (by simp [maxLen])).same HFs
      clear hMrow
      refine hK.out _ _ (HB) ?_
      clear hK
      try simp only [Act.put, pst3]
      refine wpAnyH_seg (by kernel_rfl) (fun _ _ d _ _ h => by first | (cases d <;> exact h) | cases h.1) 5 (brw9 21 65535) [(13, false)] _ _ _ (by kernel_rfl) (HB) ?_
      refine seg_run rfl (fun K hK => ?_)
      rw [if_pos (by rfl)]
      refine op_lit #[.int .u8 (((UInt8.ofNat s).toNat : Nat) : Int)] 5 1 rfl (fun w => by go_simp) ?_
      intro gS wS eS hSrow HSb hSsz
      have HB := below_then HB HSb
      try have hMrow := (HSb.block _ hMlt).trans hMrow
      try have hMlt := Nat.lt_of_lt_of_le hMlt HSb.size
      try have rM := rM.below HSb
      try have rG := rG.below HSb
      try have rL := rL.below HSb
      have rS := rdAt hSrow [UInt8.ofNat s] 1 rfl rfl (by simp [maxLen])
      clear hSrow
      refine hK.out _ _ (HB) ?_
      clear hK
      try simp only [Act.put, pst3]
      refine seg_done (fun _ => ?_)
      exact TL _ _ _ _ _ _ _ _ _ ⟨rM, rG, rL, rS, HB⟩
     ·skip
      refine op_run rfl (fun K hK => ?_)
      rw [if_pos (by rfl)]
      refine op_lit #[.int .u8 (((UInt8.ofNat s).toNat : Nat) : Int)] 5 1 rfl (fun w => by go_simp) ?_
      intro gS wS eS hSrow HSb hSsz
      have HB := below_then HB HSb
      try have hMrow := (HSb.block _ hMlt).trans hMrow
      try have hMlt := Nat.lt_of_lt_of_le hMlt HSb.size
      try have rM := rM.below HSb
      try have rG := rG.below HSb
      try have rL := rL.below HSb
      have rS := rdAt hSrow [UInt8.ofNat s] 1 rfl rfl (by simp [maxLen])
      clear hSrow
      refine hK.out _ _ (HB) ?_
      clear hK
      try simp only [Act.put, pst3]
      refine wpAnyH_seg (by kernel_rfl) (fun _ _ d _ _ h => by first | (cases d <;> exact h) | cases h.1) 5 (brw9 21 65535) [(1, false)] _ _ _ (by kernel_rfl) (HB) ?_
      refine seg_run rfl (fun K hK => ?_)
      rw [if_pos (by rfl)]
      refine op_mark _ rfl gM 4 4 rfl _ _ hMrow HB hMW ?_
      intro wF HFs HB HFo
      try have rG := rG.same HFs
      try have rL := rL.same HFs
      try have rS := rS.same HFs
      have rM := (rdAt hMrow [80, 72, 83, 66] 4 rfl rfl (by simp [maxLen])).same HFs
      clear hMrow
      refine hK.out _ _ (HB) ?_
      clear hK
      try simp only [Act.put, pst3]
      refine seg_done (fun _ => ?_)
      exact TL _ _ _ _ _ _ _ _ _ ⟨rM, rG, rL, rS, HB⟩
    ·skip
     refine op_run rfl (fun K hK => ?_)
     rw [if_pos (by rfl)]
     refine op_lit #[.int .u8 (((UInt8.ofNat s).toNat : Nat) : Int)] 5 1 rfl (fun w => by go_simp) ?_
     intro gS wS eS hSrow HSb hSsz
     have HB := below_then HB HSb
     try have hMrow := (HSb.block _ hMlt).trans hMrow
     try have hMlt := Nat.lt_of_lt_of_le hMlt HSb.size
     try have rM := rM.below HSb
     try have rG := rG.below HSb
     try have rL := rL.below HSb
     have rS := rdAt hSrow [UInt8.ofNat s] 1 rfl rfl (by simp [maxLen])
     clear hSrow
     refine hK.out _ _ (HB) ?_
     clear hK
     try simp only [Act.put, pst3]
     refine wpAnyH_seg (by kernel_rfl) (fun _ _ d _ _ h => by first | (cases d <;> exact h) | cases h.1) 7 (brw9 21 65021) [] _ _ _ (by kernel_rfl) (HB) ?_
     refine seg_done (fun _ => ?_)
     refine wpAnyH_two (i := 1) (j := 9) (f := 6) (by kernel_rfl) ?_ ?_
     ·skip
      refine op_run rfl (fun K hK => ?_)
      rw [if_pos (by rfl)]
      refine op_mark _ rfl gM 4 4 rfl _ _ hMrow HB hMW ?_
      intro wF HFs HB HFo
      try have rG := rG.same HFs
      try have rL := rL.same HFs
      try have rS := rS.same HFs
      have rM := (rdAt hMrow [80, 72, 83, 66] 4 rfl rfl (by simp [maxLen])).same HFs
      clear hMrow
      refine hK.out _ _ (HB) ?_
      clear hK
      try simp only [Act.put, pst3]
      refine wpAnyH_seg (by kernel_rfl) (fun _ _ d _ _ h => by first | (cases d <;> exact h) | cases h.1) 5 (brw9 21 65535) [(9, false)] _ _ _ (by kernel_rfl) (HB) ?_
      refine seg_run rfl (fun K hK => ?_)
      go_simp
      refine (le_any l 4 _ (by omega)).mono ?_
      rintro e wL ⟨AL, nL, cL, rfl, oL, HLb⟩
      have HB := below_then HB HLb
      try have hMrow := (HLb.block _ hMlt).trans hMrow
      try have hMlt := Nat.lt_of_lt_of_le hMlt HLb.size
      try have rM := rM.below HLb
      try have rG := rG.below HLb
      try have rS := rS.below HLb
      have rL := oL.rd
      clear oL
      refine hK.out _ _ (HB) ?_
      clear hK
      try simp only [Act.put, pst3]
      refine seg_done (fun _ => ?_)
      exact TL _ _ _ _ _ _ _ _ _ ⟨rM, rG, rL, rS, HB⟩
     ·skip
      refine op_run rfl (fun K hK => ?_)
      go_simp
      refine (le_any l 4 _ (by omega)).mono ?_
      rintro e wL ⟨AL, nL, cL, rfl, oL, HLb⟩
      have HB := below_then HB HLb
      try have hMrow := (HLb.block _ hMlt).trans hMrow
      try have hMlt := Nat.lt_of_lt_of_le hMlt HLb.size
      try have rM := rM.below HLb
      try have rG := rG.below HLb
      try have rS := rS.below HLb
      have rL := oL.rd
      clear oL
      refine hK.out _ _ (HB) ?_
      clear hK
      try simp only [Act.put, pst3]
      refine wpAnyH_seg (by kernel_rfl) (fun _ _ d _ _ h => by first | (cases d <;> exact h) | cases h.1) 5 (brw9 21 65535) [(1, false)] _ _ _ (by kernel_rfl) (HB) ?_
      refine seg_run rfl (fun K hK => ?_)
      rw [if_pos (by rfl)]
      refine op_mark _ rfl gM 4 4 rfl _ _ hMrow HB hMW ?_
      intro wF HFs HB HFo
      try have rG := rG.same HFs
      try have rL := rL.same HFs
      try have rS := rS.same HFs
      have rM := (rdAt hMrow [80, 72, 83, 66] 4 rfl rfl (by simp [maxLen])).same HFs
      clear hMrow
      refine hK.out _ _ (HB) ?_
      clear hK
      try simp only [Act.put, pst3]
      refine seg_done (fun _ => ?_)
      exact TL _ _ _ _ _ _ _ _ _ ⟨rM, rG, rL, rS, HB⟩
   ·skip
    refine op_run rfl (fun K hK => ?_)
    go_simp
    refine (le_any l 4 _ (by omega)).mono ?_
    rintro e wL ⟨AL, nL, cL, rfl, oL, HLb⟩
    have HB := below_then HB HLb
    try have hMrow := (HLb.block _ hMlt).trans hMrow
    try have hMlt := Nat.lt_of_lt_of_le hMlt HLb.size
    try have rM := rM.below HLb
    try have rG := rG.below HLb
    try have rS := rS.below HLb
    have rL := oL.rd
    clear oL
    refine hK.out _ _ (HB) ?_
    clear hK
    try simp only [Act.put, pst3]
    refine wpAnyH_seg (by kernel_rfl) (fun _ _ d _ _ h => by first | (cases d <;> exact h) | cases h.1) 8 (brw9 21 57340) [] _ _ _ (by kernel_rfl) (HB) ?_
    refine seg_done (fun _ => ?_)
    refine wpAnyH_two (i := 0) (j := 13) (f := 7) (by kernel_rfl) ?_ ?_
    ·skip
     refine op_run rfl (fun K hK => ?_)
     rw [if_pos (by rfl)]
     refine op_lit #[.int .u8 80, .int .u8 72, .int .u8 83, .int .u8 66] 5 4 rfl (fun w => by go_simp) ?_
     intro gM wM eM hMrow HMb hMsz
     have hMle0 := HB.size
     have HB := below_then HB HMb
     try have rG := rG.below HMb
     try have rL := rL.below HMb
     try have rS := rS.below HMb
     have hMW : W.heap.size ≤ gM := by rw [← eM]; exact Nat.le_trans hMle0 (Nat.le_refl _)
     have hMlt : gM < wM.heap.size := by rw [hMsz]; exact Nat.lt_succ_self _
     refine hK.out _ _ (HB) ?_
     clear hK
     try simp only [Act.put, pst3]
     refine wpAnyH_seg (by kernel_rfl) (fun _ _ d _ _ h => by first | (cases d <;> exact h) | cases h.1) 7 (brw9 21 57341) [] _ _ _ (by kernel_rfl) (HB) ?_
     refine seg_done (fun _ => ?_)
     refine wpAnyH_two (i := 1) (j := 13) (f := 6) (by kernel_rfl) ?_ ?_
     ·skip
      refine op_run rfl (fun K hK => ?_)
      rw [if_pos (by rfl)]
      refine op_mark _ rfl gM 4 4 rfl _ _ hMrow HB hMW ?_
      intro wF HFs HB HFo
      try have rG := rG.same HFs
      try have rL := rL.same HFs
      try have rS := rS.same HFs
      have rM := (rdAt hMrow [80, 72, 83, 66] 4 rfl rfl (by simp [maxLen])).same HFs
      clear hMrow
      refine hK.out _ _ (HB) ?_
      clear hK
      try simp only [Act.put, pst3]
      refine wpAnyH_seg (by kernel_rfl) (fun _ _ d _ _ h => by first | (cases d <;> exact h) | cases h.1) 5 (brw9 21 65535) [(13, false)] _ _ _ (by kernel_rfl) (HB) ?_
      refine seg_run rfl (fun K hK => ?_)
      rw [if_pos (by rfl)]
      refine op_lit #[.int .u8 (((UInt8.ofNat s).toNat : Nat) : Int)] 5 1 rfl (fun w => by go_simp) ?_
      intro gS wS eS hSrow HSb hSsz
      have HB := below_then HB HSb
      try have hMrow := (HSb.block _ hMlt).trans hMrow
      try have hMlt := Nat.lt_of_lt_of_le hMlt HSb.size
      try have rM := rM.below HSb
      try have rG := rG.below HSb
      try have rL := rL.below HSb
      have rS := rdAt hSrow [UInt8.ofNat s] 1 rfl rfl (by simp [maxLen])
      clear hSrow
      refine hK.out _ _ (HB) ?_
      clear hK
      try simp only [Act.put, pst3]
      refine seg_done (fun _ => ?_)
      exact TL _ _ _ _ _ _ _ _ _ ⟨rM, rG, rL, rS, HB⟩
     ·skip
      refine op_run rfl (fun K hK => ?_)
      rw [if_pos (by rfl)]
      refine op_lit #[.int .u8 (((UInt8.ofNat s).toNat : Nat) : Int)] 5 1 rfl (fun w => by go_simp) ?_
      intro gS wS eS hSrow HSb hSsz
      have HB := below_then HB HSb
      try have hMrow := (HSb.block _ hMlt).trans hMrow
      try have hMlt := Nat.lt_of_lt_of_le hMlt HSb.size
      try have rM := rM.below HSb
      try have rG := rG.below HSb
      try have rL := rL.below HSb
      have rS := rdAt hSrow [UInt8.ofNat s] 1 rfl rfl (by simp [maxLen])
      clear hSrow
      refine hK.out _ _ (HB) ?_
      clear hK
      try simp only [Act.put, pst3]
      refine wpAnyH_seg (by kernel_rfl) (fun _ _ d _ _ h => by first | (cases d <;> exact h) | cases h.1) 5 (brw9 21 65535) [(1, false)] _ _ _ (by kernel_rfl) (HB) ?_
      refine seg_run rfl (fun K hK => ?_)
      rw [if_pos (by rfl)]
      refine op_mark _ rfl gM 4 4 rfl _ _ hMrow HB hMW ?_
      intro wF HFs HB HFo
      try have rG := rG.same HFs
      try have rL := rL.same HFs
      try have rS := rS.same HFs
      have rM := (rdAt hMrow [80, 72, 83, 66] 4 rfl rfl (by simp [maxLen])).same HFs
      clear hMrow
      refine hK.out _ _ (HB) ?_
      clear hK
      try simp only [Act.put, pst3]
      refine seg_done (fun _ => ?_)
      exact TL _ _ _ _ _ _ _ _ _ ⟨rM, rG, rL, rS, HB⟩
    ·skip
     refine op_run rfl (fun K hK => ?_)
     rw [if_pos (by rfl)]
     refine op_lit #[.int .u8 (((UInt8.ofNat s).toNat : Nat) : Int)] 5 1 rfl (fun w => by go_simp) ?_
     intro gS wS eS hSrow HSb hSsz
     have HB := below_then HB HSb
     try have hMrow := (HSb.block _ hMlt).trans hMrow
     try have hMlt := Nat.lt_of_lt_of_le hMlt HSb.size
     try have rM := rM.below HSb
     try have rG := rG.below HSb
     try have rL := rL.below HSb
     have rS := rdAt hSrow [UInt8.ofNat s] 1 rfl rfl (by simp [maxLen])
     clear hSrow
     refine hK.out _ _ (HB) ?_
     clear hK
     try simp only [Act.put, pst3]
     refine wpAnyH_seg (by kernel_rfl) (fun _ _ d _ _ h => by first | (cases d <;> exact h) | cases h.1) 5 (brw9 21 65535) [(0, false), (1, false)] _ _ _ (by kernel_rfl) (HB) ?_
     refine seg_run rfl (fun K hK => ?_)
     rw [if_pos (by rfl)]
     refine op_lit #[.int .u8 80, .int .u8 72, .int .u8 83, .int .u8 66] 5 4 rfl (fun w => by go_simp) ?_
     intro gM wM eM hMrow HMb hMsz
     have hMle0 := HB.size
     have HB := below_then HB HMb
     try have rG := rG.below HMb
     try have rL := rL.below HMb
     try have rS := rS.below HMb
     have hMW : W.heap.size ≤ gM := by rw [← eM]; exact Nat.le_trans hMle0 (Nat.le_refl _)
     have hMlt : gM < wM.heap.size := by rw [hMsz]; exact Nat.lt_succ_self _
     refine hK.out _ _ (HB) ?_
     clear hK
     try simp only [Act.put, pst3]
     refine seg_run rfl (fun K hK => ?_)
     rw [if_pos (by rfl)]
     refine op_mark _ rfl gM 4 4 rfl _ _ hMrow HB hMW ?_
     intro wF HFs HB HFo
     try have rG := rG.same HFs
     try have rL := rL.same HFs
     try have rS := rS.same HFs
     have rM := (rdAt hMrow [80, 72, 83, 66] 4 rfl rfl (by simp [maxLen])).same HFs
     clear hMrow
     refine hK.out _ _ (HB) ?_
     clear hK
     try simp only [Act.put, pst3]
     refine seg_done (fun _ => ?_)
     exact TL _ _ _ _ _ _ _ _ _ ⟨rM, rG, rL, rS, HB⟩
   ·skip
    refine op_run rfl (fun K hK => ?_)
    rw [if_pos (by rfl)]
    refine op_lit #[.int .u8 (((UInt8.ofNat s).toNat : Nat) : Int)] 5 1 rfl (fun w => by go_simp) ?_
    intro gS wS eS hSrow HSb hSsz
    have HB := below_then HB HSb
    try have hMrow := (HSb.block _ hMlt).trans hMrow
    try have hMlt := Nat.lt_of_lt_of_le hMlt HSb.size
    try have rM := rM.below HSb
    try have rG := rG.below HSb
    try have rL := rL.below HSb
    have rS := rdAt hSrow [UInt8.ofNat s] 1 rfl rfl (by simp [maxLen])
    clear hSrow
    refine hK.out _ _ (HB) ?_
    clear hK
    try simp only [Act.put, pst3]
    refine wpAnyH_seg (by kernel_rfl) (fun _ _ d _ _ h => by first | (cases d <;> exact h) | cases h.1) 8 (brw9 21 65020) [] _ _ _ (by kernel_rfl) (HB) ?_
    refine seg_done (fun _ => ?_)
    refine wpAnyH_two (i := 0) (j := 9) (f := 7) (by kernel_rfl) ?_ ?_
    ·skip
     refine op_run rfl (fun K hK => ?_)
     rw [if_pos (by rfl)]
     refine op_lit #[.int .u8 80, .int .u8 72, .int .u8 83, .int .u8 66] 5 4 rfl (fun w => by go_simp) ?_
     intro gM wM eM hMrow HMb hMsz
     have hMle0 := HB.size
     have HB := below_then HB HMb
     try have rG := rG.below HMb
     try have rL := rL.below HMb
     try have rS := rS.below HMb
     have hMW : W.heap.size ≤ gM := by rw [← eM]; exact Nat.le_trans hMle0 (Nat.le_refl _)
     have hMlt : gM < wM.heap.size := by rw [hMsz]; exact Nat.lt_succ_self _
     refine hK.out _ _ (HB) ?_
     clear hK
     try simp only [Act.put, pst3]
     refine wpAnyH_seg (by kernel_rfl) (fun _ _ d _ _ h => by first | (cases d <;> exact h) | cases h.1) 7 (brw9 21 65021) [] _ _ _ (by kernel_rfl) (HB) ?_
     refine seg_done (fun _ => ?_)
     refine wpAnyH_two (i := 1) (j := 9) (f := 6) (by kernel_rfl) ?_ ?_
     ·skip
      refine op_run rfl (fun K hK => ?_)
      rw [if_pos (by rfl)]
      refine op_mark _ rfl gM 4 4 rfl _ _ hMrow HB hMW ?_
      intro wF HFs HB HFo
      try have rG := rG.same HFs
      try have rL := rL.same HFs
      try have rS := rS.same HFs
      have rM := (rdAt hMrow [80, 72, 83, 66] 4 rfl rfl (by simp [maxLen])).same HFs
      clear hMrow
      refine hK.out _ _ (HB) ?_
      clear hK
      try simp only [Act.put, pst3]
      refine wpAnyH_seg (by kernel_rfl) (fun _ _ d _ _ h => by first | (cases d <;> exact h) | cases h.1) 5 (brw9 21 65535) [(9, false)] _ _ _ (by kernel_rfl) (HB) ?_
      refine seg_run rfl (fun K hK => ?_)
      go_simp
      refine (le_any l 4 _ (by omega)).mono ?_
      rintro e wL ⟨AL, nL, cL, rfl, oL, HLb⟩
      have HB := below_then HB HLb
      try have hMrow := (HLb.block _ hMlt).trans hMrow
      try have hMlt := Nat.lt_of_lt_of_le hMlt HLb.size
      try have rM := rM.below HLb
      try have rG := rG.below HLb
      try have rS := rS.below HLb
      have rL := oL.rd
      clear oL
      refine hK.out _ _ (HB) ?_
      clear hK
      try simp only [Act.put, pst3]
      refine seg_done (fun _ => ?_)
      exact TL _ _ _ _ _ _ _ _ _ ⟨rM, rG, rL, rS, HB⟩
     ·skip
      refine op_run rfl (fun K hK => ?_)
      go_simp
      refine (le_any l 4 _ (by omega)).mono ?_
      rintro e wL ⟨AL, nL, cL, rfl, oL, HLb⟩
      have HB := below_then HB HLb
      try have hMrow := (HLb.block _ hMlt).trans hMrow
      try have hMlt := Nat.lt_of_lt_of_le hMlt HLb.size
      try have rM := rM.below HLb
      try have rG := rG.below HLb
      try have rS := rS.below HLb
      have rL := oL.rd
      clear oL
      refine hK.out _ _ (HB) ?_
      clear hK
      try simp only [Act.put, pst3]
      refine wpAnyH_seg (by kernel_rfl) (fun _ _ d _ _ h => by first | (cases d <;> exact h) | cases h.1) 5 (brw9 21 65535) [(1, false)] _ _ _ (by kernel_rfl) (HB) ?_
      refine seg_run rfl (fun K hK => ?_)
      rw [if_pos (by rfl)]
      refine op_mark _ rfl gM 4 4 rfl _ _ hMrow HB hMW ?_
      intro wF HFs HB HFo
      try have rG := rG.same HFs
      try have rL := rL.same HFs
      try have rS := rS.same HFs
      have rM := (rdAt hMrow [80, 72, 83, 66] 4 rfl rfl (by simp [maxLen])).same HFs
      clear hMrow
      refine hK.out _ _ (HB) ?_
      clear hK
      try simp only [Act.put, pst3]
      refine seg_done (fun _ => ?_)
      exact TL _ _ _ _ _ _ _ _ _ ⟨rM, rG, rL, rS, HB⟩
    ·skip
     refine op_run rfl (fun K hK => ?_)
     go_simp
     refine (le_any l 4 _ (by omega)).mono ?_
     rintro e wL ⟨AL, nL, cL, rfl, oL, HLb⟩
     have HB := below_then HB HLb
     try have hMrow := (HLb.block _ hMlt).trans hMrow
     try have hMlt := Nat.lt_of_lt_of_le hMlt HLb.size
     try have rM := rM.below HLb
     try have rG := rG.below HLb
     try have rS := rS.below HLb
     have rL := oL.rd
     clear oL
     refine hK.out _ _ (HB) ?_
     clear hK
     try simp only [Act.put, pst3]
     refine wpAnyH_seg (by kernel_rfl) (fun _ _ d _ _ h => by first | (cases d <;> exact h) | cases h.1) 5 (brw9 21 65535) [(0, false), (1, false)] _ _ _ (by kernel_rfl) (HB) ?_
     refine seg_run rfl (fun K hK => ?_)
     rw [if_pos (by rfl)]
     refine op_lit #[.int .u8 80, .int .u8 72, .int .u8 83, .int .u8 66] 5 4 rfl (fun w => by go_simp) ?_
     intro gM wM eM hMrow HMb hMsz
     have hMle0 := HB.size
     have HB := below_then HB HMb
     try have rG := rG.below HMb
     try have rL := rL.below HMb
     try have rS := rS.below HMb
     have hMW : W.heap.size ≤ gM := by rw [← eM]; exact Nat.le_trans hMle0 (Nat.le_refl _)
     have hMlt : gM < wM.heap.size := by rw [hMsz]; exact Nat.lt_succ_self _
     refine hK.out _ _ (HB) ?_
     clear hK
     try simp only [Act.put, pst3]
     refine seg_run rfl (fun K hK => ?_)
     rw [if_pos (by rfl)]
     refine op_mark _ rfl gM 4 4 rfl _ _ hMrow HB hMW ?_
     intro wF HFs HB HFo
     try have rG := rG.same HFs
     try have rL := rL.same HFs
     try have rS := rS.same HFs
     have rM := (rdAt hMrow [80, 72, 83, 66] 4 rfl rfl (by simp [maxLen])).same HFs
     clear hMrow
     refine hK.out _ _ (HB) ?_
     clear hK
     try simp only [Act.put, pst3]
     refine seg_done (fun _ => ?_)
     exact TL _ _ _ _ _ _ _ _ _ ⟨rM, rG, rL, rS, HB⟩
  ·skip
   refine op_run rfl (fun K hK => ?_)
   rw [if_pos (by rfl)]
   refine op_lit #[.int .u8 (((UInt8.ofNat s).toNat : Nat) : Int)] 5 1 rfl (fun w => by go_simp) ?_
   intro gS wS eS hSrow HSb hSsz
   have HB := below_then HB HSb
   try have hMrow := (HSb.block _ hMlt).trans hMrow
   try have hMlt := Nat.lt_of_lt_of_le hMlt HSb.size
   try have rM := rM.below HSb
   try have rG := rG.below HSb
   try have rL := rL.below HSb
   have rS := rdAt hSrow [UInt8.ofNat s] 1 rfl rfl (by simp [maxLen])
   clear hSrow
   refine hK.out _ _ (HB) ?_
   clear hK
   try simp only [Act.put, pst3]
   refine wpAnyH_seg (by kernel_rfl) (fun _ _ d _ _ h => by first | (cases d <;> exact h) | cases h.1) 9 (brw9 21 64988) [] _ _ _ (by kernel_rfl) (HB) ?_
   refine seg_done (fun _ => ?_)
   refine wpAnyH_two (i := 0) (j := 5) (f := 8) (by kernel_rfl) ?_ ?_
   ·skip
    refine op_run rfl (fun K hK => ?_)
    rw [if_pos (by rfl)]
    refine op_lit #[.int .u8 80, .int .u8 72, .int .u8 83, .int .u8 66] 5 4 rfl (fun w => by go_simp) ?_
    intro gM wM eM hMrow HMb hMsz
    have hMle0 := HB.size
    have HB := below_then HB HMb
    try have rG := rG.below HMb
    try have rL := rL.below HMb
    try have rS := rS.below HMb
    have hMW : W.heap.size ≤ gM := by rw [← eM]; exact Nat.le_trans hMle0 (Nat.le_refl _)
    have hMlt : gM < wM.heap.size := by rw [hMsz]; exact Nat.lt_succ_self _
    refine hK.out _ _ (HB) ?_
    clear hK
    try simp only [Act.put, pst3]
    refine wpAnyH_seg (by kernel_rfl) (fun _ _ d _ _ h => by first | (cases d <;> exact h) | cases h.1) 8 (brw9 21 64989) [] _ _ _ (by kernel_rfl) (HB) ?_
    refine seg_done (fun _ => ?_)
    refine wpAnyH_two (i := 1) (j := 5) (f := 7) (by kernel_rfl) ?_ ?_
    ·skip
     refine op_run rfl (fun K hK => ?_)
     rw [if_pos (by rfl)]
     refine op_mark _ rfl gM 4 4 rfl _ _ hMrow HB hMW ?_
     intro wF HFs HB HFo
     try have rG := rG.same HFs
     try have rL := rL.same HFs
     try have rS := rS.same HFs
     have rM := (rdAt hMrow [80, 72, 83, 66] 4 rfl rfl (by simp [maxLen])).same HFs
     clear hMrow
     refine hK.out _ _ (HB) ?_
     clear hK
     try simp only [Act.put, pst3]
     refine wpAnyH_seg (by kernel_rfl) (fun _ _ d _ _ h => by first | (cases d <;> exact h) | cases h.1) 5 (brw9 21 65535) [(5, false), (9, false)] _ _ _ (by kernel_rfl) (HB) ?_
     refine seg_run rfl (fun K hK => ?_)
     go_simp
     refine (le_any g 4 _ (by omega)).mono ?_
     rintro e wG ⟨AG, nG, cG, rfl, oG, HGb⟩
     have HB := below_then HB HGb
     try have hMrow := (HGb.block _ hMlt).trans hMrow
     try have hMlt := Nat.lt_of_lt_of_le hMlt HGb.size
     try have rM := rM.below HGb
     try have rS := rS.below HGb
     have rG := oG.rd
     clear oG
     refine hK.out _ _ (HB) ?_
     clear hK
     try simp only [Act.put, pst3]
     refine seg_run rfl (fun K hK => ?_)
     go_simp
     refine (le_any l 4 _ (by omega)).mono ?_
     rintro e wL ⟨AL, nL, cL, rfl, oL, HLb⟩
     have HB := below_then HB HLb
     try have hMrow := (HLb.block _ hMlt).trans hMrow
     try have hMlt := Nat.lt_of_lt_of_le hMlt HLb.size
     try have rM := rM.below HLb
     try have rG := rG.below HLb
     try have rS := rS.below HLb
     have rL := oL.rd
     clear oL
     refine hK.out _ _ (HB) ?_
     clear hK
     try simp only [Act.put, pst3]
     refine seg_done (fun _ => ?_)
     exact TL _ _ _ _ _ _ _ _ _ ⟨rM, rG, rL, rS, HB⟩
    ·skip
     refine op_run rfl (fun K hK => ?_)
     go_simp
     refine (le_any g 4 _ (by omega)).mono ?_
     rintro e wG ⟨AG, nG, cG, rfl, oG, HGb⟩
     have HB := below_then HB HGb
     try have hMrow := (HGb.block _ hMlt).trans hMrow
     try have hMlt := Nat.lt_of_lt_of_le hMlt HGb.size
     try have rM := rM.below HGb
     try have rS := rS.below HGb
     have rG := oG.rd
     clear oG
     refine hK.out _ _ (HB) ?_
     clear hK
     try simp only [Act.put, pst3]
     refine wpAnyH_seg (by kernel_rfl) (fun _ _ d _ _ h => by first | (cases d <;> exact h) | cases h.1) 7 (brw9 21 65021) [] _ _ _ (by kernel_rfl) (HB) ?_
     refine seg_done (fun _ => ?_)
     refine wpAnyH_two (i := 1) (j := 9) (f := 6) (by kernel_rfl) ?_ ?_
     ·skip
      refine op_run rfl (fun K hK => ?_)
      rw [if_pos (by rfl)]
      refine op_mark _ rfl gM 4 4 rfl _ _ hMrow HB hMW ?_
      intro wF HFs HB HFo
      try have rG := rG.same HFs
      try have rL := rL.same HFs
      try have rS := rS.same HFs
      have rM := (rdAt hMrow [80, 72, 83, 66] 4 rfl rfl (by simp [maxLen])).same HFs
      clear hMrow
      refine hK.out _ _ (HB) ?_
      clear hK
      try simp only [Act.put, pst3]
      refine wpAnyH_seg (by kernel_rfl) (fun _ _ d _ _ h => by first | (cases d <;> exact h) | cases h.1) 5 (brw9 21 65535) [(9, false)] _ _ _ (by kernel_rfl) (HB) ?_
      refine seg_run rfl (fun K hK => ?_)
      go_simp
      refine (le_any l 4 _ (by omega)).mono ?_
      rintro e wL ⟨AL, nL, cL, rfl, oL, HLb⟩
      have HB := below_then HB HLb
      try have hMrow := (HLb.block _ hMlt).trans hMrow
      try have hMlt := Nat.lt_of_lt_of_le hMlt HLb.size
      try have rM := rM.below HLb
      try have rG := rG.below HLb
      try have rS := rS.below HLb
      have rL := oL.rd
      clear oL
      refine hK.out _ _ (HB) ?_
      clear hK
      try simp only [Act.put, pst3]
      refine seg_done (fun _ => ?_)
      exact TL _ _ _ _ _ _ _ _ _ ⟨rM, rG, rL, rS, HB⟩
     ·skip
      refine op_run rfl (fun K hK => ?_)
      go_simp
      refine (le_any l 4 _ (by omega)).mono ?_
      rintro e wL ⟨AL, nL, cL, rfl, oL, HLb⟩
      have HB := below_then HB HLb
      try have hMrow := (HLb.block _ hMlt).trans hMrow
      try have hMlt := Nat.lt_of_lt_of_le hMlt HLb.size
      try have rM := rM.below HLb
      try have rG := rG.below HLb
      try have rS := rS.below HLb
      have rL := oL.rd
      clear oL
      refine hK.out _ _ (HB) ?_
      clear hK
      try simp only [Act.put, pst3]
      refine wpAnyH_seg (by kernel_rfl) (fun _ _ d _ _ h => by first | (cases d <;> exact h) | cases h.1) 5 (brw9 21 65535) [(1, false)] _ _ _ (by kernel_rfl) (HB) ?_
      refine seg_run rfl (fun K hK => ?_)
      rw [if_pos (by rfl)]
      refine op_mark _ rfl gM 4 4 rfl _ _ hMrow HB hMW ?_
      intro wF HFs HB HFo
      try have rG := rG.same HFs
      try have rL := rL.same HFs
      try have rS := rS.same HFs
      have rM := (rdAt hMrow [80, 72, 83, 66] 4 rfl rfl (by simp [maxLen])).same HFs
      clear hMrow
      refine hK.out _ _ (HB) ?_
      clear hK
      try simp only [Act.put, pst3]
      refine seg_done (fun _ => ?_)
      exact TL _ _ _ _ _ _ _ _ _ ⟨rM, rG, rL, rS, HB⟩
   ·skip
    refine op_run rfl (fun K hK => ?_)
    go_simp
    refine (le_any g 4 _ (by omega)).mono ?_
    rintro e wG ⟨AG, nG, cG, rfl, oG, HGb⟩
    have HB := below_then HB HGb
    try have hMrow := (HGb.block _ hMlt).trans hMrow
    try have hMlt := Nat.lt_of_lt_of_le hMlt HGb.size
    try have rM := rM.below HGb
    try have rS := rS.below HGb
    have rG := oG.rd
    clear oG
    refine hK.out _ _ (HB) ?_
    clear hK
    try simp only [Act.put, pst3]
    refine wpAnyH_seg (by kernel_rfl) (fun _ _ d _ _ h => by first | (cases d <;> exact h) | cases h.1) 8 (brw9 21 65020) [] _ _ _ (by kernel_rfl) (HB) ?_
    refine seg_done (fun _ => ?_)
    refine wpAnyH_two (i := 0) (j := 9) (f := 7) (by kernel_rfl) ?_ ?_
    ·skip
     refine op_run rfl (fun K hK => ?_)
     rw [if_pos (by rfl)]
     refine op_lit #[.int .u8 80, .int .u8 72, .int .u8 83, .int .u8 66] 5 4 rfl (fun w => by go_simp) ?_
     intro gM wM eM hMrow HMb hMsz
     have hMle0 := HB.size
     have HB := below_then HB HMb
     try have rG := rG.below HMb
     try have rL := rL.below HMb
     try have rS := rS.below HMb
     have hMW : W.heap.size ≤ gM := by rw [← eM]; exact Nat.le_trans hMle0 (Nat.le_refl _)
     have hMlt : gM < wM.heap.size := by rw [hMsz]; exact Nat.lt_succ_self _
     refine hK.out _ _ (HB) ?_
     clear hK
     try simp only [Act.put, pst3]
     refine wpAnyH_seg (by kernel_rfl) (fun _ _ d _ _ h => by first | (cases d <;> exact h) | cases h.1) 7 (brw9 21 65021) [] _ _ _ (by kernel_rfl) (HB) ?_
     refine seg_done (fun _ => ?_)
     refine wpAnyH_two (i := 1) (j := 9) (f := 6) (by kernel_rfl) ?_ ?_
     ·skip
      refine op_run rfl (fun K hK => ?_)
      rw [if_pos (by rfl)]
      refine op_mark _ rfl gM 4 4 rfl _ _ hMrow HB hMW ?_
      intro wF HFs HB HFo
      try have rG := rG.same HFs
      try have rL := rL.same HFs
      try have rS := rS.same HFs
      have rM := (rdAt hMrow [80, 72, 83, 66] 4 rfl rfl (by simp [maxLen])).same HFs
      clear hMrow
      refine hK.out _ _ (HB) ?_
      clear hK
      try simp only [Act.put, pst3]
      refine wpAnyH_seg (by kernel_rfl) (fun _ _ d _ _ h => by first | (cases d <;> exact h) | cases h.1) 5 (brw9 21 65535) [(9, false)] _ _ _ (by kernel_rfl) (HB) ?_
      refine seg_run rfl (fun K hK => ?_)
      go_simp
      refine (le_any l 4 _ (by omega)).mono ?_
      rintro e wL ⟨AL, nL, cL, rfl, oL, HLb⟩
      have HB := below_then HB HLb
      try have hMrow := (HLb.block _ hMlt).trans hMrow
      try have hMlt := Nat.lt_of_lt_of_le hMlt HLb.size
      try have rM := rM.below HLb
      try have rG := rG.below HLb
      try have rS := rS.below HLb
      have rL := oL.rd
      clear oL
      refine hK.out _ _ (HB) ?_
      clear hK
      try simp only [Act.put, pst3]
      refine seg_done (fun _ => ?_)
      exact TL _ _ _ _ _ _ _ _ _ ⟨rM, rG, rL, rS, HB⟩
     ·skip
      refine op_run rfl (fun K hK => ?_)
      go_simp
      refine (le_any l 4 _ (by omega)).mono ?_
      rintro e wL ⟨AL, nL, cL, rfl, oL, HLb⟩
      have HB := below_then HB HLb
      try have hMrow := (HLb.block _ hMlt).trans hMrow
      try have hMlt := Nat.lt_of_lt_of_le hMlt HLb.size
      try have rM := rM.below HLb
      try have rG := rG.below HLb
      try have rS := rS.below HLb
      have rL := oL.rd
      clear oL
      refine hK.out _ _ (HB) ?_
      clear hK
      try simp only [Act.put, pst3]
      refine wpAnyH_seg (by kernel_rfl) (fun _ _ d _ _ h => by first | (cases d <;> exact h) | cases h.1) 5 (brw9 21 65535) [(1, false)] _ _ _ (by kernel_rfl) (HB) ?_
      refine seg_run rfl (fun K hK => ?_)
      rw [if_pos (by rfl)]
      refine op_mark _ rfl gM 4 4 rfl _ _ hMrow HB hMW ?_
      intro wF HFs HB HFo
      try have rG := rG.same HFs
      try have rL := rL.same HFs
      try have rS := rS.same HFs
      have rM := (rdAt hMrow [80, 72, 83, 66] 4 rfl rfl (by simp [maxLen])).same HFs
      clear hMrow
      refine hK.out _ _ (HB) ?_
      clear hK
      try simp only [Act.put, pst3]
      refine seg_done (fun _ => ?_)
      exact TL _ _ _ _ _ _ _ _ _ ⟨rM, rG, rL, rS, HB⟩
    ·skip
     refine op_run rfl (fun K hK => ?_)
     go_simp
     refine (le_any l 4 _ (by omega)).mono ?_
     rintro e wL ⟨AL, nL, cL, rfl, oL, HLb⟩
     have HB := below_then HB HLb
     try have hMrow := (HLb.block _ hMlt).trans hMrow
     try have hMlt := Nat.lt_of_lt_of_le hMlt HLb.size
     try have rM := rM.below HLb
     try have rG := rG.below HLb
     try have rS := rS.below HLb
     have rL := oL.rd
     clear oL
     refine hK.out _ _ (HB) ?_
     clear hK
     try simp only [Act.put, pst3]
     refine wpAnyH_seg (by kernel_rfl) (fun _ _ d _ _ h => by first | (cases d <;> exact h) | cases h.1) 5 (brw9 21 65535) [(0, false), (1, false)] _ _ _ (by kernel_rfl) (HB) ?_
     refine seg_run rfl (fun K hK => ?_)
     rw [if_pos (by rfl)]
     refine op_lit #[.int .u8 80, .int .u8 72, .int .u8 83, .int .u8 66] 5 4 rfl (fun w => by go_simp) ?_
     intro gM wM eM hMrow HMb hMsz
     have hMle0 := HB.size
     have HB := below_then HB HMb
     try have rG := rG.below HMb
     try have rL := rL.below HMb
     try have rS := rS.below HMb
     have hMW : W.heap.size ≤ gM := by rw [← eM]; exact Nat.le_trans hMle0 (Nat.le_refl _)
     have hMlt : gM < wM.heap.size := by rw [hMsz]; exact Nat.lt_succ_self _
     refine hK.out _ _ (HB) ?_
     clear hK
     try simp only [Act.put, pst3]
     refine seg_run rfl (fun K hK => ?_)
     rw [if_pos (by rfl)]
     refine op_mark _ rfl gM 4 4 rfl _ _ hMrow HB hMW ?_
     intro wF HFs HB HFo
     try have rG := rG.same HFs
     try have rL := rL.same HFs
     try have rS := rS.same HFs
     have rM := (rdAt hMrow [80, 72, 83, 66] 4 rfl rfl (by simp [maxLen])).same HFs
     clear hMrow
     refine hK.out _ _ (HB) ?_
     clear hK
     try simp only [Act.put, pst3]
     refine seg_done (fun _ => ?_)
     exact TL _ _ _ _ _ _ _ _ _ ⟨rM, rG, rL, rS, HB⟩
 rintro U gM AG nG cG AL nL cL gS ⟨rM, rG, rL, rS, HB⟩
 refine wpAnyH_seg (by kernel_rfl) (fun _ _ d _ _ h => by first | (cases d <;> exact h) | cases h.1) 0 (brw9 21 2097151) [(16, false), (17, false), (18, false), (19, true), (20, true)] _ _ _ (by kernel_rfl) (HB) ?_
 refine seg_run rfl (fun K hK => ?_)
 rw [if_pos (by rfl)]
 refine op_lit #[.slice (some ⟨gM, 0, none⟩) 4 4, .slice AG nG cG, .slice AL nL cL, .slice (some ⟨gS, 0, none⟩) 1 1, .slice (some ⟨w.heap.size, 3, none⟩) 32 32] 47 5 rfl (fun w => by go_simp) ?_
 intro gP wP eP hProw HPb hPsz
 have HB := below_then HB HPb
 have rM := rM.below HPb
 have rG := rG.below HPb
 have rL := rL.below HPb
 have rS := rS.below HPb
 have rP := rdsAt hProw
 clear hProw
 refine hK.out _ _ (HB) ?_
 clear hK
 try simp only [Act.put, pst3]
 refine seg_run rfl (fun K hK => ?_)
 go_simp
 have hlen : ([[80, 72, 83, 66], leB g 4, leB l 4, [UInt8.ofNat s], D] : List (List UInt8)).flatten.length = 45 := by simp [leB_length, hD]
 refine (joined13_any _ 5 5 _ [[80, 72, 83, 66], leB g 4, leB l 4, [UInt8.ofNat s], D] _ rP rfl (by omega) ⟨⟨_, _, _, rfl, rM⟩, ⟨_, _, _, rfl, rG⟩, ⟨_, _, _, rfl, rL⟩, ⟨_, _, _, rfl, rS⟩, ⟨_, _, _, rfl, rD.below HB⟩, trivial⟩ (by rw [hlen]; omega)).mono ?_
 rintro e wJ ⟨AJ, nJ, cJ, rfl, oJ, HJb⟩
 have HB := below_then HB HJb
 rw [hlen, suB_flat] at oJ
 clear hlen
 obtain rfl : nJ = 252 := by rw [← oJ.len, suB_len _ _ _ _ hD]
 refine hK.out _ _ (HB) ?_
 clear hK
 try simp only [Act.put, pst3]
 refine seg_run rfl (fun K hK => ?_)
 go_simp
 refine (closed_any AJ 252 cJ _ _ oJ.rd (by omega)).mono ?_
 rintro e wC ⟨AC, nC, cC, rfl, oC, HCb⟩
 have HB0 := HB.size
 have HB := below_then HB HCb
 refine hK.out _ _ (HB) ?_
 clear hK
 try simp only [Act.put, pst3]
 iterate 2 (refine seg_take (v := ?_) rfl (Or.inl ⟨by rfl, ?_⟩) ?_; rotate_left; (focus (intro w' hw'; obtain ⟨j0, j1, j2⟩ := JJ.out w' hw'; go_simp <;> with_reducible rfl)); try simp only [Act.put, pst3])
 refine seg_done (fun _ => ?_)
 refine wpAnyH_done (by kernel_rfl) ?_ _
 go_wp2
 go_ret2
 have zz := bW.size
 exact ⟨_, _, _, rfl, OwnB.mono oC (by omega), below_then bW HB⟩
theorem suPut_any (g : Nat) (s l : Int) (D : List UInt8) (w : World) (hg : g < 4294967296) (hs : -9223372036854775808 ≤ s ∧ s ≤ 9223372036854775807) (hD : D.length = 32) :
  Calls Tryz.prog 55 #[.agg (suV g s l D)] w (RetBE w (suPutL g s l D) (suPutE s l)) := by
 unfold suPutL suPutE
 cases h : suCheck s l with
 | false => rw [if_neg (by decide), if_neg (by decide)]; exact suPut_no g s l D w hs hD h
 | true =>
  rw [if_pos rfl, if_pos rfl]
  have hc' := of_decide_eq_true h
  obtain ⟨p, rfl⟩ : ∃ p : Nat, s = (p : Int) := ⟨s.toNat, by omega⟩
  obtain ⟨q, rfl⟩ : ∃ q : Nat, l = (q : Int) := ⟨l.toNat, by omega⟩
  exact suPut_yes g p q D w hg hD h
end Go.Proofs.YtpahicfnhhhifaaGreat
