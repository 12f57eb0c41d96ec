/-
  Layer 13: joined, Put of the package.
-/
import Derived.Test.YtmbdfanaegadjaaSupE
import Derived.Test.YtmbdfanaegadjaaAppZ
import Derived.Test.YtmbdfanaegadjaaMark
import Derived.Test.YtmbdfanaegadjaaNumC
namespace Go.Proofs.Ytmbdfanaegadjaa
set_option maxRecDepth 20000
open Go.RowKit
set_option linter.unusedVariables false
set_option linter.unusedSimpArgs false
set_option maxHeartbeats 8000000

/-- A row of bytes that lies there. -/
theorem rdAt {w : World} {g : Nat} {cs : Array Value} {T : TypeId} {m : Nat × Nat} (h : w.heap[g]? = some (.cells cs T m)) (xs : List UInt8) (n : Nat) (hc : cs.toList = xs.map vB) (hn : xs.length = n) (hm : n ≤ maxLen) : RdB w (some ⟨g, 0, none⟩) n n xs := by
  refine ⟨.inr ⟨g, 0, rfl, ?_, fun i v hv => ?_⟩, hn, Nat.le_refl _, hm⟩
  · rcases Nat.lt_or_ge g w.heap.size with hlt | hge
    · exact hlt
    · rw [Array.getElem?_eq_none hge] at h; cases h
  · rw [Nat.zero_add, cell_of_row _ _ i cs T m h]
    rw [← hc] at hv
    simpa using hv
/-- A part of a row that lies there. -/
theorem rdPart {w : World} {g : Nat} {cs : Array Value} {T : TypeId} {m : Nat × Nat} (h : w.heap[g]? = some (.cells cs T m)) (off : Nat) (xs : List UInt8) (n : Nat) (hc : ∀ i, i < xs.length → cs[off + i]? = (xs.map vB)[i]?) (hn : xs.length = n) (hm : n ≤ maxLen) : RdB w (some ⟨g, off, none⟩) n n xs := by
  refine ⟨.inr ⟨g, off, rfl, ?_, fun i v hv => ?_⟩, hn, Nat.le_refl _, hm⟩
  · rcases Nat.lt_or_ge g w.heap.size with hlt | hge
    · exact hlt
    · rw [Array.getElem?_eq_none hge] at h; cases h
  · have hi : i < xs.length := by have := (List.getElem?_eq_some_iff.1 hv).1; simpa using this
    rw [cell_of_row _ _ (off + i) cs T m h, hc i hi, hv]
/-- A row of values that lies there. -/
theorem rdsAt {w : World} {g : Nat} {cs : Array Value} {T : TypeId} {m : Nat × Nat} (h : w.heap[g]? = some (.cells cs T m)) : Rd w (some ⟨g, 0, none⟩) cs.toList := by
  refine .inr ⟨g, 0, rfl, ?_, fun i v hv => ?_⟩
  · rcases Nat.lt_or_ge g w.heap.size with hlt | hge
    · exact hlt
    · rw [Array.getElem?_eq_none hge] at h; cases h
  · rw [Nat.zero_add, cell_of_row _ _ i cs T m h]
    simpa using hv
theorem suDig {w : World} {h g : Nat} {s l : Int} {D : List UInt8} {T : TypeId} {m : Nat × Nat} (hw : w.heap[h]? = some (.cells (suV g s l D) T m)) (hD : D.length = 32) : RdB w (some ⟨h, 3, none⟩) 32 32 D :=
  rdPart hw 3 D 32 (fun i _ => suV3 ..) hD (by simp [maxLen])

theorem suInfo (g : Nat) (s l : Int) (D : List UInt8) (hD : D.length = 32) : (Try.prog.info? 26).map (·.size) = some (suV g s l D).size := by
  rw [suVn, hD]; kernel_rfl
theorem suB_flat (g s l : Nat) (D : List UInt8) : ([[80, 72, 83, 66], leB g 4, leB l 4, [UInt8.ofNat s], D] : List (List UInt8)).flatten ++ List.replicate (252 - 45) 0 = suB g s l D := by
  simp [suB, List.append_assoc]
theorem joined13_any (A : Option Addr) (K c : Nat) (ss : List Value) (yss : List (List UInt8)) (w : World) (hr : Rd w A ss) (hK : ss.length = K) (hK2 : K ≤ 1000000) (hp : Parts w ss yss) (hm : yss.flatten.length ≤ 252) :
    Calls Try.prog 44 #[.slice A K c] w (RetB w (yss.flatten ++ List.replicate (252 - yss.flatten.length) 0)) := by
  obtain ⟨Z, hZ⟩ : ∃ Z, yss.flatten = Z := ⟨_, rfl⟩
  rw [hZ] at hm ⊢
  have HZ := Lib.hid hZ
  clear hZ
  go_enter Try.func44, Try.ntmps44
  go_wp2_with fail
  refine (concat_any A K c ss yss _ hr hK hK2 hp (by rw [HZ.out]; omega)).mono ?_
  rintro e w1 ⟨A1, n1, c1, rfl, ho, hb⟩
  rw [HZ.out] at ho
  have hl := ho.len
  subst hl
  have z1 := hb.size
  go_wp2_with (at_builtin; refine wp_appZ rfl _ _ rfl hb (Nat.le_refl _) z1 A1 _ c1 Z rfl ho (252 - Z.length) .i64 _ rfl (by omega) (by omega) 252 _ (by omega) rfl ?_; intro A2 c2 w2 ho2 hb2 hg2)
  go_ret
  exact ⟨_, _, _, rfl, ho2, hb2⟩

theorem suPut_no (g : Nat) (s l : Int) (D : List UInt8) (w : World) (hs : -9223372036854775808 ≤ s ∧ s ≤ 9223372036854775807) (hD : D.length = 32) (hc : suCheck s l = false) :
    Calls Try.prog 16 #[.agg (suV g s l D)] w (RetBE w [] 2) := by
  have hsz : (suV g s l D).size = 35 := by rw [suVn, hD]
  obtain ⟨W, hW⟩ : ∃ W, W = w.alloc (.cells (suV g s l D) 26) := ⟨_, rfl⟩
  have bW : Below w.heap.size w W := by rw [hW]; exact (below_self w).alloc (Nat.le_refl _) _
  have HW := Lib.hid hW
  clear hW
  go_enter Try.func16, Try.ntmps16
  go_wp2_with (refine wpList_load_row rfl 26 _ rfl w.heap.size rfl 26 (suV g s l D) (0, 0) _ (row1 ..) Try.underlying26 rfl (suInfo g s l D hD) ?_)
  rw [← HW.out]
  have hh := suCheck_any g s l D W hs hD
  rw [hc] at hh
  refine hh.mono ?_
  rintro e w1 ⟨rfl, hb1⟩
  go_wp2
  go_ret2
  exact ⟨none, 0, 0, rfl, OwnB.nilB _ _, below_then bW hb1⟩

theorem suPut_yes (g s l : Nat) (D : List UInt8) (w : World) (hg : g < 4294967296) (hD : D.length = 32) (hc : suCheck (s : Int) (l : Int) = true) :
    Calls Try.prog 16 #[.agg (suV g s l D)] w (RetBE w (suL g s l D) 0) := by
  have hc' := of_decide_eq_true hc
  have hsz : (suV g s l D).size = 35 := by rw [suVn, hD]
  obtain ⟨W0, hW⟩ : ∃ W, W = w.alloc (.cells (suV g s l D) 26) := ⟨_, rfl⟩
  have bW0 : Below w.heap.size w W0 := by rw [hW]; exact (below_self w).alloc (Nat.le_refl _) _
  have hrow0 : W0.heap[w.heap.size]? = some (.cells (suV g s l D) 26 (0, 0)) := by rw [hW]; exact row1 ..
  have hz0 : w.heap.size < W0.heap.size := by rw [hW]; simp
  have HW := Lib.hid hW
  have HR0 := Lib.hid hrow0
  clear hW hrow0
  go_enter Try.func16, Try.ntmps16
  go_wp2_with (refine wpList_load_row rfl 26 _ rfl w.heap.size rfl 26 (suV g s l D) (0, 0) _ (row1 ..) Try.underlying26 rfl (suInfo g s l D hD) ?_)
  rw [← HW.out]
  have hh := suCheck_any g s l D W0 (by omega) hD
  rw [hc] at hh
  refine hh.mono ?_
  clear hh
  rintro e W ⟨rfl, hb1⟩
  have bW := below_then bW0 hb1
  have hz : w.heap.size < W.heap.size := Nat.lt_of_lt_of_le hz0 hb1.size
  have hrow := (hb1.block _ hz0).trans HR0.out
  have c0 := (cell_of_row W _ 0 _ _ _ hrow).trans (suV0 g s l D)
  have c1 := (cell_of_row W _ 1 _ _ _ hrow).trans (suV1 g s l D)
  have c2 := (cell_of_row W _ 2 _ _ _ hrow).trans (suV2 g s l D)
  have rD := suDig hrow hD
  clear hrow
  have w8 : IntKind.u8.wrap (s : Int) = ((UInt8.ofNat s).toNat : Int) := by rw [UInt8.toNat_ofNat', IntKind.wrap_u8]; omega
  have wg := w64n (k := g) (by omega)
  have wl := w64n (k := l) (by omega)
  have W8 := Lib.hid w8
  go_wp2_with fail
  refine wp_region_seg (S := fun w' => Below W.heap.size W w') 10 #[false, false, true, true, true, false, true, true, true, false, true, true, true, false, true, true, false, false, false, false, false] [(2, true), (3, true), (4, true), (6, true), (7, true), (8, true), (10, true), (11, true), (12, true), (14, true), (15, true)] (by kernel_rfl) (by kernel_rfl) (fun _ _ d _ _ h => by cases d <;> exact h) ((Below.refl W.heap.size W).drew) ?_
  have HB := (Below.refl W.heap.size W).drew
  iterate 11 (refine seg_take (v := ?_) rfl (Or.inl ⟨by rfl, ?_⟩) ?_; rotate_left; (focus (intro w' hw'; have j0 := (hw'.cell (p := ⟨w.heap.size, 0, none⟩) hz).trans c0; have j1 := (hw'.cell (p := ⟨w.heap.size, 1, none⟩) hz).trans c1; have j2 := (hw'.cell (p := ⟨w.heap.size, 2, none⟩) hz).trans c2; go_simp <;> with_reducible rfl)); try simp only [Act.put, List.setIfInBounds_toArray, List.set_cons_zero, List.set_cons_succ])
  refine seg_done (fun _ => ?_)
  refine wpAnyH_three (i := 0) (j := 5) (k := 13) (f := 9) (by kernel_rfl) ?_ ?_ ?_
  · skip
    refine op_run rfl (fun K hK => ?_)
    rw [if_pos (by rfl)]
    refine op_lit #[.int .u8 80, .int .u8 72, .int .u8 83, .int .u8 66] 5 4 rfl (fun w => by go_simp) ?_
    intro gM wM eM hMrow HMb hMsz
    have hMle0 := HB.size
    have HB := below_then HB HMb
    try have rG := rG.below HMb
    try have rL := rL.below HMb
    try have rS := rS.below HMb
    have hMW : W.heap.size ≤ gM := by rw [← eM]; exact Nat.le_trans hMle0 (Nat.le_refl _)
    have hMlt : gM < wM.heap.size := by rw [hMsz]; exact Nat.lt_succ_self _
    refine hK.out _ _ (HB) ?_
    clear hK
    try simp only [Act.put, List.setIfInBounds_toArray, List.set_cons_zero, List.set_cons_succ]
    refine wpAnyH_seg (by kernel_rfl) (fun _ _ d _ _ h => by cases d <;> exact h) 9 #[true, false, true, true, true, false, true, true, true, false, true, true, true, false, true, true, false, false, false, false, false] [] _ _ _ (by kernel_rfl) (HB) ?_
    refine seg_done (fun _ => ?_)
    refine wpAnyH_three (i := 1) (j := 5) (k := 13) (f := 8) (by kernel_rfl) ?_ ?_ ?_
    · skip
      refine op_run rfl (fun K hK => ?_)
      rw [if_pos (by rfl)]
      refine op_mark _ rfl gM 4 4 rfl _ _ hMrow HB hMW ?_
      intro wF HFs HB HFo
      try have rG := rG.same HFs
      try have rL := rL.same HFs
      try have rS := rS.same HFs
      have rM := (rdAt hMrow [80, 72, 83, 66] 4 rfl rfl (by simp [maxLen])).same HFs
      clear hMrow
      refine hK.out _ _ (HB) ?_
      clear hK
      try simp only [Act.put, List.setIfInBounds_toArray, List.set_cons_zero, List.set_cons_succ]
      refine wpAnyH_seg (by kernel_rfl) (fun _ _ d _ _ h => by cases d <;> exact h) 8 #[true, true, true, true, true, false, true, true, true, false, true, true, true, false, true, true, false, false, false, false, false] [] _ _ _ (by kernel_rfl) (HB) ?_
      refine seg_done (fun _ => ?_)
      refine wpAnyH_two (i := 5) (j := 13) (f := 7) (by kernel_rfl) ?_ ?_
      · skip
        refine op_run rfl (fun K hK => ?_)
        go_simp
        refine (le_any g 4 _ (by omega)).mono ?_
        rintro e wG ⟨AG, nG, cG, rfl, oG, HGb⟩
        have HB := below_then HB HGb
        try have hMrow := (HGb.block _ hMlt).trans hMrow
        try have hMlt := Nat.lt_of_lt_of_le hMlt HGb.size
        try have rM := rM.below HGb
        try have rS := rS.below HGb
        have rG := oG.rd
        clear oG
        refine hK.out _ _ (HB) ?_
        clear hK
        try simp only [Act.put, List.setIfInBounds_toArray, List.set_cons_zero, List.set_cons_succ]
        refine wpAnyH_seg (by kernel_rfl) (fun _ _ d _ _ h => by cases d <;> exact h) 7 #[true, true, true, true, true, true, true, true, true, false, true, true, true, false, true, true, false, false, false, false, false] [] _ _ _ (by kernel_rfl) (HB) ?_
        refine seg_done (fun _ => ?_)
        refine wpAnyH_two (i := 9) (j := 13) (f := 6) (by kernel_rfl) ?_ ?_
        · skip
          refine op_run rfl (fun K hK => ?_)
          go_simp
          refine (le_any l 4 _ (by omega)).mono ?_
          rintro e wL ⟨AL, nL, cL, rfl, oL, HLb⟩
          have HB := below_then HB HLb
          try have hMrow := (HLb.block _ hMlt).trans hMrow
          try have hMlt := Nat.lt_of_lt_of_le hMlt HLb.size
          try have rM := rM.below HLb
          try have rG := rG.below HLb
          try have rS := rS.below HLb
          have rL := oL.rd
          clear oL
          refine hK.out _ _ (HB) ?_
          clear hK
          try simp only [Act.put, List.setIfInBounds_toArray, List.set_cons_zero, List.set_cons_succ]
          refine wpAnyH_seg (by kernel_rfl) (fun _ _ d _ _ h => by cases d <;> exact h) 0 #[true, true, true, true, true, true, true, true, true, true, true, true, true, true, true, true, true, true, true, true, true] [(13, false), (16, false), (17, false), (18, false), (19, true), (20, true)] _ _ _ (by kernel_rfl) (HB) ?_
          refine seg_run rfl (fun K hK => ?_)
          rw [if_pos (by rfl)]
          refine op_lit #[.int .u8 (((UInt8.ofNat s).toNat : Nat) : Int)] 5 1 rfl (fun w => by go_simp) ?_
          intro gS wS eS hSrow HSb hSsz
          have HB := below_then HB HSb
          try have hMrow := (HSb.block _ hMlt).trans hMrow
          try have hMlt := Nat.lt_of_lt_of_le hMlt HSb.size
          try have rM := rM.below HSb
          try have rG := rG.below HSb
          try have rL := rL.below HSb
          have rS := rdAt hSrow [UInt8.ofNat s] 1 rfl rfl (by simp [maxLen])
          clear hSrow
          refine hK.out _ _ (HB) ?_
          clear hK
          try simp only [Act.put, List.setIfInBounds_toArray, List.set_cons_zero, List.set_cons_succ]
          refine seg_run rfl (fun K hK => ?_)
          rw [if_pos (by rfl)]
          refine op_lit #[.slice (some ⟨gM, 0, none⟩) 4 4, .slice AG nG cG, .slice AL nL cL, .slice (some ⟨gS, 0, none⟩) 1 1, .slice (some ⟨w.heap.size, 3, none⟩) 32 32] 30 5 rfl (fun w => by go_simp) ?_
          intro gP wP eP hProw HPb hPsz
          have HB := below_then HB HPb
          have rM := rM.below HPb
          have rG := rG.below HPb
          have rL := rL.below HPb
          have rS := rS.below HPb
          have rP := rdsAt hProw
          clear hProw
          refine hK.out _ _ (HB) ?_
          clear hK
          try simp only [Act.put, List.setIfInBounds_toArray, List.set_cons_zero, List.set_cons_succ]
          refine seg_run rfl (fun K hK => ?_)
          go_simp
          have hlen : ([[80, 72, 83, 66], leB g 4, leB l 4, [UInt8.ofNat s], D] : List (List UInt8)).flatten.length = 45 := by simp [leB_length, hD]
          refine (joined13_any _ 5 5 _ [[80, 72, 83, 66], leB g 4, leB l 4, [UInt8.ofNat s], D] _ rP rfl (by omega) ⟨⟨_, _, _, rfl, rM⟩, ⟨_, _, _, rfl, rG⟩, ⟨_, _, _, rfl, rL⟩, ⟨_, _, _, rfl, rS⟩, ⟨_, _, _, rfl, rD.below HB⟩, trivial⟩ (by rw [hlen]; omega)).mono ?_
          rintro e wJ ⟨AJ, nJ, cJ, rfl, oJ, HJb⟩
          have HB := below_then HB HJb
          rw [hlen, suB_flat] at oJ
          clear hlen
          obtain rfl : nJ = 252 := by rw [← oJ.len, suB_len _ _ _ _ hD]
          refine hK.out _ _ (HB) ?_
          clear hK
          try simp only [Act.put, List.setIfInBounds_toArray, List.set_cons_zero, List.set_cons_succ]
          refine seg_run rfl (fun K hK => ?_)
          go_simp
          refine (closed_any AJ 252 cJ _ _ oJ.rd (by omega)).mono ?_
          rintro e wC ⟨AC, nC, cC, rfl, oC, HCb⟩
          have HB0 := HB.size
          have HB := below_then HB HCb
          refine hK.out _ _ (HB) ?_
          clear hK
          try simp only [Act.put, List.setIfInBounds_toArray, List.set_cons_zero, List.set_cons_succ]
          iterate 2 (refine seg_take (v := ?_) rfl (Or.inl ⟨by rfl, ?_⟩) ?_; rotate_left; (focus (intro w' hw'; have j0 := (hw'.cell (p := ⟨w.heap.size, 0, none⟩) hz).trans c0; have j1 := (hw'.cell (p := ⟨w.heap.size, 1, none⟩) hz).trans c1; have j2 := (hw'.cell (p := ⟨w.heap.size, 2, none⟩) hz).trans c2; go_simp <;> with_reducible rfl)); try simp only [Act.put, List.setIfInBounds_toArray, List.set_cons_zero, List.set_cons_succ])
          refine seg_done (fun _ => ?_)
          refine wpAnyH_done (by kernel_rfl) ?_ _
          go_wp2
          go_ret2
          have zz := bW.size
          exact ⟨_, _, _, rfl, OwnB.mono oC (by omega), below_then bW HB⟩
        · skip
          refine op_run rfl (fun K hK => ?_)
          rw [if_pos (by rfl)]
          refine op_lit #[.int .u8 (((UInt8.ofNat s).toNat : Nat) : Int)] 5 1 rfl (fun w => by go_simp) ?_
          intro gS wS eS hSrow HSb hSsz
          have HB := below_then HB HSb
          try have hMrow := (HSb.block _ hMlt).trans hMrow
          try have hMlt := Nat.lt_of_lt_of_le hMlt HSb.size
          try have rM := rM.below HSb
          try have rG := rG.below HSb
          try have rL := rL.below HSb
          have rS := rdAt hSrow [UInt8.ofNat s] 1 rfl rfl (by simp [maxLen])
          clear hSrow
          refine hK.out _ _ (HB) ?_
          clear hK
          try simp only [Act.put, List.setIfInBounds_toArray, List.set_cons_zero, List.set_cons_succ]
          refine wpAnyH_seg (by kernel_rfl) (fun _ _ d _ _ h => by cases d <;> exact h) 0 #[true, true, true, true, true, true, true, true, true, true, true, true, true, true, true, true, true, true, true, true, true] [(9, false), (16, false), (17, false), (18, false), (19, true), (20, true)] _ _ _ (by kernel_rfl) (HB) ?_
          refine seg_run rfl (fun K hK => ?_)
          go_simp
          refine (le_any l 4 _ (by omega)).mono ?_
          rintro e wL ⟨AL, nL, cL, rfl, oL, HLb⟩
          have HB := below_then HB HLb
          try have hMrow := (HLb.block _ hMlt).trans hMrow
          try have hMlt := Nat.lt_of_lt_of_le hMlt HLb.size
          try have rM := rM.below HLb
          try have rG := rG.below HLb
          try have rS := rS.below HLb
          have rL := oL.rd
          clear oL
          refine hK.out _ _ (HB) ?_
          clear hK
          try simp only [Act.put, List.setIfInBounds_toArray, List.set_cons_zero, List.set_cons_succ]
          refine seg_run rfl (fun K hK => ?_)
          rw [if_pos (by rfl)]
          refine op_lit #[.slice (some ⟨gM, 0, none⟩) 4 4, .slice AG nG cG, .slice AL nL cL, .slice (some ⟨gS, 0, none⟩) 1 1, .slice (some ⟨w.heap.size, 3, none⟩) 32 32] 30 5 rfl (fun w => by go_simp) ?_
          intro gP wP eP hProw HPb hPsz
          have HB := below_then HB HPb
          have rM := rM.below HPb
          have rG := rG.below HPb
          have rL := rL.below HPb
          have rS := rS.below HPb
          have rP := rdsAt hProw
          clear hProw
          refine hK.out _ _ (HB) ?_
          clear hK
          try simp only [Act.put, List.setIfInBounds_toArray, List.set_cons_zero, List.set_cons_succ]
          refine seg_run rfl (fun K hK => ?_)
          go_simp
          have hlen : ([[80, 72, 83, 66], leB g 4, leB l 4, [UInt8.ofNat s], D] : List (List UInt8)).flatten.length = 45 := by simp [leB_length, hD]
          refine (joined13_any _ 5 5 _ [[80, 72, 83, 66], leB g 4, leB l 4, [UInt8.ofNat s], D] _ rP rfl (by omega) ⟨⟨_, _, _, rfl, rM⟩, ⟨_, _, _, rfl, rG⟩, ⟨_, _, _, rfl, rL⟩, ⟨_, _, _, rfl, rS⟩, ⟨_, _, _, rfl, rD.below HB⟩, trivial⟩ (by rw [hlen]; omega)).mono ?_
          rintro e wJ ⟨AJ, nJ, cJ, rfl, oJ, HJb⟩
          have HB := below_then HB HJb
          rw [hlen, suB_flat] at oJ
          clear hlen
          obtain rfl : nJ = 252 := by rw [← oJ.len, suB_len _ _ _ _ hD]
          refine hK.out _ _ (HB) ?_
          clear hK
          try simp only [Act.put, List.setIfInBounds_toArray, List.set_cons_zero, List.set_cons_succ]
          refine seg_run rfl (fun K hK => ?_)
          go_simp
          refine (closed_any AJ 252 cJ _ _ oJ.rd (by omega)).mono ?_
          rintro e wC ⟨AC, nC, cC, rfl, oC, HCb⟩
          have HB0 := HB.size
          have HB := below_then HB HCb
          refine hK.out _ _ (HB) ?_
          clear hK
          try simp only [Act.put, List.setIfInBounds_toArray, List.set_cons_zero, List.set_cons_succ]
          iterate 2 (refine seg_take (v := ?_) rfl (Or.inl ⟨by rfl, ?_⟩) ?_; rotate_left; (focus (intro w' hw'; have j0 := (hw'.cell (p := ⟨w.heap.size, 0, none⟩) hz).trans c0; have j1 := (hw'.cell (p := ⟨w.heap.size, 1, none⟩) hz).trans c1; have j2 := (hw'.cell (p := ⟨w.heap.size, 2, none⟩) hz).trans c2; go_simp <;> with_reducible rfl)); try simp only [Act.put, List.setIfInBounds_toArray, List.set_cons_zero, List.set_cons_succ])
          refine seg_done (fun _ => ?_)
          refine wpAnyH_done (by kernel_rfl) ?_ _
          go_wp2
          go_ret2
          have zz := bW.size
          exact ⟨_, _, _, rfl, OwnB.mono oC (by omega), below_then bW HB⟩
      · skip
        refine op_run rfl (fun K hK => ?_)
        rw [if_pos (by rfl)]
        refine op_lit #[.int .u8 (((UInt8.ofNat s).toNat : Nat) : Int)] 5 1 rfl (fun w => by go_simp) ?_
        intro gS wS eS hSrow HSb hSsz
        have HB := below_then HB HSb
        try have hMrow := (HSb.block _ hMlt).trans hMrow
        try have hMlt := Nat.lt_of_lt_of_le hMlt HSb.size
        try have rM := rM.below HSb
        try have rG := rG.below HSb
        try have rL := rL.below HSb
        have rS := rdAt hSrow [UInt8.ofNat s] 1 rfl rfl (by simp [maxLen])
        clear hSrow
        refine hK.out _ _ (HB) ?_
        clear hK
        try simp only [Act.put, List.setIfInBounds_toArray, List.set_cons_zero, List.set_cons_succ]
        refine wpAnyH_seg (by kernel_rfl) (fun _ _ d _ _ h => by cases d <;> exact h) 0 #[true, true, true, true, true, true, true, true, true, true, true, true, true, true, true, true, true, true, true, true, true] [(5, false), (9, false), (16, false), (17, false), (18, false), (19, true), (20, true)] _ _ _ (by kernel_rfl) (HB) ?_
        refine seg_run rfl (fun K hK => ?_)
        go_simp
        refine (le_any g 4 _ (by omega)).mono ?_
        rintro e wG ⟨AG, nG, cG, rfl, oG, HGb⟩
        have HB := below_then HB HGb
        try have hMrow := (HGb.block _ hMlt).trans hMrow
        try have hMlt := Nat.lt_of_lt_of_le hMlt HGb.size
        try have rM := rM.below HGb
        try have rS := rS.below HGb
        have rG := oG.rd
        clear oG
        refine hK.out _ _ (HB) ?_
        clear hK
        try simp only [Act.put, List.setIfInBounds_toArray, List.set_cons_zero, List.set_cons_succ]
        refine seg_run rfl (fun K hK => ?_)
        go_simp
        refine (le_any l 4 _ (by omega)).mono ?_
        rintro e wL ⟨AL, nL, cL, rfl, oL, HLb⟩
        have HB := below_then HB HLb
        try have hMrow := (HLb.block _ hMlt).trans hMrow
        try have hMlt := Nat.lt_of_lt_of_le hMlt HLb.size
        try have rM := rM.below HLb
        try have rG := rG.below HLb
        try have rS := rS.below HLb
        have rL := oL.rd
        clear oL
        refine hK.out _ _ (HB) ?_
        clear hK
        try simp only [Act.put, List.setIfInBounds_toArray, List.set_cons_zero, List.set_cons_succ]
        refine seg_run rfl (fun K hK => ?_)
        rw [if_pos (by rfl)]
        refine op_lit #[.slice (some ⟨gM, 0, none⟩) 4 4, .slice AG nG cG, .slice AL nL cL, .slice (some ⟨gS, 0, none⟩) 1 1, .slice (some ⟨w.heap.size, 3, none⟩) 32 32] 30 5 rfl (fun w => by go_simp) ?_
        intro gP wP eP hProw HPb hPsz
        have HB := below_then HB HPb
        have rM := rM.below HPb
        have rG := rG.below HPb
        have rL := rL.below HPb
        have rS := rS.below HPb
        have rP := rdsAt hProw
        clear hProw
        refine hK.out _ _ (HB) ?_
        clear hK
        try simp only [Act.put, List.setIfInBounds_toArray, List.set_cons_zero, List.set_cons_succ]
        refine seg_run rfl (fun K hK => ?_)
        go_simp
        have hlen : ([[80, 72, 83, 66], leB g 4, leB l 4, [UInt8.ofNat s], D] : List (List UInt8)).flatten.length = 45 := by simp [leB_length, hD]
        refine (joined13_any _ 5 5 _ [[80, 72, 83, 66], leB g 4, leB l 4, [UInt8.ofNat s], D] _ rP rfl (by omega) ⟨⟨_, _, _, rfl, rM⟩, ⟨_, _, _, rfl, rG⟩, ⟨_, _, _, rfl, rL⟩, ⟨_, _, _, rfl, rS⟩, ⟨_, _, _, rfl, rD.below HB⟩, trivial⟩ (by rw [hlen]; omega)).mono ?_
        rintro e wJ ⟨AJ, nJ, cJ, rfl, oJ, HJb⟩
        have HB := below_then HB HJb
        rw [hlen, suB_flat] at oJ
        clear hlen
        obtain rfl : nJ = 252 := by rw [← oJ.len, suB_len _ _ _ _ hD]
        refine hK.out _ _ (HB) ?_
        clear hK
        try simp only [Act.put, List.setIfInBounds_toArray, List.set_cons_zero, List.set_cons_succ]
        refine seg_run rfl (fun K hK => ?_)
        go_simp
        refine (closed_any AJ 252 cJ _ _ oJ.rd (by omega)).mono ?_
        rintro e wC ⟨AC, nC, cC, rfl, oC, HCb⟩
        have HB0 := HB.size
        have HB := below_then HB HCb
        refine hK.out _ _ (HB) ?_
        clear hK
        try simp only [Act.put, List.setIfInBounds_toArray, List.set_cons_zero, List.set_cons_succ]
        iterate 2 (refine seg_take (v := ?_) rfl (Or.inl ⟨by rfl, ?_⟩) ?_; rotate_left; (focus (intro w' hw'; have j0 := (hw'.cell (p := ⟨w.heap.size, 0, none⟩) hz).trans c0; have j1 := (hw'.cell (p := ⟨w.heap.size, 1, none⟩) hz).trans c1; have j2 := (hw'.cell (p := ⟨w.heap.size, 2, none⟩) hz).trans c2; go_simp <;> with_reducible rfl)); try simp only [Act.put, List.setIfInBounds_toArray, List.set_cons_zero, List.set_cons_succ])
        refine seg_done (fun _ => ?_)
        refine wpAnyH_done (by kernel_rfl) ?_ _
        go_wp2
        go_ret2
        have zz := bW.size
        exact ⟨_, _, _, rfl, OwnB.mono oC (by omega), below_then bW HB⟩
    · skip
      refine op_run rfl (fun K hK => ?_)
      go_simp
      refine (le_any g 4 _ (by omega)).mono ?_
      rintro e wG ⟨AG, nG, cG, rfl, oG, HGb⟩
      have HB := below_then HB HGb
      try have hMrow := (HGb.block _ hMlt).trans hMrow
      try have hMlt := Nat.lt_of_lt_of_le hMlt HGb.size
      try have rM := rM.below HGb
      try have rS := rS.below HGb
      have rG := oG.rd
      clear oG
      refine hK.out _ _ (HB) ?_
      clear hK
      try simp only [Act.put, List.setIfInBounds_toArray, List.set_cons_zero, List.set_cons_succ]
      refine wpAnyH_seg (by kernel_rfl) (fun _ _ d _ _ h => by cases d <;> exact h) 8 #[true, false, true, true, true, true, true, true, true, false, true, true, true, false, true, true, false, false, false, false, false] [] _ _ _ (by kernel_rfl) (HB) ?_
      refine seg_done (fun _ => ?_)
      refine wpAnyH_three (i := 1) (j := 9) (k := 13) (f := 7) (by kernel_rfl) ?_ ?_ ?_
      · skip
        refine op_run rfl (fun K hK => ?_)
        rw [if_pos (by rfl)]
        refine op_mark _ rfl gM 4 4 rfl _ _ hMrow HB hMW ?_
        intro wF HFs HB HFo
        try have rG := rG.same HFs
        try have rL := rL.same HFs
        try have rS := rS.same HFs
        have rM := (rdAt hMrow [80, 72, 83, 66] 4 rfl rfl (by simp [maxLen])).same HFs
        clear hMrow
        refine hK.out _ _ (HB) ?_
        clear hK
        try simp only [Act.put, List.setIfInBounds_toArray, List.set_cons_zero, List.set_cons_succ]
        refine wpAnyH_seg (by kernel_rfl) (fun _ _ d _ _ h => by cases d <;> exact h) 7 #[true, true, true, true, true, true, true, true, true, false, true, true, true, false, true, true, false, false, false, false, false] [] _ _ _ (by kernel_rfl) (HB) ?_
        refine seg_done (fun _ => ?_)
        refine wpAnyH_two (i := 9) (j := 13) (f := 6) (by kernel_rfl) ?_ ?_
        · skip
          refine op_run rfl (fun K hK => ?_)
          go_simp
          refine (le_any l 4 _ (by omega)).mono ?_
          rintro e wL ⟨AL, nL, cL, rfl, oL, HLb⟩
          have HB := below_then HB HLb
          try have hMrow := (HLb.block _ hMlt).trans hMrow
          try have hMlt := Nat.lt_of_lt_of_le hMlt HLb.size
          try have rM := rM.below HLb
          try have rG := rG.below HLb
          try have rS := rS.below HLb
          have rL := oL.rd
          clear oL
          refine hK.out _ _ (HB) ?_
          clear hK
          try simp only [Act.put, List.setIfInBounds_toArray, List.set_cons_zero, List.set_cons_succ]
          refine wpAnyH_seg (by kernel_rfl) (fun _ _ d _ _ h => by cases d <;> exact h) 0 #[true, true, true, true, true, true, true, true, true, true, true, true, true, true, true, true, true, true, true, true, true] [(13, false), (16, false), (17, false), (18, false), (19, true), (20, true)] _ _ _ (by kernel_rfl) (HB) ?_
          refine seg_run rfl (fun K hK => ?_)
          rw [if_pos (by rfl)]
          refine op_lit #[.int .u8 (((UInt8.ofNat s).toNat : Nat) : Int)] 5 1 rfl (fun w => by go_simp) ?_
          intro gS wS eS hSrow HSb hSsz
          have HB := below_then HB HSb
          try have hMrow := (HSb.block _ hMlt).trans hMrow
          try have hMlt := Nat.lt_of_lt_of_le hMlt HSb.size
          try have rM := rM.below HSb
          try have rG := rG.below HSb
          try have rL := rL.below HSb
          have rS := rdAt hSrow [UInt8.ofNat s] 1 rfl rfl (by simp [maxLen])
          clear hSrow
          refine hK.out _ _ (HB) ?_
          clear hK
          try simp only [Act.put, List.setIfInBounds_toArray, List.set_cons_zero, List.set_cons_succ]
          refine seg_run rfl (fun K hK => ?_)
          rw [if_pos (by rfl)]
          refine op_lit #[.slice (some ⟨gM, 0, none⟩) 4 4, .slice AG nG cG, .slice AL nL cL, .slice (some ⟨gS, 0, none⟩) 1 1, .slice (some ⟨w.heap.size, 3, none⟩) 32 32] 30 5 rfl (fun w => by go_simp) ?_
          intro gP wP eP hProw HPb hPsz
          have HB := below_then HB HPb
          have rM := rM.below HPb
          have rG := rG.below HPb
          have rL := rL.below HPb
          have rS := rS.below HPb
          have rP := rdsAt hProw
          clear hProw
          refine hK.out _ _ (HB) ?_
          clear hK
          try simp only [Act.put, List.setIfInBounds_toArray, List.set_cons_zero, List.set_cons_succ]
          refine seg_run rfl (fun K hK => ?_)
          go_simp
          have hlen : ([[80, 72, 83, 66], leB g 4, leB l 4, [UInt8.ofNat s], D] : List (List UInt8)).flatten.length = 45 := by simp [leB_length, hD]
          refine (joined13_any _ 5 5 _ [[80, 72, 83, 66], leB g 4, leB l 4, [UInt8.ofNat s], D] _ rP rfl (by omega) ⟨⟨_, _, _, rfl, rM⟩, ⟨_, _, _, rfl, rG⟩, ⟨_, _, _, rfl, rL⟩, ⟨_, _, _, rfl, rS⟩, ⟨_, _, _, rfl, rD.below HB⟩, trivial⟩ (by rw [hlen]; omega)).mono ?_
          rintro e wJ ⟨AJ, nJ, cJ, rfl, oJ, HJb⟩
          have HB := below_then HB HJb
          rw [hlen, suB_flat] at oJ
          clear hlen
          obtain rfl : nJ = 252 := by rw [← oJ.len, suB_len _ _ _ _ hD]
          refine hK.out _ _ (HB) ?_
          clear hK
          try simp only [Act.put, List.setIfInBounds_toArray, List.set_cons_zero, List.set_cons_succ]
          refine seg_run rfl (fun K hK => ?_)
          go_simp
          refine (closed_any AJ 252 cJ _ _ oJ.rd (by omega)).mono ?_
          rintro e wC ⟨AC, nC, cC, rfl, oC, HCb⟩
          have HB0 := HB.size
          have HB := below_then HB HCb
          refine hK.out _ _ (HB) ?_
          clear hK
          try simp only [Act.put, List.setIfInBounds_toArray, List.set_cons_zero, List.set_cons_succ]
          iterate 2 (refine seg_take (v := ?_) rfl (Or.inl ⟨by rfl, ?_⟩) ?_; rotate_left; (focus (intro w' hw'; have j0 := (hw'.cell (p := ⟨w.heap.size, 0, none⟩) hz).trans c0; have j1 := (hw'.cell (p := ⟨w.heap.size, 1, none⟩) hz).trans c1; have j2 := (hw'.cell (p := ⟨w.heap.size, 2, none⟩) hz).trans c2; go_simp <;> with_reducible rfl)); try simp only [Act.put, List.setIfInBounds_toArray, List.set_cons_zero, List.set_cons_succ])
          refine seg_done (fun _ => ?_)
          refine wpAnyH_done (by kernel_rfl) ?_ _
          go_wp2
          go_ret2
          have zz := bW.size
          exact ⟨_, _, _, rfl, OwnB.mono oC (by omega), below_then bW HB⟩
        · skip
          refine op_run rfl (fun K hK => ?_)
          rw [if_pos (by rfl)]
          refine op_lit #[.int .u8 (((UInt8.ofNat s).toNat : Nat) : Int)] 5 1 rfl (fun w => by go_simp) ?_
          intro gS wS eS hSrow HSb hSsz
          have HB := below_then HB HSb
          try have hMrow := (HSb.block _ hMlt).trans hMrow
          try have hMlt := Nat.lt_of_lt_of_le hMlt HSb.size
          try have rM := rM.below HSb
          try have rG := rG.below HSb
          try have rL := rL.below HSb
          have rS := rdAt hSrow [UInt8.ofNat s] 1 rfl rfl (by simp [maxLen])
          clear hSrow
          refine hK.out _ _ (HB) ?_
          clear hK
          try simp only [Act.put, List.setIfInBounds_toArray, List.set_cons_zero, List.set_cons_succ]
          refine wpAnyH_seg (by kernel_rfl) (fun _ _ d _ _ h => by cases d <;> exact h) 0 #[true, true, true, true, true, true, true, true, true, true, true, true, true, true, true, true, true, true, true, true, true] [(9, false), (16, false), (17, false), (18, false), (19, true), (20, true)] _ _ _ (by kernel_rfl) (HB) ?_
          refine seg_run rfl (fun K hK => ?_)
          go_simp
          refine (le_any l 4 _ (by omega)).mono ?_
          rintro e wL ⟨AL, nL, cL, rfl, oL, HLb⟩
          have HB := below_then HB HLb
          try have hMrow := (HLb.block _ hMlt).trans hMrow
          try have hMlt := Nat.lt_of_lt_of_le hMlt HLb.size
          try have rM := rM.below HLb
          try have rG := rG.below HLb
          try have rS := rS.below HLb
          have rL := oL.rd
          clear oL
          refine hK.out _ _ (HB) ?_
          clear hK
          try simp only [Act.put, List.setIfInBounds_toArray, List.set_cons_zero, List.set_cons_succ]
          refine seg_run rfl (fun K hK => ?_)
          rw [if_pos (by rfl)]
          refine op_lit #[.slice (some ⟨gM, 0, none⟩) 4 4, .slice AG nG cG, .slice AL nL cL, .slice (some ⟨gS, 0, none⟩) 1 1, .slice (some ⟨w.heap.size, 3, none⟩) 32 32] 30 5 rfl (fun w => by go_simp) ?_
          intro gP wP eP hProw HPb hPsz
          have HB := below_then HB HPb
          have rM := rM.below HPb
          have rG := rG.below HPb
          have rL := rL.below HPb
          have rS := rS.below HPb
          have rP := rdsAt hProw
          clear hProw
          refine hK.out _ _ (HB) ?_
          clear hK
          try simp only [Act.put, List.setIfInBounds_toArray, List.set_cons_zero, List.set_cons_succ]
          refine seg_run rfl (fun K hK => ?_)
          go_simp
          have hlen : ([[80, 72, 83, 66], leB g 4, leB l 4, [UInt8.ofNat s], D] : List (List UInt8)).flatten.length = 45 := by simp [leB_length, hD]
          refine (joined13_any _ 5 5 _ [[80, 72, 83, 66], leB g 4, leB l 4, [UInt8.ofNat s], D] _ rP rfl (by omega) ⟨⟨_, _, _, rfl, rM⟩, ⟨_, _, _, rfl, rG⟩, ⟨_, _, _, rfl, rL⟩, ⟨_, _, _, rfl, rS⟩, ⟨_, _, _, rfl, rD.below HB⟩, trivial⟩ (by rw [hlen]; omega)).mono ?_
          rintro e wJ ⟨AJ, nJ, cJ, rfl, oJ, HJb⟩
          have HB := below_then HB HJb
          rw [hlen, suB_flat] at oJ
          clear hlen
          obtain rfl : nJ = 252 := by rw [← oJ.len, suB_len _ _ _ _ hD]
          refine hK.out _ _ (HB) ?_
          clear hK
          try simp only [Act.put, List.setIfInBounds_toArray, List.set_cons_zero, List.set_cons_succ]
          refine seg_run rfl (fun K hK => ?_)
          go_simp
          refine (closed_any AJ 252 cJ _ _ oJ.rd (by omega)).mono ?_
          rintro e wC ⟨AC, nC, cC, rfl, oC, HCb⟩
          have HB0 := HB.size
          have HB := below_then HB HCb
          refine hK.out _ _ (HB) ?_
          clear hK
          try simp only [Act.put, List.setIfInBounds_toArray, List.set_cons_zero, List.set_cons_succ]
          iterate 2 (refine seg_take (v := ?_) rfl (Or.inl ⟨by rfl, ?_⟩) ?_; rotate_left; (focus (intro w' hw'; have j0 := (hw'.cell (p := ⟨w.heap.size, 0, none⟩) hz).trans c0; have j1 := (hw'.cell (p := ⟨w.heap.size, 1, none⟩) hz).trans c1; have j2 := (hw'.cell (p := ⟨w.heap.size, 2, none⟩) hz).trans c2; go_simp <;> with_reducible rfl)); try simp only [Act.put, List.setIfInBounds_toArray, List.set_cons_zero, List.set_cons_succ])
          refine seg_done (fun _ => ?_)
          refine wpAnyH_done (by kernel_rfl) ?_ _
          go_wp2
          go_ret2
          have zz := bW.size
          exact ⟨_, _, _, rfl, OwnB.mono oC (by omega), below_then bW HB⟩
      · skip
        refine op_run rfl (fun K hK => ?_)
        go_simp
        refine (le_any l 4 _ (by omega)).mono ?_
        rintro e wL ⟨AL, nL, cL, rfl, oL, HLb⟩
        have HB := below_then HB HLb
        try have hMrow := (HLb.block _ hMlt).trans hMrow
        try have hMlt := Nat.lt_of_lt_of_le hMlt HLb.size
        try have rM := rM.below HLb
        try have rG := rG.below HLb
        try have rS := rS.below HLb
        have rL := oL.rd
        clear oL
        refine hK.out _ _ (HB) ?_
        clear hK
        try simp only [Act.put, List.setIfInBounds_toArray, List.set_cons_zero, List.set_cons_succ]
        refine wpAnyH_seg (by kernel_rfl) (fun _ _ d _ _ h => by cases d <;> exact h) 7 #[true, false, true, true, true, true, true, true, true, true, true, true, true, false, true, true, false, false, false, false, false] [] _ _ _ (by kernel_rfl) (HB) ?_
        refine seg_done (fun _ => ?_)
        refine wpAnyH_two (i := 1) (j := 13) (f := 6) (by kernel_rfl) ?_ ?_
        · skip
          refine op_run rfl (fun K hK => ?_)
          rw [if_pos (by rfl)]
          refine op_mark _ rfl gM 4 4 rfl _ _ hMrow HB hMW ?_
          intro wF HFs HB HFo
          try have rG := rG.same HFs
          try have rL := rL.same HFs
          try have rS := rS.same HFs
          have rM := (rdAt hMrow [80, 72, 83, 66] 4 rfl rfl (by simp [maxLen])).same HFs
          clear hMrow
          refine hK.out _ _ (HB) ?_
          clear hK
          try simp only [Act.put, List.setIfInBounds_toArray, List.set_cons_zero, List.set_cons_succ]
          refine wpAnyH_seg (by kernel_rfl) (fun _ _ d _ _ h => by cases d <;> exact h) 0 #[true, true, true, true, true, true, true, true, true, true, true, true, true, true, true, true, true, true, true, true, true] [(13, false), (16, false), (17, false), (18, false), (19, true), (20, true)] _ _ _ (by kernel_rfl) (HB) ?_
          refine seg_run rfl (fun K hK => ?_)
          rw [if_pos (by rfl)]
          refine op_lit #[.int .u8 (((UInt8.ofNat s).toNat : Nat) : Int)] 5 1 rfl (fun w => by go_simp) ?_
          intro gS wS eS hSrow HSb hSsz
          have HB := below_then HB HSb
          try have hMrow := (HSb.block _ hMlt).trans hMrow
          try have hMlt := Nat.lt_of_lt_of_le hMlt HSb.size
          try have rM := rM.below HSb
          try have rG := rG.below HSb
          try have rL := rL.below HSb
          have rS := rdAt hSrow [UInt8.ofNat s] 1 rfl rfl (by simp [maxLen])
          clear hSrow
          refine hK.out _ _ (HB) ?_
          clear hK
          try simp only [Act.put, List.setIfInBounds_toArray, List.set_cons_zero, List.set_cons_succ]
          refine seg_run rfl (fun K hK => ?_)
          rw [if_pos (by rfl)]
          refine op_lit #[.slice (some ⟨gM, 0, none⟩) 4 4, .slice AG nG cG, .slice AL nL cL, .slice (some ⟨gS, 0, none⟩) 1 1, .slice (some ⟨w.heap.size, 3, none⟩) 32 32] 30 5 rfl (fun w => by go_simp) ?_
          intro gP wP eP hProw HPb hPsz
          have HB := below_then HB HPb
          have rM := rM.below HPb
          have rG := rG.below HPb
          have rL := rL.below HPb
          have rS := rS.below HPb
          have rP := rdsAt hProw
          clear hProw
          refine hK.out _ _ (HB) ?_
          clear hK
          try simp only [Act.put, List.setIfInBounds_toArray, List.set_cons_zero, List.set_cons_succ]
          refine seg_run rfl (fun K hK => ?_)
          go_simp
          have hlen : ([[80, 72, 83, 66], leB g 4, leB l 4, [UInt8.ofNat s], D] : List (List UInt8)).flatten.length = 45 := by simp [leB_length, hD]
          refine (joined13_any _ 5 5 _ [[80, 72, 83, 66], leB g 4, leB l 4, [UInt8.ofNat s], D] _ rP rfl (by omega) ⟨⟨_, _, _, rfl, rM⟩, ⟨_, _, _, rfl, rG⟩, ⟨_, _, _, rfl, rL⟩, ⟨_, _, _, rfl, rS⟩, ⟨_, _, _, rfl, rD.below HB⟩, trivial⟩ (by rw [hlen]; omega)).mono ?_
          rintro e wJ ⟨AJ, nJ, cJ, rfl, oJ, HJb⟩
          have HB := below_then HB HJb
          rw [hlen, suB_flat] at oJ
          clear hlen
          obtain rfl : nJ = 252 := by rw [← oJ.len, suB_len _ _ _ _ hD]
          refine hK.out _ _ (HB) ?_
          clear hK
          try simp only [Act.put, List.setIfInBounds_toArray, List.set_cons_zero, List.set_cons_succ]
          refine seg_run rfl (fun K hK => ?_)
          go_simp
          refine (closed_any AJ 252 cJ _ _ oJ.rd (by omega)).mono ?_
          rintro e wC ⟨AC, nC, cC, rfl, oC, HCb⟩
          have HB0 := HB.size
          have HB := below_then HB HCb
          refine hK.out _ _ (HB) ?_
          clear hK
          try simp only [Act.put, List.setIfInBounds_toArray, List.set_cons_zero, List.set_cons_succ]
          iterate 2 (refine seg_take (v := ?_) rfl (Or.inl ⟨by rfl, ?_⟩) ?_; rotate_left; (focus (intro w' hw'; have j0 := (hw'.cell (p := ⟨w.heap.size, 0, none⟩) hz).trans c0; have j1 := (hw'.cell (p := ⟨w.heap.size, 1, none⟩) hz).trans c1; have j2 := (hw'.cell (p := ⟨w.heap.size, 2, none⟩) hz).trans c2; go_simp <;> with_reducible rfl)); try simp only [Act.put, List.setIfInBounds_toArray, List.set_cons_zero, List.set_cons_succ])
          refine seg_done (fun _ => ?_)
          refine wpAnyH_done (by kernel_rfl) ?_ _
          go_wp2
          go_ret2
          have zz := bW.size
          exact ⟨_, _, _, rfl, OwnB.mono oC (by omega), below_then bW HB⟩
        · skip
          refine op_run rfl (fun K hK => ?_)
          rw [if_pos (by rfl)]
          refine op_lit #[.int .u8 (((UInt8.ofNat s).toNat : Nat) : Int)] 5 1 rfl (fun w => by go_simp) ?_
          intro gS wS eS hSrow HSb hSsz
          have HB := below_then HB HSb
          try have hMrow := (HSb.block _ hMlt).trans hMrow
          try have hMlt := Nat.lt_of_lt_of_le hMlt HSb.size
          try have rM := rM.below HSb
          try have rG := rG.below HSb
          try have rL := rL.below HSb
          have rS := rdAt hSrow [UInt8.ofNat s] 1 rfl rfl (by simp [maxLen])
          clear hSrow
          refine hK.out _ _ (HB) ?_
          clear hK
          try simp only [Act.put, List.setIfInBounds_toArray, List.set_cons_zero, List.set_cons_succ]
          refine wpAnyH_seg (by kernel_rfl) (fun _ _ d _ _ h => by cases d <;> exact h) 0 #[true, true, true, true, true, true, true, true, true, true, true, true, true, true, true, true, true, true, true, true, true] [(1, false), (16, false), (17, false), (18, false), (19, true), (20, true)] _ _ _ (by kernel_rfl) (HB) ?_
          refine seg_run rfl (fun K hK => ?_)
          rw [if_pos (by rfl)]
          refine op_mark _ rfl gM 4 4 rfl _ _ hMrow HB hMW ?_
          intro wF HFs HB HFo
          try have rG := rG.same HFs
          try have rL := rL.same HFs
          try have rS := rS.same HFs
          have rM := (rdAt hMrow [80, 72, 83, 66] 4 rfl rfl (by simp [maxLen])).same HFs
          clear hMrow
          refine hK.out _ _ (HB) ?_
          clear hK
          try simp only [Act.put, List.setIfInBounds_toArray, List.set_cons_zero, List.set_cons_succ]
          refine seg_run rfl (fun K hK => ?_)
          rw [if_pos (by rfl)]
          refine op_lit #[.slice (some ⟨gM, 0, none⟩) 4 4, .slice AG nG cG, .slice AL nL cL, .slice (some ⟨gS, 0, none⟩) 1 1, .slice (some ⟨w.heap.size, 3, none⟩) 32 32] 30 5 rfl (fun w => by go_simp) ?_
          intro gP wP eP hProw HPb hPsz
          have HB := below_then HB HPb
          have rM := rM.below HPb
          have rG := rG.below HPb
          have rL := rL.below HPb
          have rS := rS.below HPb
          have rP := rdsAt hProw
          clear hProw
          refine hK.out _ _ (HB) ?_
          clear hK
          try simp only [Act.put, List.setIfInBounds_toArray, List.set_cons_zero, List.set_cons_succ]
          refine seg_run rfl (fun K hK => ?_)
          go_simp
          have hlen : ([[80, 72, 83, 66], leB g 4, leB l 4, [UInt8.ofNat s], D] : List (List UInt8)).flatten.length = 45 := by simp [leB_length, hD]
          refine (joined13_any _ 5 5 _ [[80, 72, 83, 66], leB g 4, leB l 4, [UInt8.ofNat s], D] _ rP rfl (by omega) ⟨⟨_, _, _, rfl, rM⟩, ⟨_, _, _, rfl, rG⟩, ⟨_, _, _, rfl, rL⟩, ⟨_, _, _, rfl, rS⟩, ⟨_, _, _, rfl, rD.below HB⟩, trivial⟩ (by rw [hlen]; omega)).mono ?_
          rintro e wJ ⟨AJ, nJ, cJ, rfl, oJ, HJb⟩
          have HB := below_then HB HJb
          rw [hlen, suB_flat] at oJ
          clear hlen
          obtain rfl : nJ = 252 := by rw [← oJ.len, suB_len _ _ _ _ hD]
          refine hK.out _ _ (HB) ?_
          clear hK
          try simp only [Act.put, List.setIfInBounds_toArray, List.set_cons_zero, List.set_cons_succ]
          refine seg_run rfl (fun K hK => ?_)
          go_simp
          refine (closed_any AJ 252 cJ _ _ oJ.rd (by omega)).mono ?_
          rintro e wC ⟨AC, nC, cC, rfl, oC, HCb⟩
          have HB0 := HB.size
          have HB := below_then HB HCb
          refine hK.out _ _ (HB) ?_
          clear hK
          try simp only [Act.put, List.setIfInBounds_toArray, List.set_cons_zero, List.set_cons_succ]
          iterate 2 (refine seg_take (v := ?_) rfl (Or.inl ⟨by rfl, ?_⟩) ?_; rotate_left; (focus (intro w' hw'; have j0 := (hw'.cell (p := ⟨w.heap.size, 0, none⟩) hz).trans c0; have j1 := (hw'.cell (p := ⟨w.heap.size, 1, none⟩) hz).trans c1; have j2 := (hw'.cell (p := ⟨w.heap.size, 2, none⟩) hz).trans c2; go_simp <;> with_reducible rfl)); try simp only [Act.put, List.setIfInBounds_toArray, List.set_cons_zero, List.set_cons_succ])
          refine seg_done (fun _ => ?_)
          refine wpAnyH_done (by kernel_rfl) ?_ _
          go_wp2
          go_ret2
          have zz := bW.size
          exact ⟨_, _, _, rfl, OwnB.mono oC (by omega), below_then bW HB⟩
      · skip
        refine op_run rfl (fun K hK => ?_)
        rw [if_pos (by rfl)]
        refine op_lit #[.int .u8 (((UInt8.ofNat s).toNat : Nat) : Int)] 5 1 rfl (fun w => by go_simp) ?_
        intro gS wS eS hSrow HSb hSsz
        have HB := below_then HB HSb
        try have hMrow := (HSb.block _ hMlt).trans hMrow
        try have hMlt := Nat.lt_of_lt_of_le hMlt HSb.size
        try have rM := rM.below HSb
        try have rG := rG.below HSb
        try have rL := rL.below HSb
        have rS := rdAt hSrow [UInt8.ofNat s] 1 rfl rfl (by simp [maxLen])
        clear hSrow
        refine hK.out _ _ (HB) ?_
        clear hK
        try simp only [Act.put, List.setIfInBounds_toArray, List.set_cons_zero, List.set_cons_succ]
        refine wpAnyH_seg (by kernel_rfl) (fun _ _ d _ _ h => by cases d <;> exact h) 7 #[true, false, true, true, true, true, true, true, true, false, true, true, true, true, true, true, false, false, false, false, false] [] _ _ _ (by kernel_rfl) (HB) ?_
        refine seg_done (fun _ => ?_)
        refine wpAnyH_two (i := 1) (j := 9) (f := 6) (by kernel_rfl) ?_ ?_
        · skip
          refine op_run rfl (fun K hK => ?_)
          rw [if_pos (by rfl)]
          refine op_mark _ rfl gM 4 4 rfl _ _ hMrow HB hMW ?_
          intro wF HFs HB HFo
          try have rG := rG.same HFs
          try have rL := rL.same HFs
          try have rS := rS.same HFs
          have rM := (rdAt hMrow [80, 72, 83, 66] 4 rfl rfl (by simp [maxLen])).same HFs
          clear hMrow
          refine hK.out _ _ (HB) ?_
          clear hK
          try simp only [Act.put, List.setIfInBounds_toArray, List.set_cons_zero, List.set_cons_succ]
          refine wpAnyH_seg (by kernel_rfl) (fun _ _ d _ _ h => by cases d <;> exact h) 0 #[true, true, true, true, true, true, true, true, true, true, true, true, true, true, true, true, true, true, true, true, true] [(9, false), (16, false), (17, false), (18, false), (19, true), (20, true)] _ _ _ (by kernel_rfl) (HB) ?_
          refine seg_run rfl (fun K hK => ?_)
          go_simp
          refine (le_any l 4 _ (by omega)).mono ?_
          rintro e wL ⟨AL, nL, cL, rfl, oL, HLb⟩
          have HB := below_then HB HLb
          try have hMrow := (HLb.block _ hMlt).trans hMrow
          try have hMlt := Nat.lt_of_lt_of_le hMlt HLb.size
          try have rM := rM.below HLb
          try have rG := rG.below HLb
          try have rS := rS.below HLb
          have rL := oL.rd
          clear oL
          refine hK.out _ _ (HB) ?_
          clear hK
          try simp only [Act.put, List.setIfInBounds_toArray, List.set_cons_zero, List.set_cons_succ]
          refine seg_run rfl (fun K hK => ?_)
          rw [if_pos (by rfl)]
          refine op_lit #[.slice (some ⟨gM, 0, none⟩) 4 4, .slice AG nG cG, .slice AL nL cL, .slice (some ⟨gS, 0, none⟩) 1 1, .slice (some ⟨w.heap.size, 3, none⟩) 32 32] 30 5 rfl (fun w => by go_simp) ?_
          intro gP wP eP hProw HPb hPsz
          have HB := below_then HB HPb
          have rM := rM.below HPb
          have rG := rG.below HPb
          have rL := rL.below HPb
          have rS := rS.below HPb
          have rP := rdsAt hProw
          clear hProw
          refine hK.out _ _ (HB) ?_
          clear hK
          try simp only [Act.put, List.setIfInBounds_toArray, List.set_cons_zero, List.set_cons_succ]
          refine seg_run rfl (fun K hK => ?_)
          go_simp
          have hlen : ([[80, 72, 83, 66], leB g 4, leB l 4, [UInt8.ofNat s], D] : List (List UInt8)).flatten.length = 45 := by simp [leB_length, hD]
          refine (joined13_any _ 5 5 _ [[80, 72, 83, 66], leB g 4, leB l 4, [UInt8.ofNat s], D] _ rP rfl (by omega) ⟨⟨_, _, _, rfl, rM⟩, ⟨_, _, _, rfl, rG⟩, ⟨_, _, _, rfl, rL⟩, ⟨_, _, _, rfl, rS⟩, ⟨_, _, _, rfl, rD.below HB⟩, trivial⟩ (by rw [hlen]; omega)).mono ?_
          rintro e wJ ⟨AJ, nJ, cJ, rfl, oJ, HJb⟩
          have HB := below_then HB HJb
          rw [hlen, suB_flat] at oJ
          clear hlen
          obtain rfl : nJ = 252 := by rw [← oJ.len, suB_len _ _ _ _ hD]
          refine hK.out _ _ (HB) ?_
          clear hK
          try simp only [Act.put, List.setIfInBounds_toArray, List.set_cons_zero, List.set_cons_succ]
          refine seg_run rfl (fun K hK => ?_)
          go_simp
          refine (closed_any AJ 252 cJ _ _ oJ.rd (by omega)).mono ?_
          rintro e wC ⟨AC, nC, cC, rfl, oC, HCb⟩
          have HB0 := HB.size
          have HB := below_then HB HCb
          refine hK.out _ _ (HB) ?_
          clear hK
          try simp only [Act.put, List.setIfInBounds_toArray, List.set_cons_zero, List.set_cons_succ]
          iterate 2 (refine seg_take (v := ?_) rfl (Or.inl ⟨by rfl, ?_⟩) ?_; rotate_left; (focus (intro w' hw'; have j0 := (hw'.cell (p := ⟨w.heap.size, 0, none⟩) hz).trans c0; have j1 := (hw'.cell (p := ⟨w.heap.size, 1, none⟩) hz).trans c1; have j2 := (hw'.cell (p := ⟨w.heap.size, 2, none⟩) hz).trans c2; go_simp <;> with_reducible rfl)); try simp only [Act.put, List.setIfInBounds_toArray, List.set_cons_zero, List.set_cons_succ])
          refine seg_done (fun _ => ?_)
          refine wpAnyH_done (by kernel_rfl) ?_ _
          go_wp2
          go_ret2
          have zz := bW.size
          exact ⟨_, _, _, rfl, OwnB.mono oC (by omega), below_then bW HB⟩
        · skip
          refine op_run rfl (fun K hK => ?_)
          go_simp
          refine (le_any l 4 _ (by omega)).mono ?_
          rintro e wL ⟨AL, nL, cL, rfl, oL, HLb⟩
          have HB := below_then HB HLb
          try have hMrow := (HLb.block _ hMlt).trans hMrow
          try have hMlt := Nat.lt_of_lt_of_le hMlt HLb.size
          try have rM := rM.below HLb
          try have rG := rG.below HLb
          try have rS := rS.below HLb
          have rL := oL.rd
          clear oL
          refine hK.out _ _ (HB) ?_
          clear hK
          try simp only [Act.put, List.setIfInBounds_toArray, List.set_cons_zero, List.set_cons_succ]
          refine wpAnyH_seg (by kernel_rfl) (fun _ _ d _ _ h => by cases d <;> exact h) 0 #[true, true, true, true, true, true, true, true, true, true, true, true, true, true, true, true, true, true, true, true, true] [(1, false), (16, false), (17, false), (18, false), (19, true), (20, true)] _ _ _ (by kernel_rfl) (HB) ?_
          refine seg_run rfl (fun K hK => ?_)
          rw [if_pos (by rfl)]
          refine op_mark _ rfl gM 4 4 rfl _ _ hMrow HB hMW ?_
          intro wF HFs HB HFo
          try have rG := rG.same HFs
          try have rL := rL.same HFs
          try have rS := rS.same HFs
          have rM := (rdAt hMrow [80, 72, 83, 66] 4 rfl rfl (by simp [maxLen])).same HFs
          clear hMrow
          refine hK.out _ _ (HB) ?_
          clear hK
          try simp only [Act.put, List.setIfInBounds_toArray, List.set_cons_zero, List.set_cons_succ]
          refine seg_run rfl (fun K hK => ?_)
          rw [if_pos (by rfl)]
          refine op_lit #[.slice (some ⟨gM, 0, none⟩) 4 4, .slice AG nG cG, .slice AL nL cL, .slice (some ⟨gS, 0, none⟩) 1 1, .slice (some ⟨w.heap.size, 3, none⟩) 32 32] 30 5 rfl (fun w => by go_simp) ?_
          intro gP wP eP hProw HPb hPsz
          have HB := below_then HB HPb
          have rM := rM.below HPb
          have rG := rG.below HPb
          have rL := rL.below HPb
          have rS := rS.below HPb
          have rP := rdsAt hProw
          clear hProw
          refine hK.out _ _ (HB) ?_
          clear hK
          try simp only [Act.put, List.setIfInBounds_toArray, List.set_cons_zero, List.set_cons_succ]
          refine seg_run rfl (fun K hK => ?_)
          go_simp
          have hlen : ([[80, 72, 83, 66], leB g 4, leB l 4, [UInt8.ofNat s], D] : List (List UInt8)).flatten.length = 45 := by simp [leB_length, hD]
          refine (joined13_any _ 5 5 _ [[80, 72, 83, 66], leB g 4, leB l 4, [UInt8.ofNat s], D] _ rP rfl (by omega) ⟨⟨_, _, _, rfl, rM⟩, ⟨_, _, _, rfl, rG⟩, ⟨_, _, _, rfl, rL⟩, ⟨_, _, _, rfl, rS⟩, ⟨_, _, _, rfl, rD.below HB⟩, trivial⟩ (by rw [hlen]; omega)).mono ?_
          rintro e wJ ⟨AJ, nJ, cJ, rfl, oJ, HJb⟩
          have HB := below_then HB HJb
          rw [hlen, suB_flat] at oJ
          clear hlen
          obtain rfl : nJ = 252 := by rw [← oJ.len, suB_len _ _ _ _ hD]
          refine hK.out _ _ (HB) ?_
          clear hK
          try simp only [Act.put, List.setIfInBounds_toArray, List.set_cons_zero, List.set_cons_succ]
          refine seg_run rfl (fun K hK => ?_)
          go_simp
          refine (closed_any AJ 252 cJ _ _ oJ.rd (by omega)).mono ?_
          rintro e wC ⟨AC, nC, cC, rfl, oC, HCb⟩
          have HB0 := HB.size
          have HB := below_then HB HCb
          refine hK.out _ _ (HB) ?_
          clear hK
          try simp only [Act.put, List.setIfInBounds_toArray, List.set_cons_zero, List.set_cons_succ]
          iterate 2 (refine seg_take (v := ?_) rfl (Or.inl ⟨by rfl, ?_⟩) ?_; rotate_left; (focus (intro w' hw'; have j0 := (hw'.cell (p := ⟨w.heap.size, 0, none⟩) hz).trans c0; have j1 := (hw'.cell (p := ⟨w.heap.size, 1, none⟩) hz).trans c1; have j2 := (hw'.cell (p := ⟨w.heap.size, 2, none⟩) hz).trans c2; go_simp <;> with_reducible rfl)); try simp only [Act.put, List.setIfInBounds_toArray, List.set_cons_zero, List.set_cons_succ])
          refine seg_done (fun _ => ?_)
          refine wpAnyH_done (by kernel_rfl) ?_ _
          go_wp2
          go_ret2
          have zz := bW.size
          exact ⟨_, _, _, rfl, OwnB.mono oC (by omega), below_then bW HB⟩
    · skip
      refine op_run rfl (fun K hK => ?_)
      rw [if_pos (by rfl)]
      refine op_lit #[.int .u8 (((UInt8.ofNat s).toNat : Nat) : Int)] 5 1 rfl (fun w => by go_simp) ?_
      intro gS wS eS hSrow HSb hSsz
      have HB := below_then HB HSb
      try have hMrow := (HSb.block _ hMlt).trans hMrow
      try have hMlt := Nat.lt_of_lt_of_le hMlt HSb.size
      try have rM := rM.below HSb
      try have rG := rG.below HSb
      try have rL := rL.below HSb
      have rS := rdAt hSrow [UInt8.ofNat s] 1 rfl rfl (by simp [maxLen])
      clear hSrow
      refine hK.out _ _ (HB) ?_
      clear hK
      try simp only [Act.put, List.setIfInBounds_toArray, List.set_cons_zero, List.set_cons_succ]
      refine wpAnyH_seg (by kernel_rfl) (fun _ _ d _ _ h => by cases d <;> exact h) 8 #[true, false, true, true, true, false, true, true, true, false, true, true, true, true, true, true, false, false, false, false, false] [] _ _ _ (by kernel_rfl) (HB) ?_
      refine seg_done (fun _ => ?_)
      refine wpAnyH_two (i := 1) (j := 5) (f := 7) (by kernel_rfl) ?_ ?_
      · skip
        refine op_run rfl (fun K hK => ?_)
        rw [if_pos (by rfl)]
        refine op_mark _ rfl gM 4 4 rfl _ _ hMrow HB hMW ?_
        intro wF HFs HB HFo
        try have rG := rG.same HFs
        try have rL := rL.same HFs
        try have rS := rS.same HFs
        have rM := (rdAt hMrow [80, 72, 83, 66] 4 rfl rfl (by simp [maxLen])).same HFs
        clear hMrow
        refine hK.out _ _ (HB) ?_
        clear hK
        try simp only [Act.put, List.setIfInBounds_toArray, List.set_cons_zero, List.set_cons_succ]
        refine wpAnyH_seg (by kernel_rfl) (fun _ _ d _ _ h => by cases d <;> exact h) 0 #[true, true, true, true, true, true, true, true, true, true, true, true, true, true, true, true, true, true, true, true, true] [(5, false), (9, false), (16, false), (17, false), (18, false), (19, true), (20, true)] _ _ _ (by kernel_rfl) (HB) ?_
        refine seg_run rfl (fun K hK => ?_)
        go_simp
        refine (le_any g 4 _ (by omega)).mono ?_
        rintro e wG ⟨AG, nG, cG, rfl, oG, HGb⟩
        have HB := below_then HB HGb
        try have hMrow := (HGb.block _ hMlt).trans hMrow
        try have hMlt := Nat.lt_of_lt_of_le hMlt HGb.size
        try have rM := rM.below HGb
        try have rS := rS.below HGb
        have rG := oG.rd
        clear oG
        refine hK.out _ _ (HB) ?_
        clear hK
        try simp only [Act.put, List.setIfInBounds_toArray, List.set_cons_zero, List.set_cons_succ]
        refine seg_run rfl (fun K hK => ?_)
        go_simp
        refine (le_any l 4 _ (by omega)).mono ?_
        rintro e wL ⟨AL, nL, cL, rfl, oL, HLb⟩
        have HB := below_then HB HLb
        try have hMrow := (HLb.block _ hMlt).trans hMrow
        try have hMlt := Nat.lt_of_lt_of_le hMlt HLb.size
        try have rM := rM.below HLb
        try have rG := rG.below HLb
        try have rS := rS.below HLb
        have rL := oL.rd
        clear oL
        refine hK.out _ _ (HB) ?_
        clear hK
        try simp only [Act.put, List.setIfInBounds_toArray, List.set_cons_zero, List.set_cons_succ]
        refine seg_run rfl (fun K hK => ?_)
        rw [if_pos (by rfl)]
        refine op_lit #[.slice (some ⟨gM, 0, none⟩) 4 4, .slice AG nG cG, .slice AL nL cL, .slice (some ⟨gS, 0, none⟩) 1 1, .slice (some ⟨w.heap.size, 3, none⟩) 32 32] 30 5 rfl (fun w => by go_simp) ?_
        intro gP wP eP hProw HPb hPsz
        have HB := below_then HB HPb
        have rM := rM.below HPb
        have rG := rG.below HPb
        have rL := rL.below HPb
        have rS := rS.below HPb
        have rP := rdsAt hProw
        clear hProw
        refine hK.out _ _ (HB) ?_
        clear hK
        try simp only [Act.put, List.setIfInBounds_toArray, List.set_cons_zero, List.set_cons_succ]
        refine seg_run rfl (fun K hK => ?_)
        go_simp
        have hlen : ([[80, 72, 83, 66], leB g 4, leB l 4, [UInt8.ofNat s], D] : List (List UInt8)).flatten.length = 45 := by simp [leB_length, hD]
        refine (joined13_any _ 5 5 _ [[80, 72, 83, 66], leB g 4, leB l 4, [UInt8.ofNat s], D] _ rP rfl (by omega) ⟨⟨_, _, _, rfl, rM⟩, ⟨_, _, _, rfl, rG⟩, ⟨_, _, _, rfl, rL⟩, ⟨_, _, _, rfl, rS⟩, ⟨_, _, _, rfl, rD.below HB⟩, trivial⟩ (by rw [hlen]; omega)).mono ?_
        rintro e wJ ⟨AJ, nJ, cJ, rfl, oJ, HJb⟩
        have HB := below_then HB HJb
        rw [hlen, suB_flat] at oJ
        clear hlen
        obtain rfl : nJ = 252 := by rw [← oJ.len, suB_len _ _ _ _ hD]
        refine hK.out _ _ (HB) ?_
        clear hK
        try simp only [Act.put, List.setIfInBounds_toArray, List.set_cons_zero, List.set_cons_succ]
        refine seg_run rfl (fun K hK => ?_)
        go_simp
        refine (closed_any AJ 252 cJ _ _ oJ.rd (by omega)).mono ?_
        rintro e wC ⟨AC, nC, cC, rfl, oC, HCb⟩
        have HB0 := HB.size
        have HB := below_then HB HCb
        refine hK.out _ _ (HB) ?_
        clear hK
        try simp only [Act.put, List.setIfInBounds_toArray, List.set_cons_zero, List.set_cons_succ]
        iterate 2 (refine seg_take (v := ?_) rfl (Or.inl ⟨by rfl, ?_⟩) ?_; rotate_left; (focus (intro w' hw'; have j0 := (hw'.cell (p := ⟨w.heap.size, 0, none⟩) hz).trans c0; have j1 := (hw'.cell (p := ⟨w.heap.size, 1, none⟩) hz).trans c1; have j2 := (hw'.cell (p := ⟨w.heap.size, 2, none⟩) hz).trans c2; go_simp <;> with_reducible rfl)); try simp only [Act.put, List.setIfInBounds_toArray, List.set_cons_zero, List.set_cons_succ])
        refine seg_done (fun _ => ?_)
        refine wpAnyH_done (by kernel_rfl) ?_ _
        go_wp2
        go_ret2
        have zz := bW.size
        exact ⟨_, _, _, rfl, OwnB.mono oC (by omega), below_then bW HB⟩
      · skip
        refine op_run rfl (fun K hK => ?_)
        go_simp
        refine (le_any g 4 _ (by omega)).mono ?_
        rintro e wG ⟨AG, nG, cG, rfl, oG, HGb⟩
        have HB := below_then HB HGb
        try have hMrow := (HGb.block _ hMlt).trans hMrow
        try have hMlt := Nat.lt_of_lt_of_le hMlt HGb.size
        try have rM := rM.below HGb
        try have rS := rS.below HGb
        have rG := oG.rd
        clear oG
        refine hK.out _ _ (HB) ?_
        clear hK
        try simp only [Act.put, List.setIfInBounds_toArray, List.set_cons_zero, List.set_cons_succ]
        refine wpAnyH_seg (by kernel_rfl) (fun _ _ d _ _ h => by cases d <;> exact h) 7 #[true, false, true, true, true, true, true, true, true, false, true, true, true, true, true, true, false, false, false, false, false] [] _ _ _ (by kernel_rfl) (HB) ?_
        refine seg_done (fun _ => ?_)
        refine wpAnyH_two (i := 1) (j := 9) (f := 6) (by kernel_rfl) ?_ ?_
        · skip
          refine op_run rfl (fun K hK => ?_)
          rw [if_pos (by rfl)]
          refine op_mark _ rfl gM 4 4 rfl _ _ hMrow HB hMW ?_
          intro wF HFs HB HFo
          try have rG := rG.same HFs
          try have rL := rL.same HFs
          try have rS := rS.same HFs
          have rM := (rdAt hMrow [80, 72, 83, 66] 4 rfl rfl (by simp [maxLen])).same HFs
          clear hMrow
          refine hK.out _ _ (HB) ?_
          clear hK
          try simp only [Act.put, List.setIfInBounds_toArray, List.set_cons_zero, List.set_cons_succ]
          refine wpAnyH_seg (by kernel_rfl) (fun _ _ d _ _ h => by cases d <;> exact h) 0 #[true, true, true, true, true, true, true, true, true, true, true, true, true, true, true, true, true, true, true, true, true] [(9, false), (16, false), (17, false), (18, false), (19, true), (20, true)] _ _ _ (by kernel_rfl) (HB) ?_
          refine seg_run rfl (fun K hK => ?_)
          go_simp
          refine (le_any l 4 _ (by omega)).mono ?_
          rintro e wL ⟨AL, nL, cL, rfl, oL, HLb⟩
          have HB := below_then HB HLb
          try have hMrow := (HLb.block _ hMlt).trans hMrow
          try have hMlt := Nat.lt_of_lt_of_le hMlt HLb.size
          try have rM := rM.below HLb
          try have rG := rG.below HLb
          try have rS := rS.below HLb
          have rL := oL.rd
          clear oL
          refine hK.out _ _ (HB) ?_
          clear hK
          try simp only [Act.put, List.setIfInBounds_toArray, List.set_cons_zero, List.set_cons_succ]
          refine seg_run rfl (fun K hK => ?_)
          rw [if_pos (by rfl)]
          refine op_lit #[.slice (some ⟨gM, 0, none⟩) 4 4, .slice AG nG cG, .slice AL nL cL, .slice (some ⟨gS, 0, none⟩) 1 1, .slice (some ⟨w.heap.size, 3, none⟩) 32 32] 30 5 rfl (fun w => by go_simp) ?_
          intro gP wP eP hProw HPb hPsz
          have HB := below_then HB HPb
          have rM := rM.below HPb
          have rG := rG.below HPb
          have rL := rL.below HPb
          have rS := rS.below HPb
          have rP := rdsAt hProw
          clear hProw
          refine hK.out _ _ (HB) ?_
          clear hK
          try simp only [Act.put, List.setIfInBounds_toArray, List.set_cons_zero, List.set_cons_succ]
          refine seg_run rfl (fun K hK => ?_)
          go_simp
          have hlen : ([[80, 72, 83, 66], leB g 4, leB l 4, [UInt8.ofNat s], D] : List (List UInt8)).flatten.length = 45 := by simp [leB_length, hD]
          refine (joined13_any _ 5 5 _ [[80, 72, 83, 66], leB g 4, leB l 4, [UInt8.ofNat s], D] _ rP rfl (by omega) ⟨⟨_, _, _, rfl, rM⟩, ⟨_, _, _, rfl, rG⟩, ⟨_, _, _, rfl, rL⟩, ⟨_, _, _, rfl, rS⟩, ⟨_, _, _, rfl, rD.below HB⟩, trivial⟩ (by rw [hlen]; omega)).mono ?_
          rintro e wJ ⟨AJ, nJ, cJ, rfl, oJ, HJb⟩
          have HB := below_then HB HJb
          rw [hlen, suB_flat] at oJ
          clear hlen
          obtain rfl : nJ = 252 := by rw [← oJ.len, suB_len _ _ _ _ hD]
          refine hK.out _ _ (HB) ?_
          clear hK
          try simp only [Act.put, List.setIfInBounds_toArray, List.set_cons_zero, List.set_cons_succ]
          refine seg_run rfl (fun K hK => ?_)
          go_simp
          refine (closed_any AJ 252 cJ _ _ oJ.rd (by omega)).mono ?_
          rintro e wC ⟨AC, nC, cC, rfl, oC, HCb⟩
          have HB0 := HB.size
          have HB := below_then HB HCb
          refine hK.out _ _ (HB) ?_
          clear hK
          try simp only [Act.put, List.setIfInBounds_toArray, List.set_cons_zero, List.set_cons_succ]
          iterate 2 (refine seg_take (v := ?_) rfl (Or.inl ⟨by rfl, ?_⟩) ?_; rotate_left; (focus (intro w' hw'; have j0 := (hw'.cell (p := ⟨w.heap.size, 0, none⟩) hz).trans c0; have j1 := (hw'.cell (p := ⟨w.heap.size, 1, none⟩) hz).trans c1; have j2 := (hw'.cell (p := ⟨w.heap.size, 2, none⟩) hz).trans c2; go_simp <;> with_reducible rfl)); try simp only [Act.put, List.setIfInBounds_toArray, List.set_cons_zero, List.set_cons_succ])
          refine seg_done (fun _ => ?_)
          refine wpAnyH_done (by kernel_rfl) ?_ _
          go_wp2
          go_ret2
          have zz := bW.size
          exact ⟨_, _, _, rfl, OwnB.mono oC (by omega), below_then bW HB⟩
        · skip
          refine op_run rfl (fun K hK => ?_)
          go_simp
          refine (le_any l 4 _ (by omega)).mono ?_
          rintro e wL ⟨AL, nL, cL, rfl, oL, HLb⟩
          have HB := below_then HB HLb
          try have hMrow := (HLb.block _ hMlt).trans hMrow
          try have hMlt := Nat.lt_of_lt_of_le hMlt HLb.size
          try have rM := rM.below HLb
          try have rG := rG.below HLb
          try have rS := rS.below HLb
          have rL := oL.rd
          clear oL
          refine hK.out _ _ (HB) ?_
          clear hK
          try simp only [Act.put, List.setIfInBounds_toArray, List.set_cons_zero, List.set_cons_succ]
          refine wpAnyH_seg (by kernel_rfl) (fun _ _ d _ _ h => by cases d <;> exact h) 0 #[true, true, true, true, true, true, true, true, true, true, true, true, true, true, true, true, true, true, true, true, true] [(1, false), (16, false), (17, false), (18, false), (19, true), (20, true)] _ _ _ (by kernel_rfl) (HB) ?_
          refine seg_run rfl (fun K hK => ?_)
          rw [if_pos (by rfl)]
          refine op_mark _ rfl gM 4 4 rfl _ _ hMrow HB hMW ?_
          intro wF HFs HB HFo
          try have rG := rG.same HFs
          try have rL := rL.same HFs
          try have rS := rS.same HFs
          have rM := (rdAt hMrow [80, 72, 83, 66] 4 rfl rfl (by simp [maxLen])).same HFs
          clear hMrow
          refine hK.out _ _ (HB) ?_
          clear hK
          try simp only [Act.put, List.setIfInBounds_toArray, List.set_cons_zero, List.set_cons_succ]
          refine seg_run rfl (fun K hK => ?_)
          rw [if_pos (by rfl)]
          refine op_lit #[.slice (some ⟨gM, 0, none⟩) 4 4, .slice AG nG cG, .slice AL nL cL, .slice (some ⟨gS, 0, none⟩) 1 1, .slice (some ⟨w.heap.size, 3, none⟩) 32 32] 30 5 rfl (fun w => by go_simp) ?_
          intro gP wP eP hProw HPb hPsz
          have HB := below_then HB HPb
          have rM := rM.below HPb
          have rG := rG.below HPb
          have rL := rL.below HPb
          have rS := rS.below HPb
          have rP := rdsAt hProw
          clear hProw
          refine hK.out _ _ (HB) ?_
          clear hK
          try simp only [Act.put, List.setIfInBounds_toArray, List.set_cons_zero, List.set_cons_succ]
          refine seg_run rfl (fun K hK => ?_)
          go_simp
          have hlen : ([[80, 72, 83, 66], leB g 4, leB l 4, [UInt8.ofNat s], D] : List (List UInt8)).flatten.length = 45 := by simp [leB_length, hD]
          refine (joined13_any _ 5 5 _ [[80, 72, 83, 66], leB g 4, leB l 4, [UInt8.ofNat s], D] _ rP rfl (by omega) ⟨⟨_, _, _, rfl, rM⟩, ⟨_, _, _, rfl, rG⟩, ⟨_, _, _, rfl, rL⟩, ⟨_, _, _, rfl, rS⟩, ⟨_, _, _, rfl, rD.below HB⟩, trivial⟩ (by rw [hlen]; omega)).mono ?_
          rintro e wJ ⟨AJ, nJ, cJ, rfl, oJ, HJb⟩
          have HB := below_then HB HJb
          rw [hlen, suB_flat] at oJ
          clear hlen
          obtain rfl : nJ = 252 := by rw [← oJ.len, suB_len _ _ _ _ hD]
          refine hK.out _ _ (HB) ?_
          clear hK
          try simp only [Act.put, List.setIfInBounds_toArray, List.set_cons_zero, List.set_cons_succ]
          refine seg_run rfl (fun K hK => ?_)
          go_simp
          refine (closed_any AJ 252 cJ _ _ oJ.rd (by omega)).mono ?_
          rintro e wC ⟨AC, nC, cC, rfl, oC, HCb⟩
          have HB0 := HB.size
          have HB := below_then HB HCb
          refine hK.out _ _ (HB) ?_
          clear hK
          try simp only [Act.put, List.setIfInBounds_toArray, List.set_cons_zero, List.set_cons_succ]
          iterate 2 (refine seg_take (v := ?_) rfl (Or.inl ⟨by rfl, ?_⟩) ?_; rotate_left; (focus (intro w' hw'; have j0 := (hw'.cell (p := ⟨w.heap.size, 0, none⟩) hz).trans c0; have j1 := (hw'.cell (p := ⟨w.heap.size, 1, none⟩) hz).trans c1; have j2 := (hw'.cell (p := ⟨w.heap.size, 2, none⟩) hz).trans c2; go_simp <;> with_reducible rfl)); try simp only [Act.put, List.setIfInBounds_toArray, List.set_cons_zero, List.set_cons_succ])
          refine seg_done (fun _ => ?_)
          refine wpAnyH_done (by kernel_rfl) ?_ _
          go_wp2
          go_ret2
          have zz := bW.size
          exact ⟨_, _, _, rfl, OwnB.mono oC (by omega), below_then bW HB⟩
  · skip
    refine op_run rfl (fun K hK => ?_)
    go_simp
    refine (le_any g 4 _ (by omega)).mono ?_
    rintro e wG ⟨AG, nG, cG, rfl, oG, HGb⟩
    have HB := below_then HB HGb
    try have hMrow := (HGb.block _ hMlt).trans hMrow
    try have hMlt := Nat.lt_of_lt_of_le hMlt HGb.size
    try have rM := rM.below HGb
    try have rS := rS.below HGb
    have rG := oG.rd
    clear oG
    refine hK.out _ _ (HB) ?_
    clear hK
    try simp only [Act.put, List.setIfInBounds_toArray, List.set_cons_zero, List.set_cons_succ]
    refine wpAnyH_seg (by kernel_rfl) (fun _ _ d _ _ h => by cases d <;> exact h) 9 #[false, false, true, true, true, true, true, true, true, false, true, true, true, false, true, true, false, false, false, false, false] [] _ _ _ (by kernel_rfl) (HB) ?_
    refine seg_done (fun _ => ?_)
    refine wpAnyH_three (i := 0) (j := 9) (k := 13) (f := 8) (by kernel_rfl) ?_ ?_ ?_
    · skip
      refine op_run rfl (fun K hK => ?_)
      rw [if_pos (by rfl)]
      refine op_lit #[.int .u8 80, .int .u8 72, .int .u8 83, .int .u8 66] 5 4 rfl (fun w => by go_simp) ?_
      intro gM wM eM hMrow HMb hMsz
      have hMle0 := HB.size
      have HB := below_then HB HMb
      try have rG := rG.below HMb
      try have rL := rL.below HMb
      try have rS := rS.below HMb
      have hMW : W.heap.size ≤ gM := by rw [← eM]; exact Nat.le_trans hMle0 (Nat.le_refl _)
      have hMlt : gM < wM.heap.size := by rw [hMsz]; exact Nat.lt_succ_self _
      refine hK.out _ _ (HB) ?_
      clear hK
      try simp only [Act.put, List.setIfInBounds_toArray, List.set_cons_zero, List.set_cons_succ]
      refine wpAnyH_seg (by kernel_rfl) (fun _ _ d _ _ h => by cases d <;> exact h) 8 #[true, false, true, true, true, true, true, true, true, false, true, true, true, false, true, true, false, false, false, false, false] [] _ _ _ (by kernel_rfl) (HB) ?_
      refine seg_done (fun _ => ?_)
      refine wpAnyH_three (i := 1) (j := 9) (k := 13) (f := 7) (by kernel_rfl) ?_ ?_ ?_
      · skip
        refine op_run rfl (fun K hK => ?_)
        rw [if_pos (by rfl)]
        refine op_mark _ rfl gM 4 4 rfl _ _ hMrow HB hMW ?_
        intro wF HFs HB HFo
        try have rG := rG.same HFs
        try have rL := rL.same HFs
        try have rS := rS.same HFs
        have rM := (rdAt hMrow [80, 72, 83, 66] 4 rfl rfl (by simp [maxLen])).same HFs
        clear hMrow
        refine hK.out _ _ (HB) ?_
        clear hK
        try simp only [Act.put, List.setIfInBounds_toArray, List.set_cons_zero, List.set_cons_succ]
        refine wpAnyH_seg (by kernel_rfl) (fun _ _ d _ _ h => by cases d <;> exact h) 7 #[true, true, true, true, true, true, true, true, true, false, true, true, true, false, true, true, false, false, false, false, false] [] _ _ _ (by kernel_rfl) (HB) ?_
        refine seg_done (fun _ => ?_)
        refine wpAnyH_two (i := 9) (j := 13) (f := 6) (by kernel_rfl) ?_ ?_
        · skip
          refine op_run rfl (fun K hK => ?_)
          go_simp
          refine (le_any l 4 _ (by omega)).mono ?_
          rintro e wL ⟨AL, nL, cL, rfl, oL, HLb⟩
          have HB := below_then HB HLb
          try have hMrow := (HLb.block _ hMlt).trans hMrow
          try have hMlt := Nat.lt_of_lt_of_le hMlt HLb.size
          try have rM := rM.below HLb
          try have rG := rG.below HLb
          try have rS := rS.below HLb
          have rL := oL.rd
          clear oL
          refine hK.out _ _ (HB) ?_
          clear hK
          try simp only [Act.put, List.setIfInBounds_toArray, List.set_cons_zero, List.set_cons_succ]
          refine wpAnyH_seg (by kernel_rfl) (fun _ _ d _ _ h => by cases d <;> exact h) 0 #[true, true, true, true, true, true, true, true, true, true, true, true, true, true, true, true, true, true, true, true, true] [(13, false), (16, false), (17, false), (18, false), (19, true), (20, true)] _ _ _ (by kernel_rfl) (HB) ?_
          refine seg_run rfl (fun K hK => ?_)
          rw [if_pos (by rfl)]
          refine op_lit #[.int .u8 (((UInt8.ofNat s).toNat : Nat) : Int)] 5 1 rfl (fun w => by go_simp) ?_
          intro gS wS eS hSrow HSb hSsz
          have HB := below_then HB HSb
          try have hMrow := (HSb.block _ hMlt).trans hMrow
          try have hMlt := Nat.lt_of_lt_of_le hMlt HSb.size
          try have rM := rM.below HSb
          try have rG := rG.below HSb
          try have rL := rL.below HSb
          have rS := rdAt hSrow [UInt8.ofNat s] 1 rfl rfl (by simp [maxLen])
          clear hSrow
          refine hK.out _ _ (HB) ?_
          clear hK
          try simp only [Act.put, List.setIfInBounds_toArray, List.set_cons_zero, List.set_cons_succ]
          refine seg_run rfl (fun K hK => ?_)
          rw [if_pos (by rfl)]
          refine op_lit #[.slice (some ⟨gM, 0, none⟩) 4 4, .slice AG nG cG, .slice AL nL cL, .slice (some ⟨gS, 0, none⟩) 1 1, .slice (some ⟨w.heap.size, 3, none⟩) 32 32] 30 5 rfl (fun w => by go_simp) ?_
          intro gP wP eP hProw HPb hPsz
          have HB := below_then HB HPb
          have rM := rM.below HPb
          have rG := rG.below HPb
          have rL := rL.below HPb
          have rS := rS.below HPb
          have rP := rdsAt hProw
          clear hProw
          refine hK.out _ _ (HB) ?_
          clear hK
          try simp only [Act.put, List.setIfInBounds_toArray, List.set_cons_zero, List.set_cons_succ]
          refine seg_run rfl (fun K hK => ?_)
          go_simp
          have hlen : ([[80, 72, 83, 66], leB g 4, leB l 4, [UInt8.ofNat s], D] : List (List UInt8)).flatten.length = 45 := by simp [leB_length, hD]
          refine (joined13_any _ 5 5 _ [[80, 72, 83, 66], leB g 4, leB l 4, [UInt8.ofNat s], D] _ rP rfl (by omega) ⟨⟨_, _, _, rfl, rM⟩, ⟨_, _, _, rfl, rG⟩, ⟨_, _, _, rfl, rL⟩, ⟨_, _, _, rfl, rS⟩, ⟨_, _, _, rfl, rD.below HB⟩, trivial⟩ (by rw [hlen]; omega)).mono ?_
          rintro e wJ ⟨AJ, nJ, cJ, rfl, oJ, HJb⟩
          have HB := below_then HB HJb
          rw [hlen, suB_flat] at oJ
          clear hlen
          obtain rfl : nJ = 252 := by rw [← oJ.len, suB_len _ _ _ _ hD]
          refine hK.out _ _ (HB) ?_
          clear hK
          try simp only [Act.put, List.setIfInBounds_toArray, List.set_cons_zero, List.set_cons_succ]
          refine seg_run rfl (fun K hK => ?_)
          go_simp
          refine (closed_any AJ 252 cJ _ _ oJ.rd (by omega)).mono ?_
          rintro e wC ⟨AC, nC, cC, rfl, oC, HCb⟩
          have HB0 := HB.size
          have HB := below_then HB HCb
          refine hK.out _ _ (HB) ?_
          clear hK
          try simp only [Act.put, List.setIfInBounds_toArray, List.set_cons_zero, List.set_cons_succ]
          iterate 2 (refine seg_take (v := ?_) rfl (Or.inl ⟨by rfl, ?_⟩) ?_; rotate_left; (focus (intro w' hw'; have j0 := (hw'.cell (p := ⟨w.heap.size, 0, none⟩) hz).trans c0; have j1 := (hw'.cell (p := ⟨w.heap.size, 1, none⟩) hz).trans c1; have j2 := (hw'.cell (p := ⟨w.heap.size, 2, none⟩) hz).trans c2; go_simp <;> with_reducible rfl)); try simp only [Act.put, List.setIfInBounds_toArray, List.set_cons_zero, List.set_cons_succ])
          refine seg_done (fun _ => ?_)
          refine wpAnyH_done (by kernel_rfl) ?_ _
          go_wp2
          go_ret2
          have zz := bW.size
          exact ⟨_, _, _, rfl, OwnB.mono oC (by omega), below_then bW HB⟩
        · skip
          refine op_run rfl (fun K hK => ?_)
          rw [if_pos (by rfl)]
          refine op_lit #[.int .u8 (((UInt8.ofNat s).toNat : Nat) : Int)] 5 1 rfl (fun w => by go_simp) ?_
          intro gS wS eS hSrow HSb hSsz
          have HB := below_then HB HSb
          try have hMrow := (HSb.block _ hMlt).trans hMrow
          try have hMlt := Nat.lt_of_lt_of_le hMlt HSb.size
          try have rM := rM.below HSb
          try have rG := rG.below HSb
          try have rL := rL.below HSb
          have rS := rdAt hSrow [UInt8.ofNat s] 1 rfl rfl (by simp [maxLen])
          clear hSrow
          refine hK.out _ _ (HB) ?_
          clear hK
          try simp only [Act.put, List.setIfInBounds_toArray, List.set_cons_zero, List.set_cons_succ]
          refine wpAnyH_seg (by kernel_rfl) (fun _ _ d _ _ h => by cases d <;> exact h) 0 #[true, true, true, true, true, true, true, true, true, true, true, true, true, true, true, true, true, true, true, true, true] [(9, false), (16, false), (17, false), (18, false), (19, true), (20, true)] _ _ _ (by kernel_rfl) (HB) ?_
          refine seg_run rfl (fun K hK => ?_)
          go_simp
          refine (le_any l 4 _ (by omega)).mono ?_
          rintro e wL ⟨AL, nL, cL, rfl, oL, HLb⟩
          have HB := below_then HB HLb
          try have hMrow := (HLb.block _ hMlt).trans hMrow
          try have hMlt := Nat.lt_of_lt_of_le hMlt HLb.size
          try have rM := rM.below HLb
          try have rG := rG.below HLb
          try have rS := rS.below HLb
          have rL := oL.rd
          clear oL
          refine hK.out _ _ (HB) ?_
          clear hK
          try simp only [Act.put, List.setIfInBounds_toArray, List.set_cons_zero, List.set_cons_succ]
          refine seg_run rfl (fun K hK => ?_)
          rw [if_pos (by rfl)]
          refine op_lit #[.slice (some ⟨gM, 0, none⟩) 4 4, .slice AG nG cG, .slice AL nL cL, .slice (some ⟨gS, 0, none⟩) 1 1, .slice (some ⟨w.heap.size, 3, none⟩) 32 32] 30 5 rfl (fun w => by go_simp) ?_
          intro gP wP eP hProw HPb hPsz
          have HB := below_then HB HPb
          have rM := rM.below HPb
          have rG := rG.below HPb
          have rL := rL.below HPb
          have rS := rS.below HPb
          have rP := rdsAt hProw
          clear hProw
          refine hK.out _ _ (HB) ?_
          clear hK
          try simp only [Act.put, List.setIfInBounds_toArray, List.set_cons_zero, List.set_cons_succ]
          refine seg_run rfl (fun K hK => ?_)
          go_simp
          have hlen : ([[80, 72, 83, 66], leB g 4, leB l 4, [UInt8.ofNat s], D] : List (List UInt8)).flatten.length = 45 := by simp [leB_length, hD]
          refine (joined13_any _ 5 5 _ [[80, 72, 83, 66], leB g 4, leB l 4, [UInt8.ofNat s], D] _ rP rfl (by omega) ⟨⟨_, _, _, rfl, rM⟩, ⟨_, _, _, rfl, rG⟩, ⟨_, _, _, rfl, rL⟩, ⟨_, _, _, rfl, rS⟩, ⟨_, _, _, rfl, rD.below HB⟩, trivial⟩ (by rw [hlen]; omega)).mono ?_
          rintro e wJ ⟨AJ, nJ, cJ, rfl, oJ, HJb⟩
          have HB := below_then HB HJb
          rw [hlen, suB_flat] at oJ
          clear hlen
          obtain rfl : nJ = 252 := by rw [← oJ.len, suB_len _ _ _ _ hD]
          refine hK.out _ _ (HB) ?_
          clear hK
          try simp only [Act.put, List.setIfInBounds_toArray, List.set_cons_zero, List.set_cons_succ]
          refine seg_run rfl (fun K hK => ?_)
          go_simp
          refine (closed_any AJ 252 cJ _ _ oJ.rd (by omega)).mono ?_
          rintro e wC ⟨AC, nC, cC, rfl, oC, HCb⟩
          have HB0 := HB.size
          have HB := below_then HB HCb
          refine hK.out _ _ (HB) ?_
          clear hK
          try simp only [Act.put, List.setIfInBounds_toArray, List.set_cons_zero, List.set_cons_succ]
          iterate 2 (refine seg_take (v := ?_) rfl (Or.inl ⟨by rfl, ?_⟩) ?_; rotate_left; (focus (intro w' hw'; have j0 := (hw'.cell (p := ⟨w.heap.size, 0, none⟩) hz).trans c0; have j1 := (hw'.cell (p := ⟨w.heap.size, 1, none⟩) hz).trans c1; have j2 := (hw'.cell (p := ⟨w.heap.size, 2, none⟩) hz).trans c2; go_simp <;> with_reducible rfl)); try simp only [Act.put, List.setIfInBounds_toArray, List.set_cons_zero, List.set_cons_succ])
          refine seg_done (fun _ => ?_)
          refine wpAnyH_done (by kernel_rfl) ?_ _
          go_wp2
          go_ret2
          have zz := bW.size
          exact ⟨_, _, _, rfl, OwnB.mono oC (by omega), below_then bW HB⟩
      · skip
        refine op_run rfl (fun K hK => ?_)
        go_simp
        refine (le_any l 4 _ (by omega)).mono ?_
        rintro e wL ⟨AL, nL, cL, rfl, oL, HLb⟩
        have HB := below_then HB HLb
        try have hMrow := (HLb.block _ hMlt).trans hMrow
        try have hMlt := Nat.lt_of_lt_of_le hMlt HLb.size
        try have rM := rM.below HLb
        try have rG := rG.below HLb
        try have rS := rS.below HLb
        have rL := oL.rd
        clear oL
        refine hK.out _ _ (HB) ?_
        clear hK
        try simp only [Act.put, List.setIfInBounds_toArray, List.set_cons_zero, List.set_cons_succ]
        refine wpAnyH_seg (by kernel_rfl) (fun _ _ d _ _ h => by cases d <;> exact h) 7 #[true, false, true, true, true, true, true, true, true, true, true, true, true, false, true, true, false, false, false, false, false] [] _ _ _ (by kernel_rfl) (HB) ?_
        refine seg_done (fun _ => ?_)
        refine wpAnyH_two (i := 1) (j := 13) (f := 6) (by kernel_rfl) ?_ ?_
        · skip
          refine op_run rfl (fun K hK => ?_)
          rw [if_pos (by rfl)]
          refine op_mark _ rfl gM 4 4 rfl _ _ hMrow HB hMW ?_
          intro wF HFs HB HFo
          try have rG := rG.same HFs
          try have rL := rL.same HFs
          try have rS := rS.same HFs
          have rM := (rdAt hMrow [80, 72, 83, 66] 4 rfl rfl (by simp [maxLen])).same HFs
          clear hMrow
          refine hK.out _ _ (HB) ?_
          clear hK
          try simp only [Act.put, List.setIfInBounds_toArray, List.set_cons_zero, List.set_cons_succ]
          refine wpAnyH_seg (by kernel_rfl) (fun _ _ d _ _ h => by cases d <;> exact h) 0 #[true, true, true, true, true, true, true, true, true, true, true, true, true, true, true, true, true, true, true, true, true] [(13, false), (16, false), (17, false), (18, false), (19, true), (20, true)] _ _ _ (by kernel_rfl) (HB) ?_
          refine seg_run rfl (fun K hK => ?_)
          rw [if_pos (by rfl)]
          refine op_lit #[.int .u8 (((UInt8.ofNat s).toNat : Nat) : Int)] 5 1 rfl (fun w => by go_simp) ?_
          intro gS wS eS hSrow HSb hSsz
          have HB := below_then HB HSb
          try have hMrow := (HSb.block _ hMlt).trans hMrow
          try have hMlt := Nat.lt_of_lt_of_le hMlt HSb.size
          try have rM := rM.below HSb
          try have rG := rG.below HSb
          try have rL := rL.below HSb
          have rS := rdAt hSrow [UInt8.ofNat s] 1 rfl rfl (by simp [maxLen])
          clear hSrow
          refine hK.out _ _ (HB) ?_
          clear hK
          try simp only [Act.put, List.setIfInBounds_toArray, List.set_cons_zero, List.set_cons_succ]
          refine seg_run rfl (fun K hK => ?_)
          rw [if_pos (by rfl)]
          refine op_lit #[.slice (some ⟨gM, 0, none⟩) 4 4, .slice AG nG cG, .slice AL nL cL, .slice (some ⟨gS, 0, none⟩) 1 1, .slice (some ⟨w.heap.size, 3, none⟩) 32 32] 30 5 rfl (fun w => by go_simp) ?_
          intro gP wP eP hProw HPb hPsz
          have HB := below_then HB HPb
          have rM := rM.below HPb
          have rG := rG.below HPb
          have rL := rL.below HPb
          have rS := rS.below HPb
          have rP := rdsAt hProw
          clear hProw
          refine hK.out _ _ (HB) ?_
          clear hK
          try simp only [Act.put, List.setIfInBounds_toArray, List.set_cons_zero, List.set_cons_succ]
          refine seg_run rfl (fun K hK => ?_)
          go_simp
          have hlen : ([[80, 72, 83, 66], leB g 4, leB l 4, [UInt8.ofNat s], D] : List (List UInt8)).flatten.length = 45 := by simp [leB_length, hD]
          refine (joined13_any _ 5 5 _ [[80, 72, 83, 66], leB g 4, leB l 4, [UInt8.ofNat s], D] _ rP rfl (by omega) ⟨⟨_, _, _, rfl, rM⟩, ⟨_, _, _, rfl, rG⟩, ⟨_, _, _, rfl, rL⟩, ⟨_, _, _, rfl, rS⟩, ⟨_, _, _, rfl, rD.below HB⟩, trivial⟩ (by rw [hlen]; omega)).mono ?_
          rintro e wJ ⟨AJ, nJ, cJ, rfl, oJ, HJb⟩
          have HB := below_then HB HJb
          rw [hlen, suB_flat] at oJ
          clear hlen
          obtain rfl : nJ = 252 := by rw [← oJ.len, suB_len _ _ _ _ hD]
          refine hK.out _ _ (HB) ?_
          clear hK
          try simp only [Act.put, List.setIfInBounds_toArray, List.set_cons_zero, List.set_cons_succ]
          refine seg_run rfl (fun K hK => ?_)
          go_simp
          refine (closed_any AJ 252 cJ _ _ oJ.rd (by omega)).mono ?_
          rintro e wC ⟨AC, nC, cC, rfl, oC, HCb⟩
          have HB0 := HB.size
          have HB := below_then HB HCb
          refine hK.out _ _ (HB) ?_
          clear hK
          try simp only [Act.put, List.setIfInBounds_toArray, List.set_cons_zero, List.set_cons_succ]
          iterate 2 (refine seg_take (v := ?_) rfl (Or.inl ⟨by rfl, ?_⟩) ?_; rotate_left; (focus (intro w' hw'; have j0 := (hw'.cell (p := ⟨w.heap.size, 0, none⟩) hz).trans c0; have j1 := (hw'.cell (p := ⟨w.heap.size, 1, none⟩) hz).trans c1; have j2 := (hw'.cell (p := ⟨w.heap.size, 2, none⟩) hz).trans c2; go_simp <;> with_reducible rfl)); try simp only [Act.put, List.setIfInBounds_toArray, List.set_cons_zero, List.set_cons_succ])
          refine seg_done (fun _ => ?_)
          refine wpAnyH_done (by kernel_rfl) ?_ _
          go_wp2
          go_ret2
          have zz := bW.size
          exact ⟨_, _, _, rfl, OwnB.mono oC (by omega), below_then bW HB⟩
        · skip
          refine op_run rfl (fun K hK => ?_)
          rw [if_pos (by rfl)]
          refine op_lit #[.int .u8 (((UInt8.ofNat s).toNat : Nat) : Int)] 5 1 rfl (fun w => by go_simp) ?_
          intro gS wS eS hSrow HSb hSsz
          have HB := below_then HB HSb
          try have hMrow := (HSb.block _ hMlt).trans hMrow
          try have hMlt := Nat.lt_of_lt_of_le hMlt HSb.size
          try have rM := rM.below HSb
          try have rG := rG.below HSb
          try have rL := rL.below HSb
          have rS := rdAt hSrow [UInt8.ofNat s] 1 rfl rfl (by simp [maxLen])
          clear hSrow
          refine hK.out _ _ (HB) ?_
          clear hK
          try simp only [Act.put, List.setIfInBounds_toArray, List.set_cons_zero, List.set_cons_succ]
          refine wpAnyH_seg (by kernel_rfl) (fun _ _ d _ _ h => by cases d <;> exact h) 0 #[true, true, true, true, true, true, true, true, true, true, true, true, true, true, true, true, true, true, true, true, true] [(1, false), (16, false), (17, false), (18, false), (19, true), (20, true)] _ _ _ (by kernel_rfl) (HB) ?_
          refine seg_run rfl (fun K hK => ?_)
          rw [if_pos (by rfl)]
          refine op_mark _ rfl gM 4 4 rfl _ _ hMrow HB hMW ?_
          intro wF HFs HB HFo
          try have rG := rG.same HFs
          try have rL := rL.same HFs
          try have rS := rS.same HFs
          have rM := (rdAt hMrow [80, 72, 83, 66] 4 rfl rfl (by simp [maxLen])).same HFs
          clear hMrow
          refine hK.out _ _ (HB) ?_
          clear hK
          try simp only [Act.put, List.setIfInBounds_toArray, List.set_cons_zero, List.set_cons_succ]
          refine seg_run rfl (fun K hK => ?_)
          rw [if_pos (by rfl)]
          refine op_lit #[.slice (some ⟨gM, 0, none⟩) 4 4, .slice AG nG cG, .slice AL nL cL, .slice (some ⟨gS, 0, none⟩) 1 1, .slice (some ⟨w.heap.size, 3, none⟩) 32 32] 30 5 rfl (fun w => by go_simp) ?_
          intro gP wP eP hProw HPb hPsz
          have HB := below_then HB HPb
          have rM := rM.below HPb
          have rG := rG.below HPb
          have rL := rL.below HPb
          have rS := rS.below HPb
          have rP := rdsAt hProw
          clear hProw
          refine hK.out _ _ (HB) ?_
          clear hK
          try simp only [Act.put, List.setIfInBounds_toArray, List.set_cons_zero, List.set_cons_succ]
          refine seg_run rfl (fun K hK => ?_)
          go_simp
          have hlen : ([[80, 72, 83, 66], leB g 4, leB l 4, [UInt8.ofNat s], D] : List (List UInt8)).flatten.length = 45 := by simp [leB_length, hD]
          refine (joined13_any _ 5 5 _ [[80, 72, 83, 66], leB g 4, leB l 4, [UInt8.ofNat s], D] _ rP rfl (by omega) ⟨⟨_, _, _, rfl, rM⟩, ⟨_, _, _, rfl, rG⟩, ⟨_, _, _, rfl, rL⟩, ⟨_, _, _, rfl, rS⟩, ⟨_, _, _, rfl, rD.below HB⟩, trivial⟩ (by rw [hlen]; omega)).mono ?_
          rintro e wJ ⟨AJ, nJ, cJ, rfl, oJ, HJb⟩
          have HB := below_then HB HJb
          rw [hlen, suB_flat] at oJ
          clear hlen
          obtain rfl : nJ = 252 := by rw [← oJ.len, suB_len _ _ _ _ hD]
          refine hK.out _ _ (HB) ?_
          clear hK
          try simp only [Act.put, List.setIfInBounds_toArray, List.set_cons_zero, List.set_cons_succ]
          refine seg_run rfl (fun K hK => ?_)
          go_simp
          refine (closed_any AJ 252 cJ _ _ oJ.rd (by omega)).mono ?_
          rintro e wC ⟨AC, nC, cC, rfl, oC, HCb⟩
          have HB0 := HB.size
          have HB := below_then HB HCb
          refine hK.out _ _ (HB) ?_
          clear hK
          try simp only [Act.put, List.setIfInBounds_toArray, List.set_cons_zero, List.set_cons_succ]
          iterate 2 (refine seg_take (v := ?_) rfl (Or.inl ⟨by rfl, ?_⟩) ?_; rotate_left; (focus (intro w' hw'; have j0 := (hw'.cell (p := ⟨w.heap.size, 0, none⟩) hz).trans c0; have j1 := (hw'.cell (p := ⟨w.heap.size, 1, none⟩) hz).trans c1; have j2 := (hw'.cell (p := ⟨w.heap.size, 2, none⟩) hz).trans c2; go_simp <;> with_reducible rfl)); try simp only [Act.put, List.setIfInBounds_toArray, List.set_cons_zero, List.set_cons_succ])
          refine seg_done (fun _ => ?_)
          refine wpAnyH_done (by kernel_rfl) ?_ _
          go_wp2
          go_ret2
          have zz := bW.size
          exact ⟨_, _, _, rfl, OwnB.mono oC (by omega), below_then bW HB⟩
      · skip
        refine op_run rfl (fun K hK => ?_)
        rw [if_pos (by rfl)]
        refine op_lit #[.int .u8 (((UInt8.ofNat s).toNat : Nat) : Int)] 5 1 rfl (fun w => by go_simp) ?_
        intro gS wS eS hSrow HSb hSsz
        have HB := below_then HB HSb
        try have hMrow := (HSb.block _ hMlt).trans hMrow
        try have hMlt := Nat.lt_of_lt_of_le hMlt HSb.size
        try have rM := rM.below HSb
        try have rG := rG.below HSb
        try have rL := rL.below HSb
        have rS := rdAt hSrow [UInt8.ofNat s] 1 rfl rfl (by simp [maxLen])
        clear hSrow
        refine hK.out _ _ (HB) ?_
        clear hK
        try simp only [Act.put, List.setIfInBounds_toArray, List.set_cons_zero, List.set_cons_succ]
        refine wpAnyH_seg (by kernel_rfl) (fun _ _ d _ _ h => by cases d <;> exact h) 7 #[true, false, true, true, true, true, true, true, true, false, true, true, true, true, true, true, false, false, false, false, false] [] _ _ _ (by kernel_rfl) (HB) ?_
        refine seg_done (fun _ => ?_)
        refine wpAnyH_two (i := 1) (j := 9) (f := 6) (by kernel_rfl) ?_ ?_
        · skip
          refine op_run rfl (fun K hK => ?_)
          rw [if_pos (by rfl)]
          refine op_mark _ rfl gM 4 4 rfl _ _ hMrow HB hMW ?_
          intro wF HFs HB HFo
          try have rG := rG.same HFs
          try have rL := rL.same HFs
          try have rS := rS.same HFs
          have rM := (rdAt hMrow [80, 72, 83, 66] 4 rfl rfl (by simp [maxLen])).same HFs
          clear hMrow
          refine hK.out _ _ (HB) ?_
          clear hK
          try simp only [Act.put, List.setIfInBounds_toArray, List.set_cons_zero, List.set_cons_succ]
          refine wpAnyH_seg (by kernel_rfl) (fun _ _ d _ _ h => by cases d <;> exact h) 0 #[true, true, true, true, true, true, true, true, true, true, true, true, true, true, true, true, true, true, true, true, true] [(9, false), (16, false), (17, false), (18, false), (19, true), (20, true)] _ _ _ (by kernel_rfl) (HB) ?_
          refine seg_run rfl (fun K hK => ?_)
          go_simp
          refine (le_any l 4 _ (by omega)).mono ?_
          rintro e wL ⟨AL, nL, cL, rfl, oL, HLb⟩
          have HB := below_then HB HLb
          try have hMrow := (HLb.block _ hMlt).trans hMrow
          try have hMlt := Nat.lt_of_lt_of_le hMlt HLb.size
          try have rM := rM.below HLb
          try have rG := rG.below HLb
          try have rS := rS.below HLb
          have rL := oL.rd
          clear oL
          refine hK.out _ _ (HB) ?_
          clear hK
          try simp only [Act.put, List.setIfInBounds_toArray, List.set_cons_zero, List.set_cons_succ]
          refine seg_run rfl (fun K hK => ?_)
          rw [if_pos (by rfl)]
          refine op_lit #[.slice (some ⟨gM, 0, none⟩) 4 4, .slice AG nG cG, .slice AL nL cL, .slice (some ⟨gS, 0, none⟩) 1 1, .slice (some ⟨w.heap.size, 3, none⟩) 32 32] 30 5 rfl (fun w => by go_simp) ?_
          intro gP wP eP hProw HPb hPsz
          have HB := below_then HB HPb
          have rM := rM.below HPb
          have rG := rG.below HPb
          have rL := rL.below HPb
          have rS := rS.below HPb
          have rP := rdsAt hProw
          clear hProw
          refine hK.out _ _ (HB) ?_
          clear hK
          try simp only [Act.put, List.setIfInBounds_toArray, List.set_cons_zero, List.set_cons_succ]
          refine seg_run rfl (fun K hK => ?_)
          go_simp
          have hlen : ([[80, 72, 83, 66], leB g 4, leB l 4, [UInt8.ofNat s], D] : List (List UInt8)).flatten.length = 45 := by simp [leB_length, hD]
          refine (joined13_any _ 5 5 _ [[80, 72, 83, 66], leB g 4, leB l 4, [UInt8.ofNat s], D] _ rP rfl (by omega) ⟨⟨_, _, _, rfl, rM⟩, ⟨_, _, _, rfl, rG⟩, ⟨_, _, _, rfl, rL⟩, ⟨_, _, _, rfl, rS⟩, ⟨_, _, _, rfl, rD.below HB⟩, trivial⟩ (by rw [hlen]; omega)).mono ?_
          rintro e wJ ⟨AJ, nJ, cJ, rfl, oJ, HJb⟩
          have HB := below_then HB HJb
          rw [hlen, suB_flat] at oJ
          clear hlen
          obtain rfl : nJ = 252 := by rw [← oJ.len, suB_len _ _ _ _ hD]
          refine hK.out _ _ (HB) ?_
          clear hK
          try simp only [Act.put, List.setIfInBounds_toArray, List.set_cons_zero, List.set_cons_succ]
          refine seg_run rfl (fun K hK => ?_)
          go_simp
          refine (closed_any AJ 252 cJ _ _ oJ.rd (by omega)).mono ?_
          rintro e wC ⟨AC, nC, cC, rfl, oC, HCb⟩
          have HB0 := HB.size
          have HB := below_then HB HCb
          refine hK.out _ _ (HB) ?_
          clear hK
          try simp only [Act.put, List.setIfInBounds_toArray, List.set_cons_zero, List.set_cons_succ]
          iterate 2 (refine seg_take (v := ?_) rfl (Or.inl ⟨by rfl, ?_⟩) ?_; rotate_left; (focus (intro w' hw'; have j0 := (hw'.cell (p := ⟨w.heap.size, 0, none⟩) hz).trans c0; have j1 := (hw'.cell (p := ⟨w.heap.size, 1, none⟩) hz).trans c1; have j2 := (hw'.cell (p := ⟨w.heap.size, 2, none⟩) hz).trans c2; go_simp <;> with_reducible rfl)); try simp only [Act.put, List.setIfInBounds_toArray, List.set_cons_zero, List.set_cons_succ])
          refine seg_done (fun _ => ?_)
          refine wpAnyH_done (by kernel_rfl) ?_ _
          go_wp2
          go_ret2
          have zz := bW.size
          exact ⟨_, _, _, rfl, OwnB.mono oC (by omega), below_then bW HB⟩
        · skip
          refine op_run rfl (fun K hK => ?_)
          go_simp
          refine (le_any l 4 _ (by omega)).mono ?_
          rintro e wL ⟨AL, nL, cL, rfl, oL, HLb⟩
          have HB := below_then HB HLb
          try have hMrow := (HLb.block _ hMlt).trans hMrow
          try have hMlt := Nat.lt_of_lt_of_le hMlt HLb.size
          try have rM := rM.below HLb
          try have rG := rG.below HLb
          try have rS := rS.below HLb
          have rL := oL.rd
          clear oL
          refine hK.out _ _ (HB) ?_
          clear hK
          try simp only [Act.put, List.setIfInBounds_toArray, List.set_cons_zero, List.set_cons_succ]
          refine wpAnyH_seg (by kernel_rfl) (fun _ _ d _ _ h => by cases d <;> exact h) 0 #[true, true, true, true, true, true, true, true, true, true, true, true, true, true, true, true, true, true, true, true, true] [(1, false), (16, false), (17, false), (18, false), (19, true), (20, true)] _ _ _ (by kernel_rfl) (HB) ?_
          refine seg_run rfl (fun K hK => ?_)
          rw [if_pos (by rfl)]
          refine op_mark _ rfl gM 4 4 rfl _ _ hMrow HB hMW ?_
          intro wF HFs HB HFo
          try have rG := rG.same HFs
          try have rL := rL.same HFs
          try have rS := rS.same HFs
          have rM := (rdAt hMrow [80, 72, 83, 66] 4 rfl rfl (by simp [maxLen])).same HFs
          clear hMrow
          refine hK.out _ _ (HB) ?_
          clear hK
          try simp only [Act.put, List.setIfInBounds_toArray, List.set_cons_zero, List.set_cons_succ]
          refine seg_run rfl (fun K hK => ?_)
          rw [if_pos (by rfl)]
          refine op_lit #[.slice (some ⟨gM, 0, none⟩) 4 4, .slice AG nG cG, .slice AL nL cL, .slice (some ⟨gS, 0, none⟩) 1 1, .slice (some ⟨w.heap.size, 3, none⟩) 32 32] 30 5 rfl (fun w => by go_simp) ?_
          intro gP wP eP hProw HPb hPsz
          have HB := below_then HB HPb
          have rM := rM.below HPb
          have rG := rG.below HPb
          have rL := rL.below HPb
          have rS := rS.below HPb
          have rP := rdsAt hProw
          clear hProw
          refine hK.out _ _ (HB) ?_
          clear hK
          try simp only [Act.put, List.setIfInBounds_toArray, List.set_cons_zero, List.set_cons_succ]
          refine seg_run rfl (fun K hK => ?_)
          go_simp
          have hlen : ([[80, 72, 83, 66], leB g 4, leB l 4, [UInt8.ofNat s], D] : List (List UInt8)).flatten.length = 45 := by simp [leB_length, hD]
          refine (joined13_any _ 5 5 _ [[80, 72, 83, 66], leB g 4, leB l 4, [UInt8.ofNat s], D] _ rP rfl (by omega) ⟨⟨_, _, _, rfl, rM⟩, ⟨_, _, _, rfl, rG⟩, ⟨_, _, _, rfl, rL⟩, ⟨_, _, _, rfl, rS⟩, ⟨_, _, _, rfl, rD.below HB⟩, trivial⟩ (by rw [hlen]; omega)).mono ?_
          rintro e wJ ⟨AJ, nJ, cJ, rfl, oJ, HJb⟩
          have HB := below_then HB HJb
          rw [hlen, suB_flat] at oJ
          clear hlen
          obtain rfl : nJ = 252 := by rw [← oJ.len, suB_len _ _ _ _ hD]
          refine hK.out _ _ (HB) ?_
          clear hK
          try simp only [Act.put, List.setIfInBounds_toArray, List.set_cons_zero, List.set_cons_succ]
          refine seg_run rfl (fun K hK => ?_)
          go_simp
          refine (closed_any AJ 252 cJ _ _ oJ.rd (by omega)).mono ?_
          rintro e wC ⟨AC, nC, cC, rfl, oC, HCb⟩
          have HB0 := HB.size
          have HB := below_then HB HCb
          refine hK.out _ _ (HB) ?_
          clear hK
          try simp only [Act.put, List.setIfInBounds_toArray, List.set_cons_zero, List.set_cons_succ]
          iterate 2 (refine seg_take (v := ?_) rfl (Or.inl ⟨by rfl, ?_⟩) ?_; rotate_left; (focus (intro w' hw'; have j0 := (hw'.cell (p := ⟨w.heap.size, 0, none⟩) hz).trans c0; have j1 := (hw'.cell (p := ⟨w.heap.size, 1, none⟩) hz).trans c1; have j2 := (hw'.cell (p := ⟨w.heap.size, 2, none⟩) hz).trans c2; go_simp <;> with_reducible rfl)); try simp only [Act.put, List.setIfInBounds_toArray, List.set_cons_zero, List.set_cons_succ])
          refine seg_done (fun _ => ?_)
          refine wpAnyH_done (by kernel_rfl) ?_ _
          go_wp2
          go_ret2
          have zz := bW.size
          exact ⟨_, _, _, rfl, OwnB.mono oC (by omega), below_then bW HB⟩
    · skip
      refine op_run rfl (fun K hK => ?_)
      go_simp
      refine (le_any l 4 _ (by omega)).mono ?_
      rintro e wL ⟨AL, nL, cL, rfl, oL, HLb⟩
      have HB := below_then HB HLb
      try have hMrow := (HLb.block _ hMlt).trans hMrow
      try have hMlt := Nat.lt_of_lt_of_le hMlt HLb.size
      try have rM := rM.below HLb
      try have rG := rG.below HLb
      try have rS := rS.below HLb
      have rL := oL.rd
      clear oL
      refine hK.out _ _ (HB) ?_
      clear hK
      try simp only [Act.put, List.setIfInBounds_toArray, List.set_cons_zero, List.set_cons_succ]
      refine wpAnyH_seg (by kernel_rfl) (fun _ _ d _ _ h => by cases d <;> exact h) 8 #[false, false, true, true, true, true, true, true, true, true, true, true, true, false, true, true, false, false, false, false, false] [] _ _ _ (by kernel_rfl) (HB) ?_
      refine seg_done (fun _ => ?_)
      refine wpAnyH_two (i := 0) (j := 13) (f := 7) (by kernel_rfl) ?_ ?_
      · skip
        refine op_run rfl (fun K hK => ?_)
        rw [if_pos (by rfl)]
        refine op_lit #[.int .u8 80, .int .u8 72, .int .u8 83, .int .u8 66] 5 4 rfl (fun w => by go_simp) ?_
        intro gM wM eM hMrow HMb hMsz
        have hMle0 := HB.size
        have HB := below_then HB HMb
        try have rG := rG.below HMb
        try have rL := rL.below HMb
        try have rS := rS.below HMb
        have hMW : W.heap.size ≤ gM := by rw [← eM]; exact Nat.le_trans hMle0 (Nat.le_refl _)
        have hMlt : gM < wM.heap.size := by rw [hMsz]; exact Nat.lt_succ_self _
        refine hK.out _ _ (HB) ?_
        clear hK
        try simp only [Act.put, List.setIfInBounds_toArray, List.set_cons_zero, List.set_cons_succ]
        refine wpAnyH_seg (by kernel_rfl) (fun _ _ d _ _ h => by cases d <;> exact h) 7 #[true, false, true, true, true, true, true, true, true, true, true, true, true, false, true, true, false, false, false, false, false] [] _ _ _ (by kernel_rfl) (HB) ?_
        refine seg_done (fun _ => ?_)
        refine wpAnyH_two (i := 1) (j := 13) (f := 6) (by kernel_rfl) ?_ ?_
        · skip
          refine op_run rfl (fun K hK => ?_)
          rw [if_pos (by rfl)]
          refine op_mark _ rfl gM 4 4 rfl _ _ hMrow HB hMW ?_
          intro wF HFs HB HFo
          try have rG := rG.same HFs
          try have rL := rL.same HFs
          try have rS := rS.same HFs
          have rM := (rdAt hMrow [80, 72, 83, 66] 4 rfl rfl (by simp [maxLen])).same HFs
          clear hMrow
          refine hK.out _ _ (HB) ?_
          clear hK
          try simp only [Act.put, List.setIfInBounds_toArray, List.set_cons_zero, List.set_cons_succ]
          refine wpAnyH_seg (by kernel_rfl) (fun _ _ d _ _ h => by cases d <;> exact h) 0 #[true, true, true, true, true, true, true, true, true, true, true, true, true, true, true, true, true, true, true, true, true] [(13, false), (16, false), (17, false), (18, false), (19, true), (20, true)] _ _ _ (by kernel_rfl) (HB) ?_
          refine seg_run rfl (fun K hK => ?_)
          rw [if_pos (by rfl)]
          refine op_lit #[.int .u8 (((UInt8.ofNat s).toNat : Nat) : Int)] 5 1 rfl (fun w => by go_simp) ?_
          intro gS wS eS hSrow HSb hSsz
          have HB := below_then HB HSb
          try have hMrow := (HSb.block _ hMlt).trans hMrow
          try have hMlt := Nat.lt_of_lt_of_le hMlt HSb.size
          try have rM := rM.below HSb
          try have rG := rG.below HSb
          try have rL := rL.below HSb
          have rS := rdAt hSrow [UInt8.ofNat s] 1 rfl rfl (by simp [maxLen])
          clear hSrow
          refine hK.out _ _ (HB) ?_
          clear hK
          try simp only [Act.put, List.setIfInBounds_toArray, List.set_cons_zero, List.set_cons_succ]
          refine seg_run rfl (fun K hK => ?_)
          rw [if_pos (by rfl)]
          refine op_lit #[.slice (some ⟨gM, 0, none⟩) 4 4, .slice AG nG cG, .slice AL nL cL, .slice (some ⟨gS, 0, none⟩) 1 1, .slice (some ⟨w.heap.size, 3, none⟩) 32 32] 30 5 rfl (fun w => by go_simp) ?_
          intro gP wP eP hProw HPb hPsz
          have HB := below_then HB HPb
          have rM := rM.below HPb
          have rG := rG.below HPb
          have rL := rL.below HPb
          have rS := rS.below HPb
          have rP := rdsAt hProw
          clear hProw
          refine hK.out _ _ (HB) ?_
          clear hK
          try simp only [Act.put, List.setIfInBounds_toArray, List.set_cons_zero, List.set_cons_succ]
          refine seg_run rfl (fun K hK => ?_)
          go_simp
          have hlen : ([[80, 72, 83, 66], leB g 4, leB l 4, [UInt8.ofNat s], D] : List (List UInt8)).flatten.length = 45 := by simp [leB_length, hD]
          refine (joined13_any _ 5 5 _ [[80, 72, 83, 66], leB g 4, leB l 4, [UInt8.ofNat s], D] _ rP rfl (by omega) ⟨⟨_, _, _, rfl, rM⟩, ⟨_, _, _, rfl, rG⟩, ⟨_, _, _, rfl, rL⟩, ⟨_, _, _, rfl, rS⟩, ⟨_, _, _, rfl, rD.below HB⟩, trivial⟩ (by rw [hlen]; omega)).mono ?_
          rintro e wJ ⟨AJ, nJ, cJ, rfl, oJ, HJb⟩
          have HB := below_then HB HJb
          rw [hlen, suB_flat] at oJ
          clear hlen
          obtain rfl : nJ = 252 := by rw [← oJ.len, suB_len _ _ _ _ hD]
          refine hK.out _ _ (HB) ?_
          clear hK
          try simp only [Act.put, List.setIfInBounds_toArray, List.set_cons_zero, List.set_cons_succ]
          refine seg_run rfl (fun K hK => ?_)
          go_simp
          refine (closed_any AJ 252 cJ _ _ oJ.rd (by omega)).mono ?_
          rintro e wC ⟨AC, nC, cC, rfl, oC, HCb⟩
          have HB0 := HB.size
          have HB := below_then HB HCb
          refine hK.out _ _ (HB) ?_
          clear hK
          try simp only [Act.put, List.setIfInBounds_toArray, List.set_cons_zero, List.set_cons_succ]
          iterate 2 (refine seg_take (v := ?_) rfl (Or.inl ⟨by rfl, ?_⟩) ?_; rotate_left; (focus (intro w' hw'; have j0 := (hw'.cell (p := ⟨w.heap.size, 0, none⟩) hz).trans c0; have j1 := (hw'.cell (p := ⟨w.heap.size, 1, none⟩) hz).trans c1; have j2 := (hw'.cell (p := ⟨w.heap.size, 2, none⟩) hz).trans c2; go_simp <;> with_reducible rfl)); try simp only [Act.put, List.setIfInBounds_toArray, List.set_cons_zero, List.set_cons_succ])
          refine seg_done (fun _ => ?_)
          refine wpAnyH_done (by kernel_rfl) ?_ _
          go_wp2
          go_ret2
          have zz := bW.size
          exact ⟨_, _, _, rfl, OwnB.mono oC (by omega), below_then bW HB⟩
        · skip
          refine op_run rfl (fun K hK => ?_)
          rw [if_pos (by rfl)]
          refine op_lit #[.int .u8 (((UInt8.ofNat s).toNat : Nat) : Int)] 5 1 rfl (fun w => by go_simp) ?_
          intro gS wS eS hSrow HSb hSsz
          have HB := below_then HB HSb
          try have hMrow := (HSb.block _ hMlt).trans hMrow
          try have hMlt := Nat.lt_of_lt_of_le hMlt HSb.size
          try have rM := rM.below HSb
          try have rG := rG.below HSb
          try have rL := rL.below HSb
          have rS := rdAt hSrow [UInt8.ofNat s] 1 rfl rfl (by simp [maxLen])
          clear hSrow
          refine hK.out _ _ (HB) ?_
          clear hK
          try simp only [Act.put, List.setIfInBounds_toArray, List.set_cons_zero, List.set_cons_succ]
          refine wpAnyH_seg (by kernel_rfl) (fun _ _ d _ _ h => by cases d <;> exact h) 0 #[true, true, true, true, true, true, true, true, true, true, true, true, true, true, true, true, true, true, true, true, true] [(1, false), (16, false), (17, false), (18, false), (19, true), (20, true)] _ _ _ (by kernel_rfl) (HB) ?_
          refine seg_run rfl (fun K hK => ?_)
          rw [if_pos (by rfl)]
          refine op_mark _ rfl gM 4 4 rfl _ _ hMrow HB hMW ?_
          intro wF HFs HB HFo
          try have rG := rG.same HFs
          try have rL := rL.same HFs
          try have rS := rS.same HFs
          have rM := (rdAt hMrow [80, 72, 83, 66] 4 rfl rfl (by simp [maxLen])).same HFs
          clear hMrow
          refine hK.out _ _ (HB) ?_
          clear hK
          try simp only [Act.put, List.setIfInBounds_toArray, List.set_cons_zero, List.set_cons_succ]
          refine seg_run rfl (fun K hK => ?_)
          rw [if_pos (by rfl)]
          refine op_lit #[.slice (some ⟨gM, 0, none⟩) 4 4, .slice AG nG cG, .slice AL nL cL, .slice (some ⟨gS, 0, none⟩) 1 1, .slice (some ⟨w.heap.size, 3, none⟩) 32 32] 30 5 rfl (fun w => by go_simp) ?_
          intro gP wP eP hProw HPb hPsz
          have HB := below_then HB HPb
          have rM := rM.below HPb
          have rG := rG.below HPb
          have rL := rL.below HPb
          have rS := rS.below HPb
          have rP := rdsAt hProw
          clear hProw
          refine hK.out _ _ (HB) ?_
          clear hK
          try simp only [Act.put, List.setIfInBounds_toArray, List.set_cons_zero, List.set_cons_succ]
          refine seg_run rfl (fun K hK => ?_)
          go_simp
          have hlen : ([[80, 72, 83, 66], leB g 4, leB l 4, [UInt8.ofNat s], D] : List (List UInt8)).flatten.length = 45 := by simp [leB_length, hD]
          refine (joined13_any _ 5 5 _ [[80, 72, 83, 66], leB g 4, leB l 4, [UInt8.ofNat s], D] _ rP rfl (by omega) ⟨⟨_, _, _, rfl, rM⟩, ⟨_, _, _, rfl, rG⟩, ⟨_, _, _, rfl, rL⟩, ⟨_, _, _, rfl, rS⟩, ⟨_, _, _, rfl, rD.below HB⟩, trivial⟩ (by rw [hlen]; omega)).mono ?_
          rintro e wJ ⟨AJ, nJ, cJ, rfl, oJ, HJb⟩
          have HB := below_then HB HJb
          rw [hlen, suB_flat] at oJ
          clear hlen
          obtain rfl : nJ = 252 := by rw [← oJ.len, suB_len _ _ _ _ hD]
          refine hK.out _ _ (HB) ?_
          clear hK
          try simp only [Act.put, List.setIfInBounds_toArray, List.set_cons_zero, List.set_cons_succ]
          refine seg_run rfl (fun K hK => ?_)
          go_simp
          refine (closed_any AJ 252 cJ _ _ oJ.rd (by omega)).mono ?_
          rintro e wC ⟨AC, nC, cC, rfl, oC, HCb⟩
          have HB0 := HB.size
          have HB := below_then HB HCb
          refine hK.out _ _ (HB) ?_
          clear hK
          try simp only [Act.put, List.setIfInBounds_toArray, List.set_cons_zero, List.set_cons_succ]
          iterate 2 (refine seg_take (v := ?_) rfl (Or.inl ⟨by rfl, ?_⟩) ?_; rotate_left; (focus (intro w' hw'; have j0 := (hw'.cell (p := ⟨w.heap.size, 0, none⟩) hz).trans c0; have j1 := (hw'.cell (p := ⟨w.heap.size, 1, none⟩) hz).trans c1; have j2 := (hw'.cell (p := ⟨w.heap.size, 2, none⟩) hz).trans c2; go_simp <;> with_reducible rfl)); try simp only [Act.put, List.setIfInBounds_toArray, List.set_cons_zero, List.set_cons_succ])
          refine seg_done (fun _ => ?_)
          refine wpAnyH_done (by kernel_rfl) ?_ _
          go_wp2
          go_ret2
          have zz := bW.size
          exact ⟨_, _, _, rfl, OwnB.mono oC (by omega), below_then bW HB⟩
      · skip
        refine op_run rfl (fun K hK => ?_)
        rw [if_pos (by rfl)]
        refine op_lit #[.int .u8 (((UInt8.ofNat s).toNat : Nat) : Int)] 5 1 rfl (fun w => by go_simp) ?_
        intro gS wS eS hSrow HSb hSsz
        have HB := below_then HB HSb
        try have hMrow := (HSb.block _ hMlt).trans hMrow
        try have hMlt := Nat.lt_of_lt_of_le hMlt HSb.size
        try have rM := rM.below HSb
        try have rG := rG.below HSb
        try have rL := rL.below HSb
        have rS := rdAt hSrow [UInt8.ofNat s] 1 rfl rfl (by simp [maxLen])
        clear hSrow
        refine hK.out _ _ (HB) ?_
        clear hK
        try simp only [Act.put, List.setIfInBounds_toArray, List.set_cons_zero, List.set_cons_succ]
        refine wpAnyH_seg (by kernel_rfl) (fun _ _ d _ _ h => by cases d <;> exact h) 0 #[true, true, true, true, true, true, true, true, true, true, true, true, true, true, true, true, true, true, true, true, true] [(0, false), (1, false), (16, false), (17, false), (18, false), (19, true), (20, true)] _ _ _ (by kernel_rfl) (HB) ?_
        refine seg_run rfl (fun K hK => ?_)
        rw [if_pos (by rfl)]
        refine op_lit #[.int .u8 80, .int .u8 72, .int .u8 83, .int .u8 66] 5 4 rfl (fun w => by go_simp) ?_
        intro gM wM eM hMrow HMb hMsz
        have hMle0 := HB.size
        have HB := below_then HB HMb
        try have rG := rG.below HMb
        try have rL := rL.below HMb
        try have rS := rS.below HMb
        have hMW : W.heap.size ≤ gM := by rw [← eM]; exact Nat.le_trans hMle0 (Nat.le_refl _)
        have hMlt : gM < wM.heap.size := by rw [hMsz]; exact Nat.lt_succ_self _
        refine hK.out _ _ (HB) ?_
        clear hK
        try simp only [Act.put, List.setIfInBounds_toArray, List.set_cons_zero, List.set_cons_succ]
        refine seg_run rfl (fun K hK => ?_)
        rw [if_pos (by rfl)]
        refine op_mark _ rfl gM 4 4 rfl _ _ hMrow HB hMW ?_
        intro wF HFs HB HFo
        try have rG := rG.same HFs
        try have rL := rL.same HFs
        try have rS := rS.same HFs
        have rM := (rdAt hMrow [80, 72, 83, 66] 4 rfl rfl (by simp [maxLen])).same HFs
        clear hMrow
        refine hK.out _ _ (HB) ?_
        clear hK
        try simp only [Act.put, List.setIfInBounds_toArray, List.set_cons_zero, List.set_cons_succ]
        refine seg_run rfl (fun K hK => ?_)
        rw [if_pos (by rfl)]
        refine op_lit #[.slice (some ⟨gM, 0, none⟩) 4 4, .slice AG nG cG, .slice AL nL cL, .slice (some ⟨gS, 0, none⟩) 1 1, .slice (some ⟨w.heap.size, 3, none⟩) 32 32] 30 5 rfl (fun w => by go_simp) ?_
        intro gP wP eP hProw HPb hPsz
        have HB := below_then HB HPb
        have rM := rM.below HPb
        have rG := rG.below HPb
        have rL := rL.below HPb
        have rS := rS.below HPb
        have rP := rdsAt hProw
        clear hProw
        refine hK.out _ _ (HB) ?_
        clear hK
        try simp only [Act.put, List.setIfInBounds_toArray, List.set_cons_zero, List.set_cons_succ]
        refine seg_run rfl (fun K hK => ?_)
        go_simp
        have hlen : ([[80, 72, 83, 66], leB g 4, leB l 4, [UInt8.ofNat s], D] : List (List UInt8)).flatten.length = 45 := by simp [leB_length, hD]
        refine (joined13_any _ 5 5 _ [[80, 72, 83, 66], leB g 4, leB l 4, [UInt8.ofNat s], D] _ rP rfl (by omega) ⟨⟨_, _, _, rfl, rM⟩, ⟨_, _, _, rfl, rG⟩, ⟨_, _, _, rfl, rL⟩, ⟨_, _, _, rfl, rS⟩, ⟨_, _, _, rfl, rD.below HB⟩, trivial⟩ (by rw [hlen]; omega)).mono ?_
        rintro e wJ ⟨AJ, nJ, cJ, rfl, oJ, HJb⟩
        have HB := below_then HB HJb
        rw [hlen, suB_flat] at oJ
        clear hlen
        obtain rfl : nJ = 252 := by rw [← oJ.len, suB_len _ _ _ _ hD]
        refine hK.out _ _ (HB) ?_
        clear hK
        try simp only [Act.put, List.setIfInBounds_toArray, List.set_cons_zero, List.set_cons_succ]
        refine seg_run rfl (fun K hK => ?_)
        go_simp
        refine (closed_any AJ 252 cJ _ _ oJ.rd (by omega)).mono ?_
        rintro e wC ⟨AC, nC, cC, rfl, oC, HCb⟩
        have HB0 := HB.size
        have HB := below_then HB HCb
        refine hK.out _ _ (HB) ?_
        clear hK
        try simp only [Act.put, List.setIfInBounds_toArray, List.set_cons_zero, List.set_cons_succ]
        iterate 2 (refine seg_take (v := ?_) rfl (Or.inl ⟨by rfl, ?_⟩) ?_; rotate_left; (focus (intro w' hw'; have j0 := (hw'.cell (p := ⟨w.heap.size, 0, none⟩) hz).trans c0; have j1 := (hw'.cell (p := ⟨w.heap.size, 1, none⟩) hz).trans c1; have j2 := (hw'.cell (p := ⟨w.heap.size, 2, none⟩) hz).trans c2; go_simp <;> with_reducible rfl)); try simp only [Act.put, List.setIfInBounds_toArray, List.set_cons_zero, List.set_cons_succ])
        refine seg_done (fun _ => ?_)
        refine wpAnyH_done (by kernel_rfl) ?_ _
        go_wp2
        go_ret2
        have zz := bW.size
        exact ⟨_, _, _, rfl, OwnB.mono oC (by omega), below_then bW HB⟩
    · skip
      refine op_run rfl (fun K hK => ?_)
      rw [if_pos (by rfl)]
      refine op_lit #[.int .u8 (((UInt8.ofNat s).toNat : Nat) : Int)] 5 1 rfl (fun w => by go_simp) ?_
      intro gS wS eS hSrow HSb hSsz
      have HB := below_then HB HSb
      try have hMrow := (HSb.block _ hMlt).trans hMrow
      try have hMlt := Nat.lt_of_lt_of_le hMlt HSb.size
      try have rM := rM.below HSb
      try have rG := rG.below HSb
      try have rL := rL.below HSb
      have rS := rdAt hSrow [UInt8.ofNat s] 1 rfl rfl (by simp [maxLen])
      clear hSrow
      refine hK.out _ _ (HB) ?_
      clear hK
      try simp only [Act.put, List.setIfInBounds_toArray, List.set_cons_zero, List.set_cons_succ]
      refine wpAnyH_seg (by kernel_rfl) (fun _ _ d _ _ h => by cases d <;> exact h) 8 #[false, false, true, true, true, true, true, true, true, false, true, true, true, true, true, true, false, false, false, false, false] [] _ _ _ (by kernel_rfl) (HB) ?_
      refine seg_done (fun _ => ?_)
      refine wpAnyH_two (i := 0) (j := 9) (f := 7) (by kernel_rfl) ?_ ?_
      · skip
        refine op_run rfl (fun K hK => ?_)
        rw [if_pos (by rfl)]
        refine op_lit #[.int .u8 80, .int .u8 72, .int .u8 83, .int .u8 66] 5 4 rfl (fun w => by go_simp) ?_
        intro gM wM eM hMrow HMb hMsz
        have hMle0 := HB.size
        have HB := below_then HB HMb
        try have rG := rG.below HMb
        try have rL := rL.below HMb
        try have rS := rS.below HMb
        have hMW : W.heap.size ≤ gM := by rw [← eM]; exact Nat.le_trans hMle0 (Nat.le_refl _)
        have hMlt : gM < wM.heap.size := by rw [hMsz]; exact Nat.lt_succ_self _
        refine hK.out _ _ (HB) ?_
        clear hK
        try simp only [Act.put, List.setIfInBounds_toArray, List.set_cons_zero, List.set_cons_succ]
        refine wpAnyH_seg (by kernel_rfl) (fun _ _ d _ _ h => by cases d <;> exact h) 7 #[true, false, true, true, true, true, true, true, true, false, true, true, true, true, true, true, false, false, false, false, false] [] _ _ _ (by kernel_rfl) (HB) ?_
        refine seg_done (fun _ => ?_)
        refine wpAnyH_two (i := 1) (j := 9) (f := 6) (by kernel_rfl) ?_ ?_
        · skip
          refine op_run rfl (fun K hK => ?_)
          rw [if_pos (by rfl)]
          refine op_mark _ rfl gM 4 4 rfl _ _ hMrow HB hMW ?_
          intro wF HFs HB HFo
          try have rG := rG.same HFs
          try have rL := rL.same HFs
          try have rS := rS.same HFs
          have rM := (rdAt hMrow [80, 72, 83, 66] 4 rfl rfl (by simp [maxLen])).same HFs
          clear hMrow
          refine hK.out _ _ (HB) ?_
          clear hK
          try simp only [Act.put, List.setIfInBounds_toArray, List.set_cons_zero, List.set_cons_succ]
          refine wpAnyH_seg (by kernel_rfl) (fun _ _ d _ _ h => by cases d <;> exact h) 0 #[true, true, true, true, true, true, true, true, true, true, true, true, true, true, true, true, true, true, true, true, true] [(9, false), (16, false), (17, false), (18, false), (19, true), (20, true)] _ _ _ (by kernel_rfl) (HB) ?_
          refine seg_run rfl (fun K hK => ?_)
          go_simp
          refine (le_any l 4 _ (by omega)).mono ?_
          rintro e wL ⟨AL, nL, cL, rfl, oL, HLb⟩
          have HB := below_then HB HLb
          try have hMrow := (HLb.block _ hMlt).trans hMrow
          try have hMlt := Nat.lt_of_lt_of_le hMlt HLb.size
          try have rM := rM.below HLb
          try have rG := rG.below HLb
          try have rS := rS.below HLb
          have rL := oL.rd
          clear oL
          refine hK.out _ _ (HB) ?_
          clear hK
          try simp only [Act.put, List.setIfInBounds_toArray, List.set_cons_zero, List.set_cons_succ]
          refine seg_run rfl (fun K hK => ?_)
          rw [if_pos (by rfl)]
          refine op_lit #[.slice (some ⟨gM, 0, none⟩) 4 4, .slice AG nG cG, .slice AL nL cL, .slice (some ⟨gS, 0, none⟩) 1 1, .slice (some ⟨w.heap.size, 3, none⟩) 32 32] 30 5 rfl (fun w => by go_simp) ?_
          intro gP wP eP hProw HPb hPsz
          have HB := below_then HB HPb
          have rM := rM.below HPb
          have rG := rG.below HPb
          have rL := rL.below HPb
          have rS := rS.below HPb
          have rP := rdsAt hProw
          clear hProw
          refine hK.out _ _ (HB) ?_
          clear hK
          try simp only [Act.put, List.setIfInBounds_toArray, List.set_cons_zero, List.set_cons_succ]
          refine seg_run rfl (fun K hK => ?_)
          go_simp
          have hlen : ([[80, 72, 83, 66], leB g 4, leB l 4, [UInt8.ofNat s], D] : List (List UInt8)).flatten.length = 45 := by simp [leB_length, hD]
          refine (joined13_any _ 5 5 _ [[80, 72, 83, 66], leB g 4, leB l 4, [UInt8.ofNat s], D] _ rP rfl (by omega) ⟨⟨_, _, _, rfl, rM⟩, ⟨_, _, _, rfl, rG⟩, ⟨_, _, _, rfl, rL⟩, ⟨_, _, _, rfl, rS⟩, ⟨_, _, _, rfl, rD.below HB⟩, trivial⟩ (by rw [hlen]; omega)).mono ?_
          rintro e wJ ⟨AJ, nJ, cJ, rfl, oJ, HJb⟩
          have HB := below_then HB HJb
          rw [hlen, suB_flat] at oJ
          clear hlen
          obtain rfl : nJ = 252 := by rw [← oJ.len, suB_len _ _ _ _ hD]
          refine hK.out _ _ (HB) ?_
          clear hK
          try simp only [Act.put, List.setIfInBounds_toArray, List.set_cons_zero, List.set_cons_succ]
          refine seg_run rfl (fun K hK => ?_)
          go_simp
          refine (closed_any AJ 252 cJ _ _ oJ.rd (by omega)).mono ?_
          rintro e wC ⟨AC, nC, cC, rfl, oC, HCb⟩
          have HB0 := HB.size
          have HB := below_then HB HCb
          refine hK.out _ _ (HB) ?_
          clear hK
          try simp only [Act.put, List.setIfInBounds_toArray, List.set_cons_zero, List.set_cons_succ]
          iterate 2 (refine seg_take (v := ?_) rfl (Or.inl ⟨by rfl, ?_⟩) ?_; rotate_left; (focus (intro w' hw'; have j0 := (hw'.cell (p := ⟨w.heap.size, 0, none⟩) hz).trans c0; have j1 := (hw'.cell (p := ⟨w.heap.size, 1, none⟩) hz).trans c1; have j2 := (hw'.cell (p := ⟨w.heap.size, 2, none⟩) hz).trans c2; go_simp <;> with_reducible rfl)); try simp only [Act.put, List.setIfInBounds_toArray, List.set_cons_zero, List.set_cons_succ])
          refine seg_done (fun _ => ?_)
          refine wpAnyH_done (by kernel_rfl) ?_ _
          go_wp2
          go_ret2
          have zz := bW.size
          exact ⟨_, _, _, rfl, OwnB.mono oC (by omega), below_then bW HB⟩
        · skip
          refine op_run rfl (fun K hK => ?_)
          go_simp
          refine (le_any l 4 _ (by omega)).mono ?_
          rintro e wL ⟨AL, nL, cL, rfl, oL, HLb⟩
          have HB := below_then HB HLb
          try have hMrow := (HLb.block _ hMlt).trans hMrow
          try have hMlt := Nat.lt_of_lt_of_le hMlt HLb.size
          try have rM := rM.below HLb
          try have rG := rG.below HLb
          try have rS := rS.below HLb
          have rL := oL.rd
          clear oL
          refine hK.out _ _ (HB) ?_
          clear hK
          try simp only [Act.put, List.setIfInBounds_toArray, List.set_cons_zero, List.set_cons_succ]
          refine wpAnyH_seg (by kernel_rfl) (fun _ _ d _ _ h => by cases d <;> exact h) 0 #[true, true, true, true, true, true, true, true, true, true, true, true, true, true, true, true, true, true, true, true, true] [(1, false), (16, false), (17, false), (18, false), (19, true), (20, true)] _ _ _ (by kernel_rfl) (HB) ?_
          refine seg_run rfl (fun K hK => ?_)
          rw [if_pos (by rfl)]
          refine op_mark _ rfl gM 4 4 rfl _ _ hMrow HB hMW ?_
          intro wF HFs HB HFo
          try have rG := rG.same HFs
          try have rL := rL.same HFs
          try have rS := rS.same HFs
          have rM := (rdAt hMrow [80, 72, 83, 66] 4 rfl rfl (by simp [maxLen])).same HFs
          clear hMrow
          refine hK.out _ _ (HB) ?_
          clear hK
          try simp only [Act.put, List.setIfInBounds_toArray, List.set_cons_zero, List.set_cons_succ]
          refine seg_run rfl (fun K hK => ?_)
          rw [if_pos (by rfl)]
          refine op_lit #[.slice (some ⟨gM, 0, none⟩) 4 4, .slice AG nG cG, .slice AL nL cL, .slice (some ⟨gS, 0, none⟩) 1 1, .slice (some ⟨w.heap.size, 3, none⟩) 32 32] 30 5 rfl (fun w => by go_simp) ?_
          intro gP wP eP hProw HPb hPsz
          have HB := below_then HB HPb
          have rM := rM.below HPb
          have rG := rG.below HPb
          have rL := rL.below HPb
          have rS := rS.below HPb
          have rP := rdsAt hProw
          clear hProw
          refine hK.out _ _ (HB) ?_
          clear hK
          try simp only [Act.put, List.setIfInBounds_toArray, List.set_cons_zero, List.set_cons_succ]
          refine seg_run rfl (fun K hK => ?_)
          go_simp
          have hlen : ([[80, 72, 83, 66], leB g 4, leB l 4, [UInt8.ofNat s], D] : List (List UInt8)).flatten.length = 45 := by simp [leB_length, hD]
          refine (joined13_any _ 5 5 _ [[80, 72, 83, 66], leB g 4, leB l 4, [UInt8.ofNat s], D] _ rP rfl (by omega) ⟨⟨_, _, _, rfl, rM⟩, ⟨_, _, _, rfl, rG⟩, ⟨_, _, _, rfl, rL⟩, ⟨_, _, _, rfl, rS⟩, ⟨_, _, _, rfl, rD.below HB⟩, trivial⟩ (by rw [hlen]; omega)).mono ?_
          rintro e wJ ⟨AJ, nJ, cJ, rfl, oJ, HJb⟩
          have HB := below_then HB HJb
          rw [hlen, suB_flat] at oJ
          clear hlen
          obtain rfl : nJ = 252 := by rw [← oJ.len, suB_len _ _ _ _ hD]
          refine hK.out _ _ (HB) ?_
          clear hK
          try simp only [Act.put, List.setIfInBounds_toArray, List.set_cons_zero, List.set_cons_succ]
          refine seg_run rfl (fun K hK => ?_)
          go_simp
          refine (closed_any AJ 252 cJ _ _ oJ.rd (by omega)).mono ?_
          rintro e wC ⟨AC, nC, cC, rfl, oC, HCb⟩
          have HB0 := HB.size
          have HB := below_then HB HCb
          refine hK.out _ _ (HB) ?_
          clear hK
          try simp only [Act.put, List.setIfInBounds_toArray, List.set_cons_zero, List.set_cons_succ]
          iterate 2 (refine seg_take (v := ?_) rfl (Or.inl ⟨by rfl, ?_⟩) ?_; rotate_left; (focus (intro w' hw'; have j0 := (hw'.cell (p := ⟨w.heap.size, 0, none⟩) hz).trans c0; have j1 := (hw'.cell (p := ⟨w.heap.size, 1, none⟩) hz).trans c1; have j2 := (hw'.cell (p := ⟨w.heap.size, 2, none⟩) hz).trans c2; go_simp <;> with_reducible rfl)); try simp only [Act.put, List.setIfInBounds_toArray, List.set_cons_zero, List.set_cons_succ])
          refine seg_done (fun _ => ?_)
          refine wpAnyH_done (by kernel_rfl) ?_ _
          go_wp2
          go_ret2
          have zz := bW.size
          exact ⟨_, _, _, rfl, OwnB.mono oC (by omega), below_then bW HB⟩
      · skip
        refine op_run rfl (fun K hK => ?_)
        go_simp
        refine (le_any l 4 _ (by omega)).mono ?_
        rintro e wL ⟨AL, nL, cL, rfl, oL, HLb⟩
        have HB := below_then HB HLb
        try have hMrow := (HLb.block _ hMlt).trans hMrow
        try have hMlt := Nat.lt_of_lt_of_le hMlt HLb.size
        try have rM := rM.below HLb
        try have rG := rG.below HLb
        try have rS := rS.below HLb
        have rL := oL.rd
        clear oL
        refine hK.out _ _ (HB) ?_
        clear hK
        try simp only [Act.put, List.setIfInBounds_toArray, List.set_cons_zero, List.set_cons_succ]
        refine wpAnyH_seg (by kernel_rfl) (fun _ _ d _ _ h => by cases d <;> exact h) 0 #[true, true, true, true, true, true, true, true, true, true, true, true, true, true, true, true, true, true, true, true, true] [(0, false), (1, false), (16, false), (17, false), (18, false), (19, true), (20, true)] _ _ _ (by kernel_rfl) (HB) ?_
        refine seg_run rfl (fun K hK => ?_)
        rw [if_pos (by rfl)]
        refine op_lit #[.int .u8 80, .int .u8 72, .int .u8 83, .int .u8 66] 5 4 rfl (fun w => by go_simp) ?_
        intro gM wM eM hMrow HMb hMsz
        have hMle0 := HB.size
        have HB := below_then HB HMb
        try have rG := rG.below HMb
        try have rL := rL.below HMb
        try have rS := rS.below HMb
        have hMW : W.heap.size ≤ gM := by rw [← eM]; exact Nat.le_trans hMle0 (Nat.le_refl _)
        have hMlt : gM < wM.heap.size := by rw [hMsz]; exact Nat.lt_succ_self _
        refine hK.out _ _ (HB) ?_
        clear hK
        try simp only [Act.put, List.setIfInBounds_toArray, List.set_cons_zero, List.set_cons_succ]
        refine seg_run rfl (fun K hK => ?_)
        rw [if_pos (by rfl)]
        refine op_mark _ rfl gM 4 4 rfl _ _ hMrow HB hMW ?_
        intro wF HFs HB HFo
        try have rG := rG.same HFs
        try have rL := rL.same HFs
        try have rS := rS.same HFs
        have rM := (rdAt hMrow [80, 72, 83, 66] 4 rfl rfl (by simp [maxLen])).same HFs
        clear hMrow
        refine hK.out _ _ (HB) ?_
        clear hK
        try simp only [Act.put, List.setIfInBounds_toArray, List.set_cons_zero, List.set_cons_succ]
        refine seg_run rfl (fun K hK => ?_)
        rw [if_pos (by rfl)]
        refine op_lit #[.slice (some ⟨gM, 0, none⟩) 4 4, .slice AG nG cG, .slice AL nL cL, .slice (some ⟨gS, 0, none⟩) 1 1, .slice (some ⟨w.heap.size, 3, none⟩) 32 32] 30 5 rfl (fun w => by go_simp) ?_
        intro gP wP eP hProw HPb hPsz
        have HB := below_then HB HPb
        have rM := rM.below HPb
        have rG := rG.below HPb
        have rL := rL.below HPb
        have rS := rS.below HPb
        have rP := rdsAt hProw
        clear hProw
        refine hK.out _ _ (HB) ?_
        clear hK
        try simp only [Act.put, List.setIfInBounds_toArray, List.set_cons_zero, List.set_cons_succ]
        refine seg_run rfl (fun K hK => ?_)
        go_simp
        have hlen : ([[80, 72, 83, 66], leB g 4, leB l 4, [UInt8.ofNat s], D] : List (List UInt8)).flatten.length = 45 := by simp [leB_length, hD]
        refine (joined13_any _ 5 5 _ [[80, 72, 83, 66], leB g 4, leB l 4, [UInt8.ofNat s], D] _ rP rfl (by omega) ⟨⟨_, _, _, rfl, rM⟩, ⟨_, _, _, rfl, rG⟩, ⟨_, _, _, rfl, rL⟩, ⟨_, _, _, rfl, rS⟩, ⟨_, _, _, rfl, rD.below HB⟩, trivial⟩ (by rw [hlen]; omega)).mono ?_
        rintro e wJ ⟨AJ, nJ, cJ, rfl, oJ, HJb⟩
        have HB := below_then HB HJb
        rw [hlen, suB_flat] at oJ
        clear hlen
        obtain rfl : nJ = 252 := by rw [← oJ.len, suB_len _ _ _ _ hD]
        refine hK.out _ _ (HB) ?_
        clear hK
        try simp only [Act.put, List.setIfInBounds_toArray, List.set_cons_zero, List.set_cons_succ]
        refine seg_run rfl (fun K hK => ?_)
        go_simp
        refine (closed_any AJ 252 cJ _ _ oJ.rd (by omega)).mono ?_
        rintro e wC ⟨AC, nC, cC, rfl, oC, HCb⟩
        have HB0 := HB.size
        have HB := below_then HB HCb
        refine hK.out _ _ (HB) ?_
        clear hK
        try simp only [Act.put, List.setIfInBounds_toArray, List.set_cons_zero, List.set_cons_succ]
        iterate 2 (refine seg_take (v := ?_) rfl (Or.inl ⟨by rfl, ?_⟩) ?_; rotate_left; (focus (intro w' hw'; have j0 := (hw'.cell (p := ⟨w.heap.size, 0, none⟩) hz).trans c0; have j1 := (hw'.cell (p := ⟨w.heap.size, 1, none⟩) hz).trans c1; have j2 := (hw'.cell (p := ⟨w.heap.size, 2, none⟩) hz).trans c2; go_simp <;> with_reducible rfl)); try simp only [Act.put, List.setIfInBounds_toArray, List.set_cons_zero, List.set_cons_succ])
        refine seg_done (fun _ => ?_)
        refine wpAnyH_done (by kernel_rfl) ?_ _
        go_wp2
        go_ret2
        have zz := bW.size
        exact ⟨_, _, _, rfl, OwnB.mono oC (by omega), below_then bW HB⟩
  · skip
    refine op_run rfl (fun K hK => ?_)
    rw [if_pos (by rfl)]
    refine op_lit #[.int .u8 (((UInt8.ofNat s).toNat : Nat) : Int)] 5 1 rfl (fun w => by go_simp) ?_
    intro gS wS eS hSrow HSb hSsz
    have HB := below_then HB HSb
    try have hMrow := (HSb.block _ hMlt).trans hMrow
    try have hMlt := Nat.lt_of_lt_of_le hMlt HSb.size
    try have rM := rM.below HSb
    try have rG := rG.below HSb
    try have rL := rL.below HSb
    have rS := rdAt hSrow [UInt8.ofNat s] 1 rfl rfl (by simp [maxLen])
    clear hSrow
    refine hK.out _ _ (HB) ?_
    clear hK
    try simp only [Act.put, List.setIfInBounds_toArray, List.set_cons_zero, List.set_cons_succ]
    refine wpAnyH_seg (by kernel_rfl) (fun _ _ d _ _ h => by cases d <;> exact h) 9 #[false, false, true, true, true, false, true, true, true, false, true, true, true, true, true, true, false, false, false, false, false] [] _ _ _ (by kernel_rfl) (HB) ?_
    refine seg_done (fun _ => ?_)
    refine wpAnyH_two (i := 0) (j := 5) (f := 8) (by kernel_rfl) ?_ ?_
    · skip
      refine op_run rfl (fun K hK => ?_)
      rw [if_pos (by rfl)]
      refine op_lit #[.int .u8 80, .int .u8 72, .int .u8 83, .int .u8 66] 5 4 rfl (fun w => by go_simp) ?_
      intro gM wM eM hMrow HMb hMsz
      have hMle0 := HB.size
      have HB := below_then HB HMb
      try have rG := rG.below HMb
      try have rL := rL.below HMb
      try have rS := rS.below HMb
      have hMW : W.heap.size ≤ gM := by rw [← eM]; exact Nat.le_trans hMle0 (Nat.le_refl _)
      have hMlt : gM < wM.heap.size := by rw [hMsz]; exact Nat.lt_succ_self _
      refine hK.out _ _ (HB) ?_
      clear hK
      try simp only [Act.put, List.setIfInBounds_toArray, List.set_cons_zero, List.set_cons_succ]
      refine wpAnyH_seg (by kernel_rfl) (fun _ _ d _ _ h => by cases d <;> exact h) 8 #[true, false, true, true, true, false, true, true, true, false, true, true, true, true, true, true, false, false, false, false, false] [] _ _ _ (by kernel_rfl) (HB) ?_
      refine seg_done (fun _ => ?_)
      refine wpAnyH_two (i := 1) (j := 5) (f := 7) (by kernel_rfl) ?_ ?_
      · skip
        refine op_run rfl (fun K hK => ?_)
        rw [if_pos (by rfl)]
        refine op_mark _ rfl gM 4 4 rfl _ _ hMrow HB hMW ?_
        intro wF HFs HB HFo
        try have rG := rG.same HFs
        try have rL := rL.same HFs
        try have rS := rS.same HFs
        have rM := (rdAt hMrow [80, 72, 83, 66] 4 rfl rfl (by simp [maxLen])).same HFs
        clear hMrow
        refine hK.out _ _ (HB) ?_
        clear hK
        try simp only [Act.put, List.setIfInBounds_toArray, List.set_cons_zero, List.set_cons_succ]
        refine wpAnyH_seg (by kernel_rfl) (fun _ _ d _ _ h => by cases d <;> exact h) 0 #[true, true, true, true, true, true, true, true, true, true, true, true, true, true, true, true, true, true, true, true, true] [(5, false), (9, false), (16, false), (17, false), (18, false), (19, true), (20, true)] _ _ _ (by kernel_rfl) (HB) ?_
        refine seg_run rfl (fun K hK => ?_)
        go_simp
        refine (le_any g 4 _ (by omega)).mono ?_
        rintro e wG ⟨AG, nG, cG, rfl, oG, HGb⟩
        have HB := below_then HB HGb
        try have hMrow := (HGb.block _ hMlt).trans hMrow
        try have hMlt := Nat.lt_of_lt_of_le hMlt HGb.size
        try have rM := rM.below HGb
        try have rS := rS.below HGb
        have rG := oG.rd
        clear oG
        refine hK.out _ _ (HB) ?_
        clear hK
        try simp only [Act.put, List.setIfInBounds_toArray, List.set_cons_zero, List.set_cons_succ]
        refine seg_run rfl (fun K hK => ?_)
        go_simp
        refine (le_any l 4 _ (by omega)).mono ?_
        rintro e wL ⟨AL, nL, cL, rfl, oL, HLb⟩
        have HB := below_then HB HLb
        try have hMrow := (HLb.block _ hMlt).trans hMrow
        try have hMlt := Nat.lt_of_lt_of_le hMlt HLb.size
        try have rM := rM.below HLb
        try have rG := rG.below HLb
        try have rS := rS.below HLb
        have rL := oL.rd
        clear oL
        refine hK.out _ _ (HB) ?_
        clear hK
        try simp only [Act.put, List.setIfInBounds_toArray, List.set_cons_zero, List.set_cons_succ]
        refine seg_run rfl (fun K hK => ?_)
        rw [if_pos (by rfl)]
        refine op_lit #[.slice (some ⟨gM, 0, none⟩) 4 4, .slice AG nG cG, .slice AL nL cL, .slice (some ⟨gS, 0, none⟩) 1 1, .slice (some ⟨w.heap.size, 3, none⟩) 32 32] 30 5 rfl (fun w => by go_simp) ?_
        intro gP wP eP hProw HPb hPsz
        have HB := below_then HB HPb
        have rM := rM.below HPb
        have rG := rG.below HPb
        have rL := rL.below HPb
        have rS := rS.below HPb
        have rP := rdsAt hProw
        clear hProw
        refine hK.out _ _ (HB) ?_
        clear hK
        try simp only [Act.put, List.setIfInBounds_toArray, List.set_cons_zero, List.set_cons_succ]
        refine seg_run rfl (fun K hK => ?_)
        go_simp
        have hlen : ([[80, 72, 83, 66], leB g 4, leB l 4, [UInt8.ofNat s], D] : List (List UInt8)).flatten.length = 45 := by simp [leB_length, hD]
        refine (joined13_any _ 5 5 _ [[80, 72, 83, 66], leB g 4, leB l 4, [UInt8.ofNat s], D] _ rP rfl (by omega) ⟨⟨_, _, _, rfl, rM⟩, ⟨_, _, _, rfl, rG⟩, ⟨_, _, _, rfl, rL⟩, ⟨_, _, _, rfl, rS⟩, ⟨_, _, _, rfl, rD.below HB⟩, trivial⟩ (by rw [hlen]; omega)).mono ?_
        rintro e wJ ⟨AJ, nJ, cJ, rfl, oJ, HJb⟩
        have HB := below_then HB HJb
        rw [hlen, suB_flat] at oJ
        clear hlen
        obtain rfl : nJ = 252 := by rw [← oJ.len, suB_len _ _ _ _ hD]
        refine hK.out _ _ (HB) ?_
        clear hK
        try simp only [Act.put, List.setIfInBounds_toArray, List.set_cons_zero, List.set_cons_succ]
        refine seg_run rfl (fun K hK => ?_)
        go_simp
        refine (closed_any AJ 252 cJ _ _ oJ.rd (by omega)).mono ?_
        rintro e wC ⟨AC, nC, cC, rfl, oC, HCb⟩
        have HB0 := HB.size
        have HB := below_then HB HCb
        refine hK.out _ _ (HB) ?_
        clear hK
        try simp only [Act.put, List.setIfInBounds_toArray, List.set_cons_zero, List.set_cons_succ]
        iterate 2 (refine seg_take (v := ?_) rfl (Or.inl ⟨by rfl, ?_⟩) ?_; rotate_left; (focus (intro w' hw'; have j0 := (hw'.cell (p := ⟨w.heap.size, 0, none⟩) hz).trans c0; have j1 := (hw'.cell (p := ⟨w.heap.size, 1, none⟩) hz).trans c1; have j2 := (hw'.cell (p := ⟨w.heap.size, 2, none⟩) hz).trans c2; go_simp <;> with_reducible rfl)); try simp only [Act.put, List.setIfInBounds_toArray, List.set_cons_zero, List.set_cons_succ])
        refine seg_done (fun _ => ?_)
        refine wpAnyH_done (by kernel_rfl) ?_ _
        go_wp2
        go_ret2
        have zz := bW.size
        exact ⟨_, _, _, rfl, OwnB.mono oC (by omega), below_then bW HB⟩
      · skip
        refine op_run rfl (fun K hK => ?_)
        go_simp
        refine (le_any g 4 _ (by omega)).mono ?_
        rintro e wG ⟨AG, nG, cG, rfl, oG, HGb⟩
        have HB := below_then HB HGb
        try have hMrow := (HGb.block _ hMlt).trans hMrow
        try have hMlt := Nat.lt_of_lt_of_le hMlt HGb.size
        try have rM := rM.below HGb
        try have rS := rS.below HGb
        have rG := oG.rd
        clear oG
        refine hK.out _ _ (HB) ?_
        clear hK
        try simp only [Act.put, List.setIfInBounds_toArray, List.set_cons_zero, List.set_cons_succ]
        refine wpAnyH_seg (by kernel_rfl) (fun _ _ d _ _ h => by cases d <;> exact h) 7 #[true, false, true, true, true, true, true, true, true, false, true, true, true, true, true, true, false, false, false, false, false] [] _ _ _ (by kernel_rfl) (HB) ?_
        refine seg_done (fun _ => ?_)
        refine wpAnyH_two (i := 1) (j := 9) (f := 6) (by kernel_rfl) ?_ ?_
        · skip
          refine op_run rfl (fun K hK => ?_)
          rw [if_pos (by rfl)]
          refine op_mark _ rfl gM 4 4 rfl _ _ hMrow HB hMW ?_
          intro wF HFs HB HFo
          try have rG := rG.same HFs
          try have rL := rL.same HFs
          try have rS := rS.same HFs
          have rM := (rdAt hMrow [80, 72, 83, 66] 4 rfl rfl (by simp [maxLen])).same HFs
          clear hMrow
          refine hK.out _ _ (HB) ?_
          clear hK
          try simp only [Act.put, List.setIfInBounds_toArray, List.set_cons_zero, List.set_cons_succ]
          refine wpAnyH_seg (by kernel_rfl) (fun _ _ d _ _ h => by cases d <;> exact h) 0 #[true, true, true, true, true, true, true, true, true, true, true, true, true, true, true, true, true, true, true, true, true] [(9, false), (16, false), (17, false), (18, false), (19, true), (20, true)] _ _ _ (by kernel_rfl) (HB) ?_
          refine seg_run rfl (fun K hK => ?_)
          go_simp
          refine (le_any l 4 _ (by omega)).mono ?_
          rintro e wL ⟨AL, nL, cL, rfl, oL, HLb⟩
          have HB := below_then HB HLb
          try have hMrow := (HLb.block _ hMlt).trans hMrow
          try have hMlt := Nat.lt_of_lt_of_le hMlt HLb.size
          try have rM := rM.below HLb
          try have rG := rG.below HLb
          try have rS := rS.below HLb
          have rL := oL.rd
          clear oL
          refine hK.out _ _ (HB) ?_
          clear hK
          try simp only [Act.put, List.setIfInBounds_toArray, List.set_cons_zero, List.set_cons_succ]
          refine seg_run rfl (fun K hK => ?_)
          rw [if_pos (by rfl)]
          refine op_lit #[.slice (some ⟨gM, 0, none⟩) 4 4, .slice AG nG cG, .slice AL nL cL, .slice (some ⟨gS, 0, none⟩) 1 1, .slice (some ⟨w.heap.size, 3, none⟩) 32 32] 30 5 rfl (fun w => by go_simp) ?_
          intro gP wP eP hProw HPb hPsz
          have HB := below_then HB HPb
          have rM := rM.below HPb
          have rG := rG.below HPb
          have rL := rL.below HPb
          have rS := rS.below HPb
          have rP := rdsAt hProw
          clear hProw
          refine hK.out _ _ (HB) ?_
          clear hK
          try simp only [Act.put, List.setIfInBounds_toArray, List.set_cons_zero, List.set_cons_succ]
          refine seg_run rfl (fun K hK => ?_)
          go_simp
          have hlen : ([[80, 72, 83, 66], leB g 4, leB l 4, [UInt8.ofNat s], D] : List (List UInt8)).flatten.length = 45 := by simp [leB_length, hD]
          refine (joined13_any _ 5 5 _ [[80, 72, 83, 66], leB g 4, leB l 4, [UInt8.ofNat s], D] _ rP rfl (by omega) ⟨⟨_, _, _, rfl, rM⟩, ⟨_, _, _, rfl, rG⟩, ⟨_, _, _, rfl, rL⟩, ⟨_, _, _, rfl, rS⟩, ⟨_, _, _, rfl, rD.below HB⟩, trivial⟩ (by rw [hlen]; omega)).mono ?_
          rintro e wJ ⟨AJ, nJ, cJ, rfl, oJ, HJb⟩
          have HB := below_then HB HJb
          rw [hlen, suB_flat] at oJ
          clear hlen
          obtain rfl : nJ = 252 := by rw [← oJ.len, suB_len _ _ _ _ hD]
          refine hK.out _ _ (HB) ?_
          clear hK
          try simp only [Act.put, List.setIfInBounds_toArray, List.set_cons_zero, List.set_cons_succ]
          refine seg_run rfl (fun K hK => ?_)
          go_simp
          refine (closed_any AJ 252 cJ _ _ oJ.rd (by omega)).mono ?_
          rintro e wC ⟨AC, nC, cC, rfl, oC, HCb⟩
          have HB0 := HB.size
          have HB := below_then HB HCb
          refine hK.out _ _ (HB) ?_
          clear hK
          try simp only [Act.put, List.setIfInBounds_toArray, List.set_cons_zero, List.set_cons_succ]
          iterate 2 (refine seg_take (v := ?_) rfl (Or.inl ⟨by rfl, ?_⟩) ?_; rotate_left; (focus (intro w' hw'; have j0 := (hw'.cell (p := ⟨w.heap.size, 0, none⟩) hz).trans c0; have j1 := (hw'.cell (p := ⟨w.heap.size, 1, none⟩) hz).trans c1; have j2 := (hw'.cell (p := ⟨w.heap.size, 2, none⟩) hz).trans c2; go_simp <;> with_reducible rfl)); try simp only [Act.put, List.setIfInBounds_toArray, List.set_cons_zero, List.set_cons_succ])
          refine seg_done (fun _ => ?_)
          refine wpAnyH_done (by kernel_rfl) ?_ _
          go_wp2
          go_ret2
          have zz := bW.size
          exact ⟨_, _, _, rfl, OwnB.mono oC (by omega), below_then bW HB⟩
        · skip
          refine op_run rfl (fun K hK => ?_)
          go_simp
          refine (le_any l 4 _ (by omega)).mono ?_
          rintro e wL ⟨AL, nL, cL, rfl, oL, HLb⟩
          have HB := below_then HB HLb
          try have hMrow := (HLb.block _ hMlt).trans hMrow
          try have hMlt := Nat.lt_of_lt_of_le hMlt HLb.size
          try have rM := rM.below HLb
          try have rG := rG.below HLb
          try have rS := rS.below HLb
          have rL := oL.rd
          clear oL
          refine hK.out _ _ (HB) ?_
          clear hK
          try simp only [Act.put, List.setIfInBounds_toArray, List.set_cons_zero, List.set_cons_succ]
          refine wpAnyH_seg (by kernel_rfl) (fun _ _ d _ _ h => by cases d <;> exact h) 0 #[true, true, true, true, true, true, true, true, true, true, true, true, true, true, true, true, true, true, true, true, true] [(1, false), (16, false), (17, false), (18, false), (19, true), (20, true)] _ _ _ (by kernel_rfl) (HB) ?_
          refine seg_run rfl (fun K hK => ?_)
          rw [if_pos (by rfl)]
          refine op_mark _ rfl gM 4 4 rfl _ _ hMrow HB hMW ?_
          intro wF HFs HB HFo
          try have rG := rG.same HFs
          try have rL := rL.same HFs
          try have rS := rS.same HFs
          have rM := (rdAt hMrow [80, 72, 83, 66] 4 rfl rfl (by simp [maxLen])).same HFs
          clear hMrow
          refine hK.out _ _ (HB) ?_
          clear hK
          try simp only [Act.put, List.setIfInBounds_toArray, List.set_cons_zero, List.set_cons_succ]
          refine seg_run rfl (fun K hK => ?_)
          rw [if_pos (by rfl)]
          refine op_lit #[.slice (some ⟨gM, 0, none⟩) 4 4, .slice AG nG cG, .slice AL nL cL, .slice (some ⟨gS, 0, none⟩) 1 1, .slice (some ⟨w.heap.size, 3, none⟩) 32 32] 30 5 rfl (fun w => by go_simp) ?_
          intro gP wP eP hProw HPb hPsz
          have HB := below_then HB HPb
          have rM := rM.below HPb
          have rG := rG.below HPb
          have rL := rL.below HPb
          have rS := rS.below HPb
          have rP := rdsAt hProw
          clear hProw
          refine hK.out _ _ (HB) ?_
          clear hK
          try simp only [Act.put, List.setIfInBounds_toArray, List.set_cons_zero, List.set_cons_succ]
          refine seg_run rfl (fun K hK => ?_)
          go_simp
          have hlen : ([[80, 72, 83, 66], leB g 4, leB l 4, [UInt8.ofNat s], D] : List (List UInt8)).flatten.length = 45 := by simp [leB_length, hD]
          refine (joined13_any _ 5 5 _ [[80, 72, 83, 66], leB g 4, leB l 4, [UInt8.ofNat s], D] _ rP rfl (by omega) ⟨⟨_, _, _, rfl, rM⟩, ⟨_, _, _, rfl, rG⟩, ⟨_, _, _, rfl, rL⟩, ⟨_, _, _, rfl, rS⟩, ⟨_, _, _, rfl, rD.below HB⟩, trivial⟩ (by rw [hlen]; omega)).mono ?_
          rintro e wJ ⟨AJ, nJ, cJ, rfl, oJ, HJb⟩
          have HB := below_then HB HJb
          rw [hlen, suB_flat] at oJ
          clear hlen
          obtain rfl : nJ = 252 := by rw [← oJ.len, suB_len _ _ _ _ hD]
          refine hK.out _ _ (HB) ?_
          clear hK
          try simp only [Act.put, List.setIfInBounds_toArray, List.set_cons_zero, List.set_cons_succ]
          refine seg_run rfl (fun K hK => ?_)
          go_simp
          refine (closed_any AJ 252 cJ _ _ oJ.rd (by omega)).mono ?_
          rintro e wC ⟨AC, nC, cC, rfl, oC, HCb⟩
          have HB0 := HB.size
          have HB := below_then HB HCb
          refine hK.out _ _ (HB) ?_
          clear hK
          try simp only [Act.put, List.setIfInBounds_toArray, List.set_cons_zero, List.set_cons_succ]
          iterate 2 (refine seg_take (v := ?_) rfl (Or.inl ⟨by rfl, ?_⟩) ?_; rotate_left; (focus (intro w' hw'; have j0 := (hw'.cell (p := ⟨w.heap.size, 0, none⟩) hz).trans c0; have j1 := (hw'.cell (p := ⟨w.heap.size, 1, none⟩) hz).trans c1; have j2 := (hw'.cell (p := ⟨w.heap.size, 2, none⟩) hz).trans c2; go_simp <;> with_reducible rfl)); try simp only [Act.put, List.setIfInBounds_toArray, List.set_cons_zero, List.set_cons_succ])
          refine seg_done (fun _ => ?_)
          refine wpAnyH_done (by kernel_rfl) ?_ _
          go_wp2
          go_ret2
          have zz := bW.size
          exact ⟨_, _, _, rfl, OwnB.mono oC (by omega), below_then bW HB⟩
    · skip
      refine op_run rfl (fun K hK => ?_)
      go_simp
      refine (le_any g 4 _ (by omega)).mono ?_
      rintro e wG ⟨AG, nG, cG, rfl, oG, HGb⟩
      have HB := below_then HB HGb
      try have hMrow := (HGb.block _ hMlt).trans hMrow
      try have hMlt := Nat.lt_of_lt_of_le hMlt HGb.size
      try have rM := rM.below HGb
      try have rS := rS.below HGb
      have rG := oG.rd
      clear oG
      refine hK.out _ _ (HB) ?_
      clear hK
      try simp only [Act.put, List.setIfInBounds_toArray, List.set_cons_zero, List.set_cons_succ]
      refine wpAnyH_seg (by kernel_rfl) (fun _ _ d _ _ h => by cases d <;> exact h) 8 #[false, false, true, true, true, true, true, true, true, false, true, true, true, true, true, true, false, false, false, false, false] [] _ _ _ (by kernel_rfl) (HB) ?_
      refine seg_done (fun _ => ?_)
      refine wpAnyH_two (i := 0) (j := 9) (f := 7) (by kernel_rfl) ?_ ?_
      · skip
        refine op_run rfl (fun K hK => ?_)
        rw [if_pos (by rfl)]
        refine op_lit #[.int .u8 80, .int .u8 72, .int .u8 83, .int .u8 66] 5 4 rfl (fun w => by go_simp) ?_
        intro gM wM eM hMrow HMb hMsz
        have hMle0 := HB.size
        have HB := below_then HB HMb
        try have rG := rG.below HMb
        try have rL := rL.below HMb
        try have rS := rS.below HMb
        have hMW : W.heap.size ≤ gM := by rw [← eM]; exact Nat.le_trans hMle0 (Nat.le_refl _)
        have hMlt : gM < wM.heap.size := by rw [hMsz]; exact Nat.lt_succ_self _
        refine hK.out _ _ (HB) ?_
        clear hK
        try simp only [Act.put, List.setIfInBounds_toArray, List.set_cons_zero, List.set_cons_succ]
        refine wpAnyH_seg (by kernel_rfl) (fun _ _ d _ _ h => by cases d <;> exact h) 7 #[true, false, true, true, true, true, true, true, true, false, true, true, true, true, true, true, false, false, false, false, false] [] _ _ _ (by kernel_rfl) (HB) ?_
        refine seg_done (fun _ => ?_)
        refine wpAnyH_two (i := 1) (j := 9) (f := 6) (by kernel_rfl) ?_ ?_
        · skip
          refine op_run rfl (fun K hK => ?_)
          rw [if_pos (by rfl)]
          refine op_mark _ rfl gM 4 4 rfl _ _ hMrow HB hMW ?_
          intro wF HFs HB HFo
          try have rG := rG.same HFs
          try have rL := rL.same HFs
          try have rS := rS.same HFs
          have rM := (rdAt hMrow [80, 72, 83, 66] 4 rfl rfl (by simp [maxLen])).same HFs
          clear hMrow
          refine hK.out _ _ (HB) ?_
          clear hK
          try simp only [Act.put, List.setIfInBounds_toArray, List.set_cons_zero, List.set_cons_succ]
          refine wpAnyH_seg (by kernel_rfl) (fun _ _ d _ _ h => by cases d <;> exact h) 0 #[true, true, true, true, true, true, true, true, true, true, true, true, true, true, true, true, true, true, true, true, true] [(9, false), (16, false), (17, false), (18, false), (19, true), (20, true)] _ _ _ (by kernel_rfl) (HB) ?_
          refine seg_run rfl (fun K hK => ?_)
          go_simp
          refine (le_any l 4 _ (by omega)).mono ?_
          rintro e wL ⟨AL, nL, cL, rfl, oL, HLb⟩
          have HB := below_then HB HLb
          try have hMrow := (HLb.block _ hMlt).trans hMrow
          try have hMlt := Nat.lt_of_lt_of_le hMlt HLb.size
          try have rM := rM.below HLb
          try have rG := rG.below HLb
          try have rS := rS.below HLb
          have rL := oL.rd
          clear oL
          refine hK.out _ _ (HB) ?_
          clear hK
          try simp only [Act.put, List.setIfInBounds_toArray, List.set_cons_zero, List.set_cons_succ]
          refine seg_run rfl (fun K hK => ?_)
          rw [if_pos (by rfl)]
          refine op_lit #[.slice (some ⟨gM, 0, none⟩) 4 4, .slice AG nG cG, .slice AL nL cL, .slice (some ⟨gS, 0, none⟩) 1 1, .slice (some ⟨w.heap.size, 3, none⟩) 32 32] 30 5 rfl (fun w => by go_simp) ?_
          intro gP wP eP hProw HPb hPsz
          have HB := below_then HB HPb
          have rM := rM.below HPb
          have rG := rG.below HPb
          have rL := rL.below HPb
          have rS := rS.below HPb
          have rP := rdsAt hProw
          clear hProw
          refine hK.out _ _ (HB) ?_
          clear hK
          try simp only [Act.put, List.setIfInBounds_toArray, List.set_cons_zero, List.set_cons_succ]
          refine seg_run rfl (fun K hK => ?_)
          go_simp
          have hlen : ([[80, 72, 83, 66], leB g 4, leB l 4, [UInt8.ofNat s], D] : List (List UInt8)).flatten.length = 45 := by simp [leB_length, hD]
          refine (joined13_any _ 5 5 _ [[80, 72, 83, 66], leB g 4, leB l 4, [UInt8.ofNat s], D] _ rP rfl (by omega) ⟨⟨_, _, _, rfl, rM⟩, ⟨_, _, _, rfl, rG⟩, ⟨_, _, _, rfl, rL⟩, ⟨_, _, _, rfl, rS⟩, ⟨_, _, _, rfl, rD.below HB⟩, trivial⟩ (by rw [hlen]; omega)).mono ?_
          rintro e wJ ⟨AJ, nJ, cJ, rfl, oJ, HJb⟩
          have HB := below_then HB HJb
          rw [hlen, suB_flat] at oJ
          clear hlen
          obtain rfl : nJ = 252 := by rw [← oJ.len, suB_len _ _ _ _ hD]
          refine hK.out _ _ (HB) ?_
          clear hK
          try simp only [Act.put, List.setIfInBounds_toArray, List.set_cons_zero, List.set_cons_succ]
          refine seg_run rfl (fun K hK => ?_)
          go_simp
          refine (closed_any AJ 252 cJ _ _ oJ.rd (by omega)).mono ?_
          rintro e wC ⟨AC, nC, cC, rfl, oC, HCb⟩
          have HB0 := HB.size
          have HB := below_then HB HCb
          refine hK.out _ _ (HB) ?_
          clear hK
          try simp only [Act.put, List.setIfInBounds_toArray, List.set_cons_zero, List.set_cons_succ]
          iterate 2 (refine seg_take (v := ?_) rfl (Or.inl ⟨by rfl, ?_⟩) ?_; rotate_left; (focus (intro w' hw'; have j0 := (hw'.cell (p := ⟨w.heap.size, 0, none⟩) hz).trans c0; have j1 := (hw'.cell (p := ⟨w.heap.size, 1, none⟩) hz).trans c1; have j2 := (hw'.cell (p := ⟨w.heap.size, 2, none⟩) hz).trans c2; go_simp <;> with_reducible rfl)); try simp only [Act.put, List.setIfInBounds_toArray, List.set_cons_zero, List.set_cons_succ])
          refine seg_done (fun _ => ?_)
          refine wpAnyH_done (by kernel_rfl) ?_ _
          go_wp2
          go_ret2
          have zz := bW.size
          exact ⟨_, _, _, rfl, OwnB.mono oC (by omega), below_then bW HB⟩
        · skip
          refine op_run rfl (fun K hK => ?_)
          go_simp
          refine (le_any l 4 _ (by omega)).mono ?_
          rintro e wL ⟨AL, nL, cL, rfl, oL, HLb⟩
          have HB := below_then HB HLb
          try have hMrow := (HLb.block _ hMlt).trans hMrow
          try have hMlt := Nat.lt_of_lt_of_le hMlt HLb.size
          try have rM := rM.below HLb
          try have rG := rG.below HLb
          try have rS := rS.below HLb
          have rL := oL.rd
          clear oL
          refine hK.out _ _ (HB) ?_
          clear hK
          try simp only [Act.put, List.setIfInBounds_toArray, List.set_cons_zero, List.set_cons_succ]
          refine wpAnyH_seg (by kernel_rfl) (fun _ _ d _ _ h => by cases d <;> exact h) 0 #[true, true, true, true, true, true, true, true, true, true, true, true, true, true, true, true, true, true, true, true, true] [(1, false), (16, false), (17, false), (18, false), (19, true), (20, true)] _ _ _ (by kernel_rfl) (HB) ?_
          refine seg_run rfl (fun K hK => ?_)
          rw [if_pos (by rfl)]
          refine op_mark _ rfl gM 4 4 rfl _ _ hMrow HB hMW ?_
          intro wF HFs HB HFo
          try have rG := rG.same HFs
          try have rL := rL.same HFs
          try have rS := rS.same HFs
          have rM := (rdAt hMrow [80, 72, 83, 66] 4 rfl rfl (by simp [maxLen])).same HFs
          clear hMrow
          refine hK.out _ _ (HB) ?_
          clear hK
          try simp only [Act.put, List.setIfInBounds_toArray, List.set_cons_zero, List.set_cons_succ]
          refine seg_run rfl (fun K hK => ?_)
          rw [if_pos (by rfl)]
          refine op_lit #[.slice (some ⟨gM, 0, none⟩) 4 4, .slice AG nG cG, .slice AL nL cL, .slice (some ⟨gS, 0, none⟩) 1 1, .slice (some ⟨w.heap.size, 3, none⟩) 32 32] 30 5 rfl (fun w => by go_simp) ?_
          intro gP wP eP hProw HPb hPsz
          have HB := below_then HB HPb
          have rM := rM.below HPb
          have rG := rG.below HPb
          have rL := rL.below HPb
          have rS := rS.below HPb
          have rP := rdsAt hProw
          clear hProw
          refine hK.out _ _ (HB) ?_
          clear hK
          try simp only [Act.put, List.setIfInBounds_toArray, List.set_cons_zero, List.set_cons_succ]
          refine seg_run rfl (fun K hK => ?_)
          go_simp
          have hlen : ([[80, 72, 83, 66], leB g 4, leB l 4, [UInt8.ofNat s], D] : List (List UInt8)).flatten.length = 45 := by simp [leB_length, hD]
          refine (joined13_any _ 5 5 _ [[80, 72, 83, 66], leB g 4, leB l 4, [UInt8.ofNat s], D] _ rP rfl (by omega) ⟨⟨_, _, _, rfl, rM⟩, ⟨_, _, _, rfl, rG⟩, ⟨_, _, _, rfl, rL⟩, ⟨_, _, _, rfl, rS⟩, ⟨_, _, _, rfl, rD.below HB⟩, trivial⟩ (by rw [hlen]; omega)).mono ?_
          rintro e wJ ⟨AJ, nJ, cJ, rfl, oJ, HJb⟩
          have HB := below_then HB HJb
          rw [hlen, suB_flat] at oJ
          clear hlen
          obtain rfl : nJ = 252 := by rw [← oJ.len, suB_len _ _ _ _ hD]
          refine hK.out _ _ (HB) ?_
          clear hK
          try simp only [Act.put, List.setIfInBounds_toArray, List.set_cons_zero, List.set_cons_succ]
          refine seg_run rfl (fun K hK => ?_)
          go_simp
          refine (closed_any AJ 252 cJ _ _ oJ.rd (by omega)).mono ?_
          rintro e wC ⟨AC, nC, cC, rfl, oC, HCb⟩
          have HB0 := HB.size
          have HB := below_then HB HCb
          refine hK.out _ _ (HB) ?_
          clear hK
          try simp only [Act.put, List.setIfInBounds_toArray, List.set_cons_zero, List.set_cons_succ]
          iterate 2 (refine seg_take (v := ?_) rfl (Or.inl ⟨by rfl, ?_⟩) ?_; rotate_left; (focus (intro w' hw'; have j0 := (hw'.cell (p := ⟨w.heap.size, 0, none⟩) hz).trans c0; have j1 := (hw'.cell (p := ⟨w.heap.size, 1, none⟩) hz).trans c1; have j2 := (hw'.cell (p := ⟨w.heap.size, 2, none⟩) hz).trans c2; go_simp <;> with_reducible rfl)); try simp only [Act.put, List.setIfInBounds_toArray, List.set_cons_zero, List.set_cons_succ])
          refine seg_done (fun _ => ?_)
          refine wpAnyH_done (by kernel_rfl) ?_ _
          go_wp2
          go_ret2
          have zz := bW.size
          exact ⟨_, _, _, rfl, OwnB.mono oC (by omega), below_then bW HB⟩
      · skip
        refine op_run rfl (fun K hK => ?_)
        go_simp
        refine (le_any l 4 _ (by omega)).mono ?_
        rintro e wL ⟨AL, nL, cL, rfl, oL, HLb⟩
        have HB := below_then HB HLb
        try have hMrow := (HLb.block _ hMlt).trans hMrow
        try have hMlt := Nat.lt_of_lt_of_le hMlt HLb.size
        try have rM := rM.below HLb
        try have rG := rG.below HLb
        try have rS := rS.below HLb
        have rL := oL.rd
        clear oL
        refine hK.out _ _ (HB) ?_
        clear hK
        try simp only [Act.put, List.setIfInBounds_toArray, List.set_cons_zero, List.set_cons_succ]
        refine wpAnyH_seg (by kernel_rfl) (fun _ _ d _ _ h => by cases d <;> exact h) 0 #[true, true, true, true, true, true, true, true, true, true, true, true, true, true, true, true, true, true, true, true, true] [(0, false), (1, false), (16, false), (17, false), (18, false), (19, true), (20, true)] _ _ _ (by kernel_rfl) (HB) ?_
        refine seg_run rfl (fun K hK => ?_)
        rw [if_pos (by rfl)]
        refine op_lit #[.int .u8 80, .int .u8 72, .int .u8 83, .int .u8 66] 5 4 rfl (fun w => by go_simp) ?_
        intro gM wM eM hMrow HMb hMsz
        have hMle0 := HB.size
        have HB := below_then HB HMb
        try have rG := rG.below HMb
        try have rL := rL.below HMb
        try have rS := rS.below HMb
        have hMW : W.heap.size ≤ gM := by rw [← eM]; exact Nat.le_trans hMle0 (Nat.le_refl _)
        have hMlt : gM < wM.heap.size := by rw [hMsz]; exact Nat.lt_succ_self _
        refine hK.out _ _ (HB) ?_
        clear hK
        try simp only [Act.put, List.setIfInBounds_toArray, List.set_cons_zero, List.set_cons_succ]
        refine seg_run rfl (fun K hK => ?_)
        rw [if_pos (by rfl)]
        refine op_mark _ rfl gM 4 4 rfl _ _ hMrow HB hMW ?_
        intro wF HFs HB HFo
        try have rG := rG.same HFs
        try have rL := rL.same HFs
        try have rS := rS.same HFs
        have rM := (rdAt hMrow [80, 72, 83, 66] 4 rfl rfl (by simp [maxLen])).same HFs
        clear hMrow
        refine hK.out _ _ (HB) ?_
        clear hK
        try simp only [Act.put, List.setIfInBounds_toArray, List.set_cons_zero, List.set_cons_succ]
        refine seg_run rfl (fun K hK => ?_)
        rw [if_pos (by rfl)]
        refine op_lit #[.slice (some ⟨gM, 0, none⟩) 4 4, .slice AG nG cG, .slice AL nL cL, .slice (some ⟨gS, 0, none⟩) 1 1, .slice (some ⟨w.heap.size, 3, none⟩) 32 32] 30 5 rfl (fun w => by go_simp) ?_
        intro gP wP eP hProw HPb hPsz
        have HB := below_then HB HPb
        have rM := rM.below HPb
        have rG := rG.below HPb
        have rL := rL.below HPb
        have rS := rS.below HPb
        have rP := rdsAt hProw
        clear hProw
        refine hK.out _ _ (HB) ?_
        clear hK
        try simp only [Act.put, List.setIfInBounds_toArray, List.set_cons_zero, List.set_cons_succ]
        refine seg_run rfl (fun K hK => ?_)
        go_simp
        have hlen : ([[80, 72, 83, 66], leB g 4, leB l 4, [UInt8.ofNat s], D] : List (List UInt8)).flatten.length = 45 := by simp [leB_length, hD]
        refine (joined13_any _ 5 5 _ [[80, 72, 83, 66], leB g 4, leB l 4, [UInt8.ofNat s], D] _ rP rfl (by omega) ⟨⟨_, _, _, rfl, rM⟩, ⟨_, _, _, rfl, rG⟩, ⟨_, _, _, rfl, rL⟩, ⟨_, _, _, rfl, rS⟩, ⟨_, _, _, rfl, rD.below HB⟩, trivial⟩ (by rw [hlen]; omega)).mono ?_
        rintro e wJ ⟨AJ, nJ, cJ, rfl, oJ, HJb⟩
        have HB := below_then HB HJb
        rw [hlen, suB_flat] at oJ
        clear hlen
        obtain rfl : nJ = 252 := by rw [← oJ.len, suB_len _ _ _ _ hD]
        refine hK.out _ _ (HB) ?_
        clear hK
        try simp only [Act.put, List.setIfInBounds_toArray, List.set_cons_zero, List.set_cons_succ]
        refine seg_run rfl (fun K hK => ?_)
        go_simp
        refine (closed_any AJ 252 cJ _ _ oJ.rd (by omega)).mono ?_
        rintro e wC ⟨AC, nC, cC, rfl, oC, HCb⟩
        have HB0 := HB.size
        have HB := below_then HB HCb
        refine hK.out _ _ (HB) ?_
        clear hK
        try simp only [Act.put, List.setIfInBounds_toArray, List.set_cons_zero, List.set_cons_succ]
        iterate 2 (refine seg_take (v := ?_) rfl (Or.inl ⟨by rfl, ?_⟩) ?_; rotate_left; (focus (intro w' hw'; have j0 := (hw'.cell (p := ⟨w.heap.size, 0, none⟩) hz).trans c0; have j1 := (hw'.cell (p := ⟨w.heap.size, 1, none⟩) hz).trans c1; have j2 := (hw'.cell (p := ⟨w.heap.size, 2, none⟩) hz).trans c2; go_simp <;> with_reducible rfl)); try simp only [Act.put, List.setIfInBounds_toArray, List.set_cons_zero, List.set_cons_succ])
        refine seg_done (fun _ => ?_)
        refine wpAnyH_done (by kernel_rfl) ?_ _
        go_wp2
        go_ret2
        have zz := bW.size
        exact ⟨_, _, _, rfl, OwnB.mono oC (by omega), below_then bW HB⟩

theorem suPut_any (g : Nat) (s l : Int) (D : List UInt8) (w : World) (hg : g < 4294967296) (hs : -9223372036854775808 ≤ s ∧ s ≤ 9223372036854775807) (hD : D.length = 32) :
    Calls Try.prog 16 #[.agg (suV g s l D)] w (RetBE w (suPutL g s l D) (suPutE s l)) := by
  unfold suPutL suPutE
  cases h : suCheck s l with
  | false => rw [if_neg (by decide), if_neg (by decide)]; exact suPut_no g s l D w hs hD h
  | true =>
    rw [if_pos rfl, if_pos rfl]
    have hc' := of_decide_eq_true h
    obtain ⟨p, rfl⟩ : ∃ p : Nat, s = (p : Int) := ⟨s.toNat, by omega⟩
    obtain ⟨q, rfl⟩ : ∃ q : Nat, l = (q : Int) := ⟨l.toNat, by omega⟩
    exact suPut_yes g p q D w hg hD h
end Go.Proofs.Ytmbdfanaegadjaa
