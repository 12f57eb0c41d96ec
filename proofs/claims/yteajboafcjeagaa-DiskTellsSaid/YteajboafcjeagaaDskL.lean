/-
  Layer 5: disks: the law's heads.
-/
import Derived.Test.YteajboafcjeagaaDskK
namespace Go.Proofs.Yteajboafcjeagaa
set_option maxRecDepth 20000
open Go.RowKit
set_option linter.unusedVariables false
set_option linter.unusedSimpArgs false
set_option maxHeartbeats 8000000

def hdZ : List UInt8 := List.replicate 256 0
def hd5 : List UInt8 := List.replicate 256 5
def hdT : List UInt8 := hd5.set 3 4
instance : DecidableEq Dk := fun a b => decidable_of_iff (a.s = b.s ∧ a.k = b.k) ⟨fun h => by cases a; cases b; simp only at h; rw [h.1, h.2], fun h => by rw [h]; exact ⟨rfl, rfl⟩⟩
set_option maxRecDepth 100000 in
theorem hd_facts : dkNew 2 = ⟨[hdZ, hdZ], []⟩ ∧ dkNewE 2 = 0 ∧ dkWrite ⟨[hdZ, hdZ], []⟩ 0 hd5 = ⟨[hdZ, hdZ], [(0, hd5)]⟩ ∧ dkWriteE ⟨[hdZ, hdZ], []⟩ 0 hd5 = 0 ∧ dkRead ⟨[hdZ, hdZ], [(0, hd5)]⟩ 0 = hd5 ∧ dkAsk ⟨[hdZ, hdZ], [(0, hd5)]⟩ 0 = 0 ∧
    dkCrash ⟨[hdZ, hdZ], [(0, hd5)]⟩ [] = ⟨[hdZ, hdZ], []⟩ ∧ dkE ⟨[hdZ, hdZ], [(0, hd5)]⟩ = 0 ∧ dkCrash ⟨[hdZ, hdZ], [(0, hd5)]⟩ [true] = ⟨[hd5, hdZ], []⟩ ∧ dkRead ⟨[hdZ, hdZ], []⟩ 0 = hdZ ∧ dkAsk ⟨[hdZ, hdZ], []⟩ 0 = 0 ∧ dkRead ⟨[hd5, hdZ], []⟩ 0 = hd5 ∧ dkAsk ⟨[hd5, hdZ], []⟩ 0 = 0 ∧
    dkWriteE ⟨[hdZ, hdZ], []⟩ 2 hd5 = 50 ∧ dkTamper ⟨[hd5, hdZ], []⟩ 0 3 1 = ⟨[hdT, hdZ], []⟩ ∧ dkTamperE ⟨[hd5, hdZ], []⟩ 0 3 = 0 ∧ dkRead ⟨[hdT, hdZ], []⟩ 0 = hdT ∧ dkAsk ⟨[hdT, hdZ], []⟩ 0 = 0 ∧ dkFlush ⟨[hdZ, hdZ], [(0, hd5)]⟩ = ⟨[hd5, hdZ], []⟩ ∧ dkOk ⟨[hd5, hdZ], []⟩ = true ∧ hdT.length = 256 ∧ hdT[3]? = some 4 := by
  decide +kernel
theorem cut6 {G : Prop} {R : World → Nat → Array Value → Prop} {P : World → Nat → Array Value → Option Addr → Nat → Nat → Prop} (T : ∀ U g AV AS nS cS, R U g AV → P U g AV AS nS cS) (M : (∀ U g AV AS nS cS, R U g AV → P U g AV AS nS cS) → G) : G := M T
theorem heads05 (w : World) : Calls Try.prog 11 #[] w (RetV w (.bool true)) := by
  obtain ⟨e1, e2, e3, e4, e5, e6, e7, e8, e9, e10, e11, e12, e13, e14, e15, e16, e17, e18, e19, e20, e21, e22⟩ := hd_facts
  obtain ⟨D0, hD0⟩ : ∃ D : Dk, ⟨[hdZ, hdZ], []⟩ = D := ⟨_, rfl⟩
  obtain ⟨D1, hD1⟩ : ∃ D : Dk, ⟨[hdZ, hdZ], [(0, hd5)]⟩ = D := ⟨_, rfl⟩
  obtain ⟨D3, hD3⟩ : ∃ D : Dk, ⟨[hd5, hdZ], []⟩ = D := ⟨_, rfl⟩
  obtain ⟨D4, hD4⟩ : ∃ D : Dk, ⟨[hdT, hdZ], []⟩ = D := ⟨_, rfl⟩
  obtain ⟨Y5, hY5⟩ : ∃ y, hd5 = y := ⟨_, rfl⟩
  obtain ⟨Y0, hY0⟩ : ∃ y, hdZ = y := ⟨_, rfl⟩
  obtain ⟨YT, hYT⟩ : ∃ y, hdT = y := ⟨_, rfl⟩
  have k3 : D3.k.length = 0 := by rw [← hD3]; rfl
  simp only [hD0, hD1, hD3, hD4] at e1 e3 e4 e5 e6 e7 e8 e9 e10 e11 e12 e13 e14 e15 e16 e17 e18 e19 e20
  rw [hY5] at e3 e4 e5 e12 e14
  rw [hY0] at e10
  rw [hYT] at e17 e21 e22
  have C0 := Lib.hid (fun W => vNew 2 W (by omega))
  rw [e1, e2] at C0
  have CS := Lib.hid (fun W => sector_any 5 W)
  rw [show List.replicate 256 (5 : UInt8) = hd5 from rfl, hY5] at CS
  have CZ := Lib.hid (fun W => sector_any 0 W)
  rw [show List.replicate 256 (0 : UInt8) = hdZ from rfl, hY0] at CZ
  have C1 := Lib.hid (fun (AV : Array Value) (W : World) (B : Option Addr) (m d : Nat) (v : DkVal AV W D0) (hd : RdB W B m d Y5) => vWriteQ v 0 B m d Y5 (by omega) hd)
  rw [e3, e4] at C1
  have C2 := Lib.hid (fun (AV : Array Value) (W : World) (B : Option Addr) (m d : Nat) (v : DkVal AV W D0) (hd : RdB W B m d Y5) => vWriteQ v 2 B m d Y5 (by omega) hd)
  rw [e14] at C2
  have C3 := Lib.hid (fun (AV : Array Value) (W : World) (v : DkVal AV W D1) => vRead v 0 (by omega))
  rw [e5, e6] at C3
  have C4 := Lib.hid (fun (AV : Array Value) (W : World) (v : DkVal AV W D1) => vCrash v none 0 0 [] (rdBo_nil W))
  rw [e7, e8] at C4
  have C5 := Lib.hid (fun (AV : Array Value) (W : World) (v : DkVal AV W D1) (A : Option Addr) (n c : Nat) (hb : RdBo W A n c [true]) => vCrash v A n c [true] hb)
  rw [e9, e8] at C5
  have C6 := Lib.hid (fun (AV : Array Value) (W : World) (v : DkVal AV W D0) => vRead v 0 (by omega))
  rw [e10, e11] at C6
  have C7 := Lib.hid (fun (AV : Array Value) (W : World) (v : DkVal AV W D3) => vRead v 0 (by omega))
  rw [e12, e13] at C7
  have C8 := Lib.hid (fun (AV : Array Value) (W : World) (v : DkVal AV W D3) => vTamper v 0 3 1 (by omega) (by omega))
  rw [e15, e16] at C8
  have C9 := Lib.hid (fun (AV : Array Value) (W : World) (v : DkVal AV W D4) => vRead v 0 (by omega))
  rw [e17, e18] at C9
  have CA := Lib.hid (fun (AV : Array Value) (W : World) (v : DkVal AV W D1) => vFlush v)
  rw [e19, e8] at CA
  have CB := Lib.hid (fun (AV : Array Value) (W : World) (v : DkVal AV W D3) => vCheck v)
  rw [e20] at CB
  have HL := Lib.hid e21
  have HT3 := Lib.hid e22
  have K3 := Lib.hid k3
  clear e1 e2 e3 e4 e5 e6 e7 e8 e9 e10 e11 e12 e13 e14 e15 e16 e17 e18 e19 e20 e21 e22 hD0 hD1 hD3 hD4 hY5 hY0 hYT k3
  go_enter Try.func11, Try.ntmps11
  go_wp2_with fail
  refine (C0.out w).mono ?_
  rintro e w1 ⟨A0, rfl, v0, hb1⟩
  have B := hb1
  go_wp2_with (refine dk_fresh rfl _ _ rfl rfl rfl w1 rfl rfl v0 ?_; intro X0 q0 x0)
  have B := below_then B x0
  go_wp2_with fail
  apply cut6 (R := fun U g AV => Hid (DkV U g AV (D1)) ∧ Below X0.heap.size X0 U)
  rotate_left
  · intro TL
    refine wp_region_seg (S := fun w' => Below X0.heap.size X0 w') 8 #[true, false, false, false, false, false, false, false, false] [(0, true)] (by kernel_rfl) (by kernel_rfl) (fun _ _ d _ _ h => by first | (cases d <;> exact h) | cases h.1) ((Below.refl X0.heap.size X0).drew) ?_
    have HB := (Below.refl X0.heap.size X0).drew
    refine seg_take (v := .agg A0) rfl (Or.inl ⟨by rfl, fun w' hw' => ?_⟩) ?_
    focus (exact dex_load rfl rfl (dk_run w' q0.out hw'))
    try simp only [Act.put, List.setIfInBounds_toArray, List.set_cons_zero, List.set_cons_succ]
    refine seg_done (fun _ => ?_)
    refine wpAnyH_two (i := 1) (j := 6) (f := 7) (by kernel_rfl) ?_ ?_
    · skip
      refine op_run rfl (fun K hK => ?_)
      go_simp
      refine (CS.out _).mono ?_
      rintro e_ wS ⟨AS, nS, cS, rfl, oS, hbS⟩
      try have hL := (hbS.block _ (by omega)).trans hL
      try have hLlt := Nat.lt_of_lt_of_le hLlt hbS.size
      have rS := oS.rd
      have HB := below_then HB hbS
      refine hK.out _ _ (HB) ?_
      clear hK
      try simp only [Act.put, List.setIfInBounds_toArray, List.set_cons_zero, List.set_cons_succ]
      refine wpAnyH_seg (by kernel_rfl) (fun _ _ d _ _ h => by first | (cases d <;> exact h) | cases h.1) 7 #[true, true, false, false, false, false, false, false, false] [] _ _ _ (by kernel_rfl) (HB) ?_
      refine seg_done (fun _ => ?_)
      refine wpAnyH_two (i := 2) (j := 6) (f := 6) (by kernel_rfl) ?_ ?_
      · skip
        refine op_run rfl (fun K hK => ?_)
        go_simp
        refine (C1.out A0 _ AS nS cS (q0.out.up HB).2 rS).mono ?_
        rintro e_ wC ⟨A1, rfl, vC, hbC, hQ⟩
        try have vQ := fun cs => hQ g1 cs _ _ _ hL (q0.out.2.st HB hgle cs)
        try have hL := (hbC.block _ (by omega)).trans hL
        try have hLlt := Nat.lt_of_lt_of_le hLlt hbC.size
        have HB := below_then HB hbC
        refine hK.out _ _ (HB) ?_
        clear hK
        try simp only [Act.put, List.setIfInBounds_toArray, List.set_cons_zero, List.set_cons_succ]
        refine wpAnyH_seg (by kernel_rfl) (fun _ _ d _ _ h => by first | (cases d <;> exact h) | cases h.1) 0 #[true, true, true, true, true, true, true, true, true] [(3, true), (4, true), (5, true), (6, false), (7, false), (8, true)] _ _ _ (by kernel_rfl) (HB) ?_
        iterate 3 (refine seg_take (v := ?_) rfl (Or.inl ⟨by rfl, ?_⟩) ?_; rotate_left; (focus (intro w' hw'; go_simp <;> with_reducible rfl)); try simp only [Act.put, List.setIfInBounds_toArray, List.set_cons_zero, List.set_cons_succ])
        refine seg_run rfl (fun K hK => ?_)
        rw [if_pos (by rfl)]
        refine op_new #[.slice none 0 0, .slice none 0 0] 25 (fun w => by go_simp) ?_
        intro g1 wL eL hL HBl hLsz
        have HBz := HB.size
        have hgle : X0.heap.size ≤ g1 := by omega
        have hLlt : g1 < wL.heap.size := by omega
        try have rS := rS.below HBl
        try have vQ := fun cs => vC.below (below_setRow HBl (Nat.le_of_eq eL) cs)
        try have vC := vC.below HBl
        have HB := below_then HB HBl
        clear eL hLsz HBz
        refine hK.out _ _ (HB) ?_
        clear hK
        try simp only [Act.put, List.setIfInBounds_toArray, List.set_cons_zero, List.set_cons_succ]
        refine seg_run rfl (fun K hK => ?_)
        rw [if_pos (by rfl)]
        refine wp_store_row _ _ _ rfl g1 A1 rfl rfl _ _ hL vC.info (by rw [vC.size]; rfl) vC.one ?_
        have HB := below_setRow HB hgle A1
        refine hK.out _ _ (HB) ?_
        clear hK
        try simp only [Act.put, List.setIfInBounds_toArray, List.set_cons_zero, List.set_cons_succ]
        iterate 1 (refine seg_take (v := ?_) rfl (Or.inl ⟨by rfl, ?_⟩) ?_; rotate_left; (focus (intro w' hw'; go_simp <;> with_reducible rfl)); try simp only [Act.put, List.setIfInBounds_toArray, List.set_cons_zero, List.set_cons_succ])
        refine seg_done (fun _ => ?_)
        refine wpAnyH_done (by kernel_rfl) ?_ _
        have hrw := setRow_heap _ g1 _ A1 _ _ hL
        have vF := vQ A1
        obtain ⟨U1, hU⟩ : ∃ U, U = wL.setRow g1 A1 := ⟨_, rfl⟩
        first
          | (rw [← hU] at hrw HB vF ⊢)
          | (clear hU; obtain ⟨U1, hU⟩ : ∃ U, U = wC.setRow g1 A1 := ⟨_, rfl⟩; rw [← hU] at hrw HB vF ⊢)
        exact TL U1 g1 A1 AS nS cS ⟨Lib.hid ⟨hrw, vF⟩, HB⟩
      · skip
        refine op_run rfl (fun K hK => ?_)
        rw [if_pos (by rfl)]
        refine op_new #[.slice none 0 0, .slice none 0 0] 25 (fun w => by go_simp) ?_
        intro g1 wL eL hL HBl hLsz
        have HBz := HB.size
        have hgle : X0.heap.size ≤ g1 := by omega
        have hLlt : g1 < wL.heap.size := by omega
        try have rS := rS.below HBl
        try have vQ := fun cs => vC.below (below_setRow HBl (Nat.le_of_eq eL) cs)
        try have vC := vC.below HBl
        have HB := below_then HB HBl
        clear eL hLsz HBz
        refine hK.out _ _ (HB) ?_
        clear hK
        try simp only [Act.put, List.setIfInBounds_toArray, List.set_cons_zero, List.set_cons_succ]
        refine wpAnyH_seg (by kernel_rfl) (fun _ _ d _ _ h => by first | (cases d <;> exact h) | cases h.1) 0 #[true, true, true, true, true, true, true, true, true] [(2, false), (3, true), (4, true), (5, true), (7, false), (8, true)] _ _ _ (by kernel_rfl) (HB) ?_
        refine seg_run rfl (fun K hK => ?_)
        go_simp
        refine (C1.out A0 _ AS nS cS (q0.out.up HB).2 rS).mono ?_
        rintro e_ wC ⟨A1, rfl, vC, hbC, hQ⟩
        try have vQ := fun cs => hQ g1 cs _ _ _ hL (q0.out.2.st HB hgle cs)
        try have hL := (hbC.block _ (by omega)).trans hL
        try have hLlt := Nat.lt_of_lt_of_le hLlt hbC.size
        have HB := below_then HB hbC
        refine hK.out _ _ (HB) ?_
        clear hK
        try simp only [Act.put, List.setIfInBounds_toArray, List.set_cons_zero, List.set_cons_succ]
        iterate 3 (refine seg_take (v := ?_) rfl (Or.inl ⟨by rfl, ?_⟩) ?_; rotate_left; (focus (intro w' hw'; go_simp <;> with_reducible rfl)); try simp only [Act.put, List.setIfInBounds_toArray, List.set_cons_zero, List.set_cons_succ])
        refine seg_run rfl (fun K hK => ?_)
        rw [if_pos (by rfl)]
        refine wp_store_row _ _ _ rfl g1 A1 rfl rfl _ _ hL vC.info (by rw [vC.size]; rfl) vC.one ?_
        have HB := below_setRow HB hgle A1
        refine hK.out _ _ (HB) ?_
        clear hK
        try simp only [Act.put, List.setIfInBounds_toArray, List.set_cons_zero, List.set_cons_succ]
        iterate 1 (refine seg_take (v := ?_) rfl (Or.inl ⟨by rfl, ?_⟩) ?_; rotate_left; (focus (intro w' hw'; go_simp <;> with_reducible rfl)); try simp only [Act.put, List.setIfInBounds_toArray, List.set_cons_zero, List.set_cons_succ])
        refine seg_done (fun _ => ?_)
        refine wpAnyH_done (by kernel_rfl) ?_ _
        have hrw := setRow_heap _ g1 _ A1 _ _ hL
        have vF := vQ A1
        obtain ⟨U1, hU⟩ : ∃ U, U = wL.setRow g1 A1 := ⟨_, rfl⟩
        first
          | (rw [← hU] at hrw HB vF ⊢)
          | (clear hU; obtain ⟨U1, hU⟩ : ∃ U, U = wC.setRow g1 A1 := ⟨_, rfl⟩; rw [← hU] at hrw HB vF ⊢)
        exact TL U1 g1 A1 AS nS cS ⟨Lib.hid ⟨hrw, vF⟩, HB⟩
    · skip
      refine op_run rfl (fun K hK => ?_)
      rw [if_pos (by rfl)]
      refine op_new #[.slice none 0 0, .slice none 0 0] 25 (fun w => by go_simp) ?_
      intro g1 wL eL hL HBl hLsz
      have HBz := HB.size
      have hgle : X0.heap.size ≤ g1 := by omega
      have hLlt : g1 < wL.heap.size := by omega
      try have rS := rS.below HBl
      try have vQ := fun cs => vC.below (below_setRow HBl (Nat.le_of_eq eL) cs)
      try have vC := vC.below HBl
      have HB := below_then HB HBl
      clear eL hLsz HBz
      refine hK.out _ _ (HB) ?_
      clear hK
      try simp only [Act.put, List.setIfInBounds_toArray, List.set_cons_zero, List.set_cons_succ]
      refine wpAnyH_seg (by kernel_rfl) (fun _ _ d _ _ h => by first | (cases d <;> exact h) | cases h.1) 0 #[true, true, true, true, true, true, true, true, true] [(1, false), (2, false), (3, true), (4, true), (5, true), (7, false), (8, true)] _ _ _ (by kernel_rfl) (HB) ?_
      refine seg_run rfl (fun K hK => ?_)
      go_simp
      refine (CS.out _).mono ?_
      rintro e_ wS ⟨AS, nS, cS, rfl, oS, hbS⟩
      try have hL := (hbS.block _ (by omega)).trans hL
      try have hLlt := Nat.lt_of_lt_of_le hLlt hbS.size
      have rS := oS.rd
      have HB := below_then HB hbS
      refine hK.out _ _ (HB) ?_
      clear hK
      try simp only [Act.put, List.setIfInBounds_toArray, List.set_cons_zero, List.set_cons_succ]
      refine seg_run rfl (fun K hK => ?_)
      go_simp
      refine (C1.out A0 _ AS nS cS (q0.out.up HB).2 rS).mono ?_
      rintro e_ wC ⟨A1, rfl, vC, hbC, hQ⟩
      try have vQ := fun cs => hQ g1 cs _ _ _ hL (q0.out.2.st HB hgle cs)
      try have hL := (hbC.block _ (by omega)).trans hL
      try have hLlt := Nat.lt_of_lt_of_le hLlt hbC.size
      have HB := below_then HB hbC
      refine hK.out _ _ (HB) ?_
      clear hK
      try simp only [Act.put, List.setIfInBounds_toArray, List.set_cons_zero, List.set_cons_succ]
      iterate 3 (refine seg_take (v := ?_) rfl (Or.inl ⟨by rfl, ?_⟩) ?_; rotate_left; (focus (intro w' hw'; go_simp <;> with_reducible rfl)); try simp only [Act.put, List.setIfInBounds_toArray, List.set_cons_zero, List.set_cons_succ])
      refine seg_run rfl (fun K hK => ?_)
      rw [if_pos (by rfl)]
      refine wp_store_row _ _ _ rfl g1 A1 rfl rfl _ _ hL vC.info (by rw [vC.size]; rfl) vC.one ?_
      have HB := below_setRow HB hgle A1
      refine hK.out _ _ (HB) ?_
      clear hK
      try simp only [Act.put, List.setIfInBounds_toArray, List.set_cons_zero, List.set_cons_succ]
      iterate 1 (refine seg_take (v := ?_) rfl (Or.inl ⟨by rfl, ?_⟩) ?_; rotate_left; (focus (intro w' hw'; go_simp <;> with_reducible rfl)); try simp only [Act.put, List.setIfInBounds_toArray, List.set_cons_zero, List.set_cons_succ])
      refine seg_done (fun _ => ?_)
      refine wpAnyH_done (by kernel_rfl) ?_ _
      have hrw := setRow_heap _ g1 _ A1 _ _ hL
      have vF := vQ A1
      obtain ⟨U1, hU⟩ : ∃ U, U = wL.setRow g1 A1 := ⟨_, rfl⟩
      first
        | (rw [← hU] at hrw HB vF ⊢)
        | (clear hU; obtain ⟨U1, hU⟩ : ∃ U, U = wC.setRow g1 A1 := ⟨_, rfl⟩; rw [← hU] at hrw HB vF ⊢)
      exact TL U1 g1 A1 AS nS cS ⟨Lib.hid ⟨hrw, vF⟩, HB⟩
  rintro U1 g1 A1 AS nS cS ⟨q1, HB⟩
  have q0 := Lib.hid (q0.out.up HB)
  have B := below_then B HB
  clear HB
  go_wp2_with (refine dk_load rfl _ rfl rfl q1.out ?_)
  refine (C3.out A1 U1 q1.out.2).mono ?_
  rintro e w3 ⟨A3, n3, c3, rfl, o3, hb3⟩
  have q0 := Lib.hid (q0.out.up hb3)
  have q1 := Lib.hid (q1.out.up hb3)
  have B := below_then B hb3
  have r3 := o3.rd
  clear o3
  go_wp2_with (refine dk_load rfl _ rfl rfl q1.out ?_)
  refine (C4.out A1 w3 q1.out.2).mono ?_
  rintro e w4 ⟨A4, rfl, v4, hb4⟩
  have q0 := Lib.hid (q0.out.up hb4)
  have q1 := Lib.hid (q1.out.up hb4)
  have r3 := r3.below hb4
  have B := below_then B hb4
  go_wp2_with (first | (refine dk_fresh rfl _ _ rfl rfl rfl w4 rfl rfl v4 ?_; intro X4 q4 x4; have q1 := Lib.hid (q1.out.up x4)) | (refine dk_load rfl _ rfl rfl q1.out ?_))
  have q0 := Lib.hid (q0.out.up x4)
  have r3 := r3.below x4
  have B := below_then B x4
  obtain ⟨W5, hW5⟩ : ∃ W, W = X4.alloc (.cells #[.bool true] 4) := ⟨_, rfl⟩
  rw [← hW5]
  have x5 : Below X4.heap.size X4 W5 := by rw [hW5]; exact (below_self X4).alloc (Nat.le_refl _) _
  have b5 : RdBo W5 (some ⟨X4.heap.size, 0, none⟩) 1 1 [true] := ⟨by rw [hW5]; exact Rd.new X4 #[.bool true] _, rfl, Nat.le_refl _, by simp [maxLen]⟩
  clear hW5
  have q0 := Lib.hid (q0.out.up x5)
  have r3 := r3.below x5
  have q1 := Lib.hid (q1.out.up x5)
  have q4 := Lib.hid (q4.out.up x5)
  have B := below_then B x5
  refine (C5.out A1 W5 q1.out.2 _ 1 1 b5).mono ?_
  rintro e w5 ⟨A5, rfl, v5, hb5⟩
  have q0 := Lib.hid (q0.out.up hb5)
  have r3 := r3.below hb5
  have q1 := Lib.hid (q1.out.up hb5)
  have q4 := Lib.hid (q4.out.up hb5)
  have B := below_then B hb5
  go_wp2_with (first | (refine dk_fresh rfl _ _ rfl rfl rfl w5 rfl rfl v5 ?_; intro X5 q5 x6; have q4 := Lib.hid (q4.out.up x6)) | (refine dk_load rfl _ rfl rfl q4.out ?_))
  have q0 := Lib.hid (q0.out.up x6)
  have r3 := r3.below x6
  have q1 := Lib.hid (q1.out.up x6)
  have B := below_then B x6
  refine (C6.out A4 X5 q4.out.2).mono ?_
  rintro e w6 ⟨A6, n6, c6, rfl, o6, hb6⟩
  have q0 := Lib.hid (q0.out.up hb6)
  have r3 := r3.below hb6
  have q1 := Lib.hid (q1.out.up hb6)
  have q4 := Lib.hid (q4.out.up hb6)
  have q5 := Lib.hid (q5.out.up hb6)
  have B := below_then B hb6
  have r6 := o6.rd
  clear o6
  go_wp2_with (refine dk_load rfl _ rfl rfl q5.out ?_)
  refine (C7.out A5 w6 q5.out.2).mono ?_
  rintro e w7 ⟨A7, n7, c7, rfl, o7, hb7⟩
  have q0 := Lib.hid (q0.out.up hb7)
  have r3 := r3.below hb7
  have q1 := Lib.hid (q1.out.up hb7)
  have q4 := Lib.hid (q4.out.up hb7)
  have q5 := Lib.hid (q5.out.up hb7)
  have r6 := r6.below hb7
  have B := below_then B hb7
  have r7 := o7.rd
  clear o7 b5
  go_wp2_with fail
  apply cut6 (R := fun U g AV => Hid (DkV U g AV (dkWrite D0 2 Y5)) ∧ Below w7.heap.size w7 U)
  rotate_left
  · intro TL
    refine wp_region_seg (S := fun w' => Below w7.heap.size w7 w') 8 #[true, false, false, false, false, false, false, false, false] [(0, true)] (by kernel_rfl) (by kernel_rfl) (fun _ _ d _ _ h => by first | (cases d <;> exact h) | cases h.1) ((Below.refl w7.heap.size w7).drew) ?_
    have HB := (Below.refl w7.heap.size w7).drew
    refine seg_take (v := .agg A0) rfl (Or.inl ⟨by rfl, fun w' hw' => ?_⟩) ?_
    focus (exact dex_load rfl rfl (dk_run w' q0.out hw'))
    try simp only [Act.put, List.setIfInBounds_toArray, List.set_cons_zero, List.set_cons_succ]
    refine seg_done (fun _ => ?_)
    refine wpAnyH_two (i := 1) (j := 6) (f := 7) (by kernel_rfl) ?_ ?_
    · skip
      refine op_run rfl (fun K hK => ?_)
      go_simp
      refine (CS.out _).mono ?_
      rintro e_ wS ⟨AS, nS, cS, rfl, oS, hbS⟩
      try have hL := (hbS.block _ (by omega)).trans hL
      try have hLlt := Nat.lt_of_lt_of_le hLlt hbS.size
      have rS := oS.rd
      have HB := below_then HB hbS
      refine hK.out _ _ (HB) ?_
      clear hK
      try simp only [Act.put, List.setIfInBounds_toArray, List.set_cons_zero, List.set_cons_succ]
      refine wpAnyH_seg (by kernel_rfl) (fun _ _ d _ _ h => by first | (cases d <;> exact h) | cases h.1) 7 #[true, true, false, false, false, false, false, false, false] [] _ _ _ (by kernel_rfl) (HB) ?_
      refine seg_done (fun _ => ?_)
      refine wpAnyH_two (i := 2) (j := 6) (f := 6) (by kernel_rfl) ?_ ?_
      · skip
        refine op_run rfl (fun K hK => ?_)
        go_simp
        refine (C2.out A0 _ AS nS cS (q0.out.up HB).2 rS).mono ?_
        rintro e_ wC ⟨A8, rfl, vC, hbC, hQ⟩
        try have vQ := fun cs => hQ g8 cs _ _ _ hL (q0.out.2.st HB hgle cs)
        try have hL := (hbC.block _ (by omega)).trans hL
        try have hLlt := Nat.lt_of_lt_of_le hLlt hbC.size
        have HB := below_then HB hbC
        refine hK.out _ _ (HB) ?_
        clear hK
        try simp only [Act.put, List.setIfInBounds_toArray, List.set_cons_zero, List.set_cons_succ]
        refine wpAnyH_seg (by kernel_rfl) (fun _ _ d _ _ h => by first | (cases d <;> exact h) | cases h.1) 0 #[true, true, true, true, true, true, true, true, true] [(3, true), (4, true), (5, true), (6, false), (7, false), (8, true)] _ _ _ (by kernel_rfl) (HB) ?_
        iterate 3 (refine seg_take (v := ?_) rfl (Or.inl ⟨by rfl, ?_⟩) ?_; rotate_left; (focus (intro w' hw'; go_simp <;> with_reducible rfl)); try simp only [Act.put, List.setIfInBounds_toArray, List.set_cons_zero, List.set_cons_succ])
        refine seg_run rfl (fun K hK => ?_)
        rw [if_pos (by rfl)]
        refine op_new #[.slice none 0 0, .slice none 0 0] 25 (fun w => by go_simp) ?_
        intro g8 wL eL hL HBl hLsz
        have HBz := HB.size
        have hgle : w7.heap.size ≤ g8 := by omega
        have hLlt : g8 < wL.heap.size := by omega
        try have rS := rS.below HBl
        try have vQ := fun cs => vC.below (below_setRow HBl (Nat.le_of_eq eL) cs)
        try have vC := vC.below HBl
        have HB := below_then HB HBl
        clear eL hLsz HBz
        refine hK.out _ _ (HB) ?_
        clear hK
        try simp only [Act.put, List.setIfInBounds_toArray, List.set_cons_zero, List.set_cons_succ]
        refine seg_run rfl (fun K hK => ?_)
        rw [if_pos (by rfl)]
        refine wp_store_row _ _ _ rfl g8 A8 rfl rfl _ _ hL vC.info (by rw [vC.size]; rfl) vC.one ?_
        have HB := below_setRow HB hgle A8
        refine hK.out _ _ (HB) ?_
        clear hK
        try simp only [Act.put, List.setIfInBounds_toArray, List.set_cons_zero, List.set_cons_succ]
        iterate 1 (refine seg_take (v := ?_) rfl (Or.inl ⟨by rfl, ?_⟩) ?_; rotate_left; (focus (intro w' hw'; go_simp <;> with_reducible rfl)); try simp only [Act.put, List.setIfInBounds_toArray, List.set_cons_zero, List.set_cons_succ])
        refine seg_done (fun _ => ?_)
        refine wpAnyH_done (by kernel_rfl) ?_ _
        have hrw := setRow_heap _ g8 _ A8 _ _ hL
        have vF := vQ A8
        obtain ⟨U8, hU⟩ : ∃ U, U = wL.setRow g8 A8 := ⟨_, rfl⟩
        first
          | (rw [← hU] at hrw HB vF ⊢)
          | (clear hU; obtain ⟨U8, hU⟩ : ∃ U, U = wC.setRow g8 A8 := ⟨_, rfl⟩; rw [← hU] at hrw HB vF ⊢)
        exact TL U8 g8 A8 AS nS cS ⟨Lib.hid ⟨hrw, vF⟩, HB⟩
      · skip
        refine op_run rfl (fun K hK => ?_)
        rw [if_pos (by rfl)]
        refine op_new #[.slice none 0 0, .slice none 0 0] 25 (fun w => by go_simp) ?_
        intro g8 wL eL hL HBl hLsz
        have HBz := HB.size
        have hgle : w7.heap.size ≤ g8 := by omega
        have hLlt : g8 < wL.heap.size := by omega
        try have rS := rS.below HBl
        try have vQ := fun cs => vC.below (below_setRow HBl (Nat.le_of_eq eL) cs)
        try have vC := vC.below HBl
        have HB := below_then HB HBl
        clear eL hLsz HBz
        refine hK.out _ _ (HB) ?_
        clear hK
        try simp only [Act.put, List.setIfInBounds_toArray, List.set_cons_zero, List.set_cons_succ]
        refine wpAnyH_seg (by kernel_rfl) (fun _ _ d _ _ h => by first | (cases d <;> exact h) | cases h.1) 0 #[true, true, true, true, true, true, true, true, true] [(2, false), (3, true), (4, true), (5, true), (7, false), (8, true)] _ _ _ (by kernel_rfl) (HB) ?_
        refine seg_run rfl (fun K hK => ?_)
        go_simp
        refine (C2.out A0 _ AS nS cS (q0.out.up HB).2 rS).mono ?_
        rintro e_ wC ⟨A8, rfl, vC, hbC, hQ⟩
        try have vQ := fun cs => hQ g8 cs _ _ _ hL (q0.out.2.st HB hgle cs)
        try have hL := (hbC.block _ (by omega)).trans hL
        try have hLlt := Nat.lt_of_lt_of_le hLlt hbC.size
        have HB := below_then HB hbC
        refine hK.out _ _ (HB) ?_
        clear hK
        try simp only [Act.put, List.setIfInBounds_toArray, List.set_cons_zero, List.set_cons_succ]
        iterate 3 (refine seg_take (v := ?_) rfl (Or.inl ⟨by rfl, ?_⟩) ?_; rotate_left; (focus (intro w' hw'; go_simp <;> with_reducible rfl)); try simp only [Act.put, List.setIfInBounds_toArray, List.set_cons_zero, List.set_cons_succ])
        refine seg_run rfl (fun K hK => ?_)
        rw [if_pos (by rfl)]
        refine wp_store_row _ _ _ rfl g8 A8 rfl rfl _ _ hL vC.info (by rw [vC.size]; rfl) vC.one ?_
        have HB := below_setRow HB hgle A8
        refine hK.out _ _ (HB) ?_
        clear hK
        try simp only [Act.put, List.setIfInBounds_toArray, List.set_cons_zero, List.set_cons_succ]
        iterate 1 (refine seg_take (v := ?_) rfl (Or.inl ⟨by rfl, ?_⟩) ?_; rotate_left; (focus (intro w' hw'; go_simp <;> with_reducible rfl)); try simp only [Act.put, List.setIfInBounds_toArray, List.set_cons_zero, List.set_cons_succ])
        refine seg_done (fun _ => ?_)
        refine wpAnyH_done (by kernel_rfl) ?_ _
        have hrw := setRow_heap _ g8 _ A8 _ _ hL
        have vF := vQ A8
        obtain ⟨U8, hU⟩ : ∃ U, U = wL.setRow g8 A8 := ⟨_, rfl⟩
        first
          | (rw [← hU] at hrw HB vF ⊢)
          | (clear hU; obtain ⟨U8, hU⟩ : ∃ U, U = wC.setRow g8 A8 := ⟨_, rfl⟩; rw [← hU] at hrw HB vF ⊢)
        exact TL U8 g8 A8 AS nS cS ⟨Lib.hid ⟨hrw, vF⟩, HB⟩
    · skip
      refine op_run rfl (fun K hK => ?_)
      rw [if_pos (by rfl)]
      refine op_new #[.slice none 0 0, .slice none 0 0] 25 (fun w => by go_simp) ?_
      intro g8 wL eL hL HBl hLsz
      have HBz := HB.size
      have hgle : w7.heap.size ≤ g8 := by omega
      have hLlt : g8 < wL.heap.size := by omega
      try have rS := rS.below HBl
      try have vQ := fun cs => vC.below (below_setRow HBl (Nat.le_of_eq eL) cs)
      try have vC := vC.below HBl
      have HB := below_then HB HBl
      clear eL hLsz HBz
      refine hK.out _ _ (HB) ?_
      clear hK
      try simp only [Act.put, List.setIfInBounds_toArray, List.set_cons_zero, List.set_cons_succ]
      refine wpAnyH_seg (by kernel_rfl) (fun _ _ d _ _ h => by first | (cases d <;> exact h) | cases h.1) 0 #[true, true, true, true, true, true, true, true, true] [(1, false), (2, false), (3, true), (4, true), (5, true), (7, false), (8, true)] _ _ _ (by kernel_rfl) (HB) ?_
      refine seg_run rfl (fun K hK => ?_)
      go_simp
      refine (CS.out _).mono ?_
      rintro e_ wS ⟨AS, nS, cS, rfl, oS, hbS⟩
      try have hL := (hbS.block _ (by omega)).trans hL
      try have hLlt := Nat.lt_of_lt_of_le hLlt hbS.size
      have rS := oS.rd
      have HB := below_then HB hbS
      refine hK.out _ _ (HB) ?_
      clear hK
      try simp only [Act.put, List.setIfInBounds_toArray, List.set_cons_zero, List.set_cons_succ]
      refine seg_run rfl (fun K hK => ?_)
      go_simp
      refine (C2.out A0 _ AS nS cS (q0.out.up HB).2 rS).mono ?_
      rintro e_ wC ⟨A8, rfl, vC, hbC, hQ⟩
      try have vQ := fun cs => hQ g8 cs _ _ _ hL (q0.out.2.st HB hgle cs)
      try have hL := (hbC.block _ (by omega)).trans hL
      try have hLlt := Nat.lt_of_lt_of_le hLlt hbC.size
      have HB := below_then HB hbC
      refine hK.out _ _ (HB) ?_
      clear hK
      try simp only [Act.put, List.setIfInBounds_toArray, List.set_cons_zero, List.set_cons_succ]
      iterate 3 (refine seg_take (v := ?_) rfl (Or.inl ⟨by rfl, ?_⟩) ?_; rotate_left; (focus (intro w' hw'; go_simp <;> with_reducible rfl)); try simp only [Act.put, List.setIfInBounds_toArray, List.set_cons_zero, List.set_cons_succ])
      refine seg_run rfl (fun K hK => ?_)
      rw [if_pos (by rfl)]
      refine wp_store_row _ _ _ rfl g8 A8 rfl rfl _ _ hL vC.info (by rw [vC.size]; rfl) vC.one ?_
      have HB := below_setRow HB hgle A8
      refine hK.out _ _ (HB) ?_
      clear hK
      try simp only [Act.put, List.setIfInBounds_toArray, List.set_cons_zero, List.set_cons_succ]
      iterate 1 (refine seg_take (v := ?_) rfl (Or.inl ⟨by rfl, ?_⟩) ?_; rotate_left; (focus (intro w' hw'; go_simp <;> with_reducible rfl)); try simp only [Act.put, List.setIfInBounds_toArray, List.set_cons_zero, List.set_cons_succ])
      refine seg_done (fun _ => ?_)
      refine wpAnyH_done (by kernel_rfl) ?_ _
      have hrw := setRow_heap _ g8 _ A8 _ _ hL
      have vF := vQ A8
      obtain ⟨U8, hU⟩ : ∃ U, U = wL.setRow g8 A8 := ⟨_, rfl⟩
      first
        | (rw [← hU] at hrw HB vF ⊢)
        | (clear hU; obtain ⟨U8, hU⟩ : ∃ U, U = wC.setRow g8 A8 := ⟨_, rfl⟩; rw [← hU] at hrw HB vF ⊢)
      exact TL U8 g8 A8 AS nS cS ⟨Lib.hid ⟨hrw, vF⟩, HB⟩
  rintro U8 g8 A8 AS nS cS ⟨q8, HB⟩
  have q0 := Lib.hid (q0.out.up HB)
  have r3 := r3.below HB
  have q1 := Lib.hid (q1.out.up HB)
  have q4 := Lib.hid (q4.out.up HB)
  have q5 := Lib.hid (q5.out.up HB)
  have r6 := r6.below HB
  have r7 := r7.below HB
  have B := below_then B HB
  clear HB
  go_wp2_with (refine dk_load rfl _ rfl rfl q5.out ?_)
  refine (C8.out A5 U8 q5.out.2).mono ?_
  rintro e w9 ⟨A9, rfl, v9, hb9⟩
  have q0 := Lib.hid (q0.out.up hb9)
  have r3 := r3.below hb9
  have q1 := Lib.hid (q1.out.up hb9)
  have q4 := Lib.hid (q4.out.up hb9)
  have q5 := Lib.hid (q5.out.up hb9)
  have r6 := r6.below hb9
  have r7 := r7.below hb9
  have B := below_then B hb9
  go_wp2_with (first | (refine dk_fresh rfl _ _ rfl rfl rfl w9 rfl rfl v9 ?_; intro X9 q9 x9) | (refine dk_load rfl _ rfl rfl q9.out ?_))
  have q0 := Lib.hid (q0.out.up x9)
  have r3 := r3.below x9
  have q1 := Lib.hid (q1.out.up x9)
  have q4 := Lib.hid (q4.out.up x9)
  have q5 := Lib.hid (q5.out.up x9)
  have r6 := r6.below x9
  have r7 := r7.below x9
  have B := below_then B x9
  refine (C9.out A9 X9 q9.out.2).mono ?_
  rintro e wA ⟨AA, nA, cA, rfl, oA, hbA⟩
  have q0 := Lib.hid (q0.out.up hbA)
  have r3 := r3.below hbA
  have q1 := Lib.hid (q1.out.up hbA)
  have q4 := Lib.hid (q4.out.up hbA)
  have q5 := Lib.hid (q5.out.up hbA)
  have r6 := r6.below hbA
  have r7 := r7.below hbA
  have q9 := Lib.hid (q9.out.up hbA)
  have B := below_then B hbA
  have rA := oA.rd
  obtain rfl : nA = 256 := by rw [← oA.len, HL.out]
  clear oA
  go_wp2_with (refine dk_load rfl _ rfl rfl q1.out ?_)
  refine (CA.out A1 wA q1.out.2).mono ?_
  rintro e wB ⟨AB, rfl, vB, hbB⟩
  have q0 := Lib.hid (q0.out.up hbB)
  have r3 := r3.below hbB
  have q1 := Lib.hid (q1.out.up hbB)
  have q4 := Lib.hid (q4.out.up hbB)
  have q5 := Lib.hid (q5.out.up hbB)
  have r6 := r6.below hbB
  have r7 := r7.below hbB
  have q9 := Lib.hid (q9.out.up hbB)
  have rA := rA.below hbB
  have B := below_then B hbB
  go_wp2_with (refine dk_fresh rfl _ _ rfl rfl rfl wB rfl rfl vB ?_; intro XB qB xB)
  have q0 := Lib.hid (q0.out.up xB)
  have r3 := r3.below xB
  have q1 := Lib.hid (q1.out.up xB)
  have q4 := Lib.hid (q4.out.up xB)
  have q5 := Lib.hid (q5.out.up xB)
  have r6 := r6.below xB
  have r7 := r7.below xB
  have q9 := Lib.hid (q9.out.up xB)
  have rA := rA.below xB
  have B := below_then B xB
  refine (CS.out XB).mono ?_
  rintro e wD1 ⟨AD1, nD1, cD1, rfl, oD1, hbD1⟩
  have r3 := r3.below hbD1
  have r6 := r6.below hbD1
  have r7 := r7.below hbD1
  have rA := rA.below hbD1
  have qB := Lib.hid (qB.out.up hbD1)
  have B := below_then B hbD1
  go_wp2_with fail
  have hh := bytes_any _ _ _ _ _ _ _ _ wD1 r3 oD1.rd
  rw [decide_eq_true rfl] at hh
  refine hh.mono ?_
  clear hh
  rintro e wE ⟨rfl, rfl⟩
  clear oD1
  go_wp2_with fail
  refine (CZ.out wD1).mono ?_
  rintro e wD2 ⟨AD2, nD2, cD2, rfl, oD2, hbD2⟩
  have r3 := r3.below hbD2
  have r6 := r6.below hbD2
  have r7 := r7.below hbD2
  have rA := rA.below hbD2
  have qB := Lib.hid (qB.out.up hbD2)
  have B := below_then B hbD2
  go_wp2_with fail
  have hh := bytes_any _ _ _ _ _ _ _ _ wD2 r6 oD2.rd
  rw [decide_eq_true rfl] at hh
  refine hh.mono ?_
  clear hh
  rintro e wE ⟨rfl, rfl⟩
  clear oD2
  go_wp2_with fail
  refine (CS.out wD2).mono ?_
  rintro e wD3 ⟨AD3, nD3, cD3, rfl, oD3, hbD3⟩
  have r3 := r3.below hbD3
  have r6 := r6.below hbD3
  have r7 := r7.below hbD3
  have rA := rA.below hbD3
  have qB := Lib.hid (qB.out.up hbD3)
  have B := below_then B hbD3
  go_wp2_with fail
  have hh := bytes_any _ _ _ _ _ _ _ _ wD3 r7 oD3.rd
  rw [decide_eq_true rfl] at hh
  refine hh.mono ?_
  clear hh
  rintro e wE ⟨rfl, rfl⟩
  clear oD3
  obtain ⟨b9, o9, u9, hA9, hb9l, hu9, hc9⟩ := rA.at_ 3 (by omega)
  subst hA9
  obtain rfl : u9 = 4 := by rw [HT3.out] at hu9; injection hu9 with hu9; exact hu9.symm
  have hc9 : wD3.cell? ⟨b9, o9 + 3, none⟩ = some (.int .u8 4) := hc9
  have l9 := rA.2.2.1
  obtain ⟨KB, kcB, hK1⟩ := qB.out.c1
  rw [K3.out] at hK1
  go_wp2_with (refine wpList_unguard (by rfl) (dk_load rfl _ rfl rfl qB.out ?_))
  refine (CB.out AB wD3 qB.out.2).mono ?_
  rintro e wF ⟨rfl, hbF⟩
  go_wp2_with fail
  go_ret
  exact ⟨rfl, below_then B hbF⟩
end Go.Proofs.Yteajboafcjeagaa
