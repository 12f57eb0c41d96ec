/-
  Layer 19: arp: Learn.
-/
import Derived.Test.YtnfepikgbdeomaaArpK
namespace Go.Proofs.Ytnfepikgbdeomaa
set_option maxRecDepth 20000
open Go.RowKit
set_option linter.unusedVariables false
set_option linter.unusedSimpArgs false
set_option maxHeartbeats 8000000

/-- Neighbours handed back, as learning says. -/
def RetLn (w : World) (l : List Nb) (x : Nb) (e : Ending) (w' : World) : Prop := ∃ A n c m, e = .returned (.slice A n c) ∧ OwNb w' w.heap.size A n c m ∧ (∀ y ∈ m, y.ok) ∧ Learnt l x m ∧ Below w.heap.size w w'
theorem OwNb.up {w w' : World} {base : Nat} {A : Option Addr} {n c : Nat} {l : List Nb} (h : OwNb w base A n c l) (hb : Below w.heap.size w w') : OwNb w' base A n c l := by
  refine ⟨h.1, ?_⟩
  rcases h.2 with h1 | ⟨g, cap, cur, hv, hbb, hg, r⟩
  · exact .inl h1
  · exact .inr ⟨g, cap, cur, hv, hbb, (hb.block g (drw_lt hg)).trans hg, r⟩
theorem OwNb.blk {w : World} {base : Nat} {A : Option Addr} {n c : Nat} {l : List Nb} (h : OwNb w base A n c l) : ∀ a, A = some a → base ≤ a.block ∧ a.block < w.heap.size := by
  intro a ha
  subst ha
  exact h.lt a.block rfl
theorem ok_of {l m : List Nb} {x : Nb} (hl : ∀ y ∈ l, y.ok) (hx : x.ok) (h : Learnt l x m) : ∀ y ∈ m, y.ok := fun y hy => by
  rcases h.old y hy with rfl | h1
  · exact hx
  · exact hl y h1
theorem own_mono8 {w : World} {base base' : Nat} {A : Option Addr} {n c : Nat} {l : List Nb} (h : OwNb w base A n c l) (hb : base' ≤ base) : OwNb w base' A n c l := by
  refine ⟨h.1, ?_⟩
  rcases h.2 with h1 | ⟨g, cap, cur, hv, hbb, r⟩
  · exact .inl h1
  · exact .inr ⟨g, cap, cur, hv, Nat.le_trans hb hbb, r⟩
/-- A neighbour put in a place of an owned row. -/
theorem OwNb.put {w : World} {base : Nat} {A : Option Addr} {n c : Nat} {l : List Nb} (h : OwNb w base A n c l) (k : Nat) (hk : k < n) (x : Nb) :
    ∃ g w', A = some ⟨g, 0, none⟩ ∧ (storeCells ⟨g, k * 8, none⟩ (nbA x).toList).run Try.prog w = .ok () w' ∧ OwNb w' base A n c (l.set k x) ∧ Below base w w' := by
  obtain ⟨g, zs, rfl, hb, hrow, hz, hnc, hcm, ht, hl⟩ := h.row (by omega)
  obtain ⟨w', hst, hW⟩ := wrote_cells (P := Try.prog) (o := k * 8) (cs := (nbA x).toList) hrow (by rw [hz]; simp [nbA]; omega) (by simp [nbA, Value.oneCell'])
  refine ⟨g, w', rfl, hst, own_of_row hb hW.row ?_ hnc hcm ?_ (by simpa using hl), hW.below base hb⟩
  · have h8 : (nbA x).toList.length = 8 := rfl
    simp only [List.length_append, List.length_take, List.length_drop, h8, hz]; omega
  · have h8 : (nbA x).toList.length = 8 := rfl
    have hx8 : (nbA x).toList = nbV x := rfl
    have e1 : (l.set k x) = l.take k ++ x :: l.drop (k + 1) := List.set_eq_take_append_cons_drop.trans (if_pos (by omega))
    have e2 : zs.take (k * 8) = (l.take k).flatMap nbV := by rw [← nbs_take, ← ht, List.take_take]; congr 1; omega
    have e3 : (zs.drop (k * 8 + 8)).take ((n - (k + 1)) * 8) = (l.drop (k + 1)).flatMap nbV := by
      rw [← nbs_drop, ← ht, List.drop_take, show (k + 1) * 8 = k * 8 + 8 by omega, show n * 8 - (k * 8 + 8) = (n - (k + 1)) * 8 by omega]
    have hL : ((l.take k).flatMap nbV).length = k * 8 := by rw [nbs_len, List.length_take, hl]; omega
    rw [e1, List.flatMap_append, List.flatMap_cons, h8, hx8, e2, ← e3]
    generalize (l.take k).flatMap nbV = L at *
    generalize zs.drop (k * 8 + 8) = T at *
    have e4 : n * 8 = L.length + ((nbV x).length + (n - (k + 1)) * 8) := by rw [hL, nbV_len]; omega
    rw [e4, List.append_assoc, List.take_length_add_append, List.take_length_add_append]
theorem fold_nb (x : Nb) : Array.foldl (fun (cs : Array Value) (x : Value × Nat) => cs.setIfInBounds x.snd x.fst) #[.int .u32 0, .int .u8 0, .int .u8 0, .int .u8 0, .int .u8 0, .int .u8 0, .int .u8 0, .int .u64 0] ((nbA x).zipIdx 0) 0 8 = nbA x := by
  simp [nbA]
set_option maxRecDepth 100000 in
theorem arpLearn_any (A : Option Addr) (n c : Nat) (l : List Nb) (ip now : Nat) (m : Mc) (w : World) (hr : RdNb w A n c l) (hok : nbOk l = true) (hip : ip < 4294967296) (hnow : now < 18446744073709551616) :
    Calls Try.prog 58 #[.slice A n c, .int .u32 (ip : Int), .agg #[.int .u8 (m.a0.toNat : Int), .int .u8 (m.a1.toNat : Int), .int .u8 (m.a2.toNat : Int), .int .u8 (m.a3.toNat : Int), .int .u8 (m.a4.toNat : Int), .int .u8 (m.a5.toNat : Int)], .int .u64 (now : Int)] w (RetLn w l ⟨ip, m, arLater now 300⟩) := by
  have hS := nbS_of hok
  have hn8 : n ≤ 8 := by have := hS.len; have := hr.2.1; omega
  have hlen := hr.2.1
  have hlok := hr.2.2.2.2
  have htl : arLater now 300 ≤ 1099511627776 := by unfold arLater; split <;> omega
  obtain ⟨x, hx⟩ : ∃ x : Nb, x = ⟨ip, m, arLater now 300⟩ := ⟨_, rfl⟩
  have hxok : x.ok := by rw [hx]; exact ⟨hip, by show arLater now 300 < _; omega⟩
  have hxt : x.t ≤ 1099511627776 := by rw [hx]; exact htl
  have hxA : nbA x = #[.int .u32 (ip : Int), .int .u8 (m.a0.toNat : Int), .int .u8 (m.a1.toNat : Int), .int .u8 (m.a2.toNat : Int), .int .u8 (m.a3.toNat : Int), .int .u8 (m.a4.toNat : Int), .int .u8 (m.a5.toNat : Int), .int .u64 (arLater now 300 : Int)] := by rw [hx]; rfl
  rw [← hx]
  obtain ⟨T, hT⟩ : ∃ T, arLater now 300 = T := ⟨_, rfl⟩
  have HLt := Lib.hid (fun W => arpLater_any now 300 W hnow (by omega))
  rw [hT] at hxA HLt
  obtain ⟨V, hV⟩ : ∃ V, V = w.alloc (.cells #[.int .u8 (m.a0.toNat : Int), .int .u8 (m.a1.toNat : Int), .int .u8 (m.a2.toNat : Int), .int .u8 (m.a3.toNat : Int), .int .u8 (m.a4.toNat : Int), .int .u8 (m.a5.toNat : Int)] 96) := ⟨_, rfl⟩
  have bV : Below w.heap.size w V := by rw [hV]; exact (below_self w).alloc (Nat.le_refl _) _
  have qV : V.heap[w.heap.size]? = some (.cells #[.int .u8 (m.a0.toNat : Int), .int .u8 (m.a1.toNat : Int), .int .u8 (m.a2.toNat : Int), .int .u8 (m.a3.toNat : Int), .int .u8 (m.a4.toNat : Int), .int .u8 (m.a5.toNat : Int)] 96 (0, 0)) := by rw [hV]; exact drw_at _ rfl
  have HV := Lib.hid hV
  have HQ := Lib.hid qV
  have HR := Lib.hid hr
  have HS := Lib.hid hS
  have HX := Lib.hid hxA
  have HXO := Lib.hid hxok
  have HLO := Lib.hid hlok
  have HLN := Lib.hid hlen
  have C1 := Lib.hid (arpCheck_any A n c l V (hr.below bV))
  rw [hok] at C1
  clear hV qV hr hS hxA hxok hlok hlen hok hx hT htl
  go_enter Try.func58, Try.ntmps58
  go_wp2_with fail
  rw [← HV.out]
  refine C1.out.mono ?_
  rintro e w1 ⟨rfl, hb1⟩
  have B1 := below_then bV hb1
  obtain ⟨⟨k0, k1, k2, k3, k4, k5⟩, _⟩ := mac_open (drw_up HQ.out hb1)
  have lm : w.heap.size < w1.heap.size := drw_lt (drw_up HQ.out hb1)
  go_wp2_with fail
  refine wp_region_seg (S := fun w' => Below w1.heap.size w1 w') 0 #[true, true, true, true, true, true, true] [(0, true), (1, true), (2, true), (3, true), (4, true), (5, false), (6, false)] (by kernel_rfl) (by kernel_rfl) (fun _ _ d _ _ h => by first | (cases d <;> exact h) | cases h.1) ((Below.refl w1.heap.size w1).drew) ?_
  have HB := (Below.refl w1.heap.size w1).drew
  iterate 3 (refine seg_take (v := ?_) rfl (Or.inl ⟨by rfl, ?_⟩) ?_; rotate_left; (focus (intro w' hw'; have j0 := (hw'.cell (p := ⟨w.heap.size, 0, none⟩) lm).trans k0; have j1 := (hw'.cell (p := ⟨w.heap.size, 1, none⟩) lm).trans k1; have j2 := (hw'.cell (p := ⟨w.heap.size, 2, none⟩) lm).trans k2; have j3 := (hw'.cell (p := ⟨w.heap.size, 3, none⟩) lm).trans k3; have j4 := (hw'.cell (p := ⟨w.heap.size, 4, none⟩) lm).trans k4; have j5 := (hw'.cell (p := ⟨w.heap.size, 5, none⟩) lm).trans k5; go_simp <;> with_reducible rfl)); try simp only [Act.put, List.setIfInBounds_toArray, List.set_cons_zero, List.set_cons_succ])
  refine seg_pure (v := .int .u64 (T : Int)) (f := ?_) (args := ?_) rfl (by rfl) (fun w' hw' => ?_) (fun w' hw' => ?_) ?_
  rotate_left 2
  focus (have j0 := (hw'.cell (p := ⟨w.heap.size, 0, none⟩) lm).trans k0; have j1 := (hw'.cell (p := ⟨w.heap.size, 1, none⟩) lm).trans k1; have j2 := (hw'.cell (p := ⟨w.heap.size, 2, none⟩) lm).trans k2; have j3 := (hw'.cell (p := ⟨w.heap.size, 3, none⟩) lm).trans k3; have j4 := (hw'.cell (p := ⟨w.heap.size, 4, none⟩) lm).trans k4; have j5 := (hw'.cell (p := ⟨w.heap.size, 5, none⟩) lm).trans k5; go_simp <;> first | (refine ⟨?_, ?_⟩ <;> with_reducible rfl) | with_reducible rfl)
  focus (exact (HLt.out w').mono (fun e w1 h => ⟨h.1, h.2.symm⟩))
  try simp only [Act.put, List.setIfInBounds_toArray, List.set_cons_zero, List.set_cons_succ]
  refine seg_take (v := .agg (nbA x)) rfl (Or.inl ⟨by rfl, fun w' hw' => ?_⟩) ?_
  focus (rw [HX.out]; go_simp)
  try simp only [Act.put, List.setIfInBounds_toArray, List.set_cons_zero, List.set_cons_succ]
  refine seg_run rfl (fun K hK => ?_)
  rw [if_pos (by rfl)]
  refine op_new #[.int .u32 0, .int .u8 0, .int .u8 0, .int .u8 0, .int .u8 0, .int .u8 0, .int .u8 0, .int .u64 0] 109 (fun w => by go_simp) ?_
  intro gL wL eL hL HBl hLsz
  have HB := below_then HB HBl
  refine hK.out _ _ (HB) ?_
  clear hK
  try simp only [Act.put, List.setIfInBounds_toArray, List.set_cons_zero, List.set_cons_succ]
  refine seg_run rfl (fun K hK => ?_)
  rw [if_pos (by rfl)]
  refine wp_store_row _ _ _ rfl gL (nbA x) rfl rfl _ _ hL (nb_info x) rfl (nbA_one x) ?_
  have HB := below_setRow HB (Nat.le_of_eq eL) (nbA x)
  refine hK.out _ _ (HB) ?_
  clear hK
  try simp only [Act.put, List.setIfInBounds_toArray, List.set_cons_zero, List.set_cons_succ]
  refine seg_done (fun _ => ?_)
  refine wpAnyH_done (by kernel_rfl) ?_ _
  have q0 : NbAt (wL.setRow gL (nbA x)) gL x := setRow_heap _ _ _ (nbA x) _ _ hL
  have B3 := below_then B1 HB
  obtain ⟨W3, hW3⟩ : ∃ W, W = wL.setRow gL (nbA x) := ⟨_, rfl⟩
  rw [← hW3] at q0 B3 ⊢
  have HQ3 := Lib.hid q0
  have hgw : w.heap.size ≤ gL := Nat.le_trans (Nat.le_of_lt lm) (Nat.le_of_eq eL)
  have HGW := Lib.hid hgw
  have HGL := Lib.hid (show gL < W3.heap.size from q0.lt)
  clear hW3 q0 hL HBl hLsz eL hgw k0 k1 k2 k3 k4 k5
  go_wp2_with fail
  refine (cloneNb_any A n c l W3 (HR.out.below B3) (by omega)).mono ?_
  rintro e w4 ⟨A4, c4, rfl, ho4, hb4⟩
  have B4 := below_then B3 hb4
  have HO4 := Lib.hid ho4
  have HQ4 := Lib.hid (HQ3.out.up hb4)
  have r4 := Lib.hid (ho4.rd HLO.out)
  clear ho4
  go_wp2_with (refine nb_load rfl _ rfl rfl HQ4.out ?_)
  refine (searchNb_any A4 n c4 l x w4 r4.out HS.out).mono ?_
  rintro e w5 ⟨p, F, rfl, hp, hy, hno, hb5⟩
  have B5 := below_then B4 hb5
  have HO5 := Lib.hid (HO4.out.up hb5)
  have HQ5 := Lib.hid (HQ4.out.up hb5)
  have HZ5 := Lib.hid (show W3.heap.size ≤ w5.heap.size from Nat.le_trans hb4.size hb5.size)
  have HP := Lib.hid hp
  have HNO := Lib.hid hno
  have HYE := Lib.hid hy
  clear hp hno hy
  cases F with
  | true =>
    obtain ⟨hpn, hpe⟩ := HYE.out rfl
    have HPE := Lib.hid hpe
    obtain ⟨g, w6, hA4, hst, ho6, hb6⟩ := HO5.out.put p hpn x
    subst hA4
    have hsz := nbA_size x
    have lp : (p : Int) < (n : Int) := by omega
    have HO6 := Lib.hid ho6
    have hL1 : Hid (Learnt l x (l.set p x)) := Lib.hid (learnt_set HS.out (by rw [HLN.out]; exact hpn) hxt (by have := HPE.out; rwa [List.getD, List.getElem?_eq_getElem (by rw [HLN.out]; exact hpn)] at this))
    clear hpe ho6
    go_wp2_with (refine nb_load rfl _ rfl rfl HQ5.out ?_)
    go_ret
    exact ⟨_, n, c4, _, rfl, own_mono8 HO6.out (by have := B3.size; omega), ok_of HLO.out HXO.out hL1.out, hL1.out, B5.trans (hb6.mono B3.size)⟩
  | false =>
    have hno := HNO.out rfl
    have HN := Lib.hid hno
    clear hno
    by_cases h8 : n = 8
    · subst h8
      have HB5 := Lib.hid B5
      go_wp2_with fail
      refine (arpOldest_any A4 8 c4 l w5 (HO5.out.rd HLO.out) (by omega)).mono ?_
      rintro e w6 ⟨k, hk, rfl, hb6⟩
      have B6 := below_then B5 hb6
      have HO6 := Lib.hid (HO5.out.up hb6)
      have HQ6 := Lib.hid (HQ5.out.up hb6)
      have z6 : W3.heap.size ≤ w6.heap.size := Nat.le_trans HZ5.out hb6.size
      go_wp2_with fail
      refine (delNb_any W3.heap.size A4 8 c4 l k w6 HO6.out hk (by omega) 7 rfl).mono ?_
      rintro e w7 ⟨rfl, o7, b7⟩
      have B7 := B6.trans (b7.mono B3.size)
      have z7 : W3.heap.size ≤ w7.heap.size := Nat.le_trans z6 b7.size
      have q7 : NbAt w7 gL x := (b7.block gL HGL.out).trans HQ6.out
      have HQ7 := Lib.hid q7
      have hsub : ∀ y ∈ l.take k ++ l.drop (k + 1), y ∈ l := fun y hy => by
        rw [List.mem_append] at hy
        rcases hy with h | h
        · exact List.mem_of_mem_take h
        · exact List.mem_of_mem_drop h
      obtain ⟨l7, hl7⟩ : ∃ q, l.take k ++ l.drop (k + 1) = q := ⟨_, rfl⟩
      have hS7 : NbS l7 := by
        have hsl : List.Sublist l7 l := by
          rw [← hl7]
          have h1 : List.Sublist (l.take k ++ l.drop (k + 1)) (l.take k ++ l.drop k) := List.Sublist.append_left (List.drop_sublist_drop_left l (by omega)) _
          rwa [List.take_append_drop] at h1
        exact ⟨Nat.le_trans hsl.length_le HS.out.len, fun y hy => HS.out.time y (hsl.mem hy), HS.out.sorted.sublist hsl⟩
      rw [hl7] at o7 hsub
      have HL7 := Lib.hid hl7
      have HS7 := Lib.hid hS7
      have HO7 := Lib.hid o7
      have r7 := Lib.hid (o7.rd (fun y hy => HLO.out y (hsub y hy)))
      have l7n := Lib.hid (o7.lent)
      clear hl7 hS7 o7 q7 hsub
      go_wp2_with (refine nb_load rfl _ rfl rfl HQ7.out ?_)
      refine (searchNb_any A4 7 c4 l7 x w7 r7.out HS7.out).mono ?_
      rintro e w8 ⟨p8, F8, rfl, hp8, _, _, hb8⟩
      have B8 := below_then B7 hb8
      have HO8 := Lib.hid (HO7.out.up hb8)
      have HQ8 := Lib.hid (HQ7.out.up hb8)
      have HP8 := Lib.hid hp8
      have hL1 : Hid (Learnt l x (l7.take p8 ++ x :: l7.drop p8)) := Lib.hid (by
        have hp := hp8
        rw [← HL7.out] at hp ⊢
        exact learnt_del HS.out (by rw [HLN.out]; exact hk) HLN.out hp hxt HN.out)
      have hsz := nbA_size x
      clear hp8
      go_wp2_with (refine nb_load rfl _ rfl rfl HQ8.out ?_)
      refine named ?_
      intro W9 hW9
      have q9 : NbAt W9 w8.heap.size x := by rw [hW9, fold_nb]; exact drw_at _ rfl
      have b9 : Below w8.heap.size w8 W9 := by rw [hW9]; exact (below_self _).alloc (Nat.le_refl _) _
      have hp1 := HP8.out.1
      rw [l7n.out] at hp1
      have o9 := HO8.out.up b9
      have B9 := below_then B8 b9
      have z8 := hb8.size
      have z9 := b9.size
      clear hW9
      refine (insNb_any W3.heap.size A4 7 c4 l7 p8 w8.heap.size x W9 o9 hp1 (by omega) (by omega) q9 (fun a ha => by have := (HO8.out.blk a ha).2; omega)).mono ?_
      rintro e w10 ⟨A8, c8, rfl, o10, b10⟩
      clear o9 q9
      go_wp2_with fail
      go_ret
      exact ⟨_, 8, c8, _, rfl, own_mono8 o10 (by have := B3.size; omega), ok_of HLO.out HXO.out hL1.out, hL1.out, B9.trans (b10.mono B3.size)⟩
    · have d8 : ((n : Int) == 8) = false := beq_eq_false_iff_ne.2 (by omega)
      have hL1 : Hid (Learnt l x (l.take p ++ x :: l.drop p)) := Lib.hid (learnt_ins HS.out HP.out hxt HN.out (by rw [HLN.out]; omega))
      have hsz := nbA_size x
      go_wp2_with (refine nb_load rfl _ rfl rfl HQ5.out ?_)
      refine named ?_
      intro W7 hW7
      have q7 : NbAt W7 w5.heap.size x := by rw [hW7, fold_nb]; exact drw_at _ rfl
      have b7 : Below w5.heap.size w5 W7 := by rw [hW7]; exact (below_self _).alloc (Nat.le_refl _) _
      have hp1 := HP.out.1
      rw [HLN.out] at hp1
      have o7 := HO5.out.up b7
      have z7 := HZ5.out
      have B7 := below_then B5 b7
      clear hW7
      refine (insNb_any W3.heap.size A4 n c4 l p w5.heap.size x W7 o7 hp1 (by omega) (by have := b7.size; omega) q7 (fun a ha => by have := (HO5.out.blk a ha).2; omega)).mono ?_
      rintro e w8 ⟨A8, c8, rfl, o8, b8⟩
      clear o7 q7
      go_wp2_with fail
      go_ret
      exact ⟨_, n + 1, c8, _, rfl, own_mono8 o8 (by have := B3.size; omega), ok_of HLO.out HXO.out hL1.out, hL1.out, B7.trans (b8.mono B3.size)⟩
end Go.Proofs.Ytnfepikgbdeomaa
