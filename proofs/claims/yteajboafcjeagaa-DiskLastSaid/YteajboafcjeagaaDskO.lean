/-
  Layer 5: disks: the law DiskLast.
-/
import Derived.Test.YteajboafcjeagaaDskL
namespace Go.Proofs.Yteajboafcjeagaa
set_option maxRecDepth 20000
open Go.RowKit
set_option linter.unusedVariables false
set_option linter.unusedSimpArgs false
set_option maxHeartbeats 8000000

theorem dkHas_iff (D : Dk) (a : Int) : dkHas D a = true ↔ 0 ≤ a ∧ a < (D.s.length : Int) := by
  unfold dkHas; simp only [Bool.and_eq_true, decide_eq_true_eq]
theorem dkAsk_ok {D : Dk} {a : Int} (h : dkOk D = true) (ha : dkHas D a = true) : dkAsk D a = 0 := by
  unfold dkAsk; rw [if_neg (by rw [h]; simp), if_neg (by rw [ha]; simp)]
theorem dkWriteE_zero {D : Dk} {a : Int} {ys : List UInt8} (h : dkOk D = true) (e : dkWriteE D a ys = 0) : dkHas D a = true ∧ ys.length = 256 ∧ D.k.length < 512 ∧ dkWrite D a ys = ⟨D.s, D.k ++ [(a, ys)]⟩ := by
  have hk := ((dkOk_iff D).1 h).2.1
  have e0 := e
  have hask : dkAsk D a = 0 := by
    by_cases ha : dkAsk D a = 0
    · exact ha
    · exfalso
      unfold dkWriteE at e; rw [if_pos ha] at e; exact ha e
  have hhas : dkHas D a = true := by
    cases hx : dkHas D a with
    | true => rfl
    | false => unfold dkAsk at hask; rw [if_neg (by rw [h]; simp), if_pos hx] at hask; cases hask
  unfold dkWriteE at e
  rw [if_neg (by simp [hask])] at e
  by_cases hl : ys.length = 256
  · rw [if_neg (by simp [hl])] at e
    by_cases hk5 : D.k.length = 512
    · rw [if_pos hk5] at e; cases e
    · exact ⟨hhas, hl, by omega, by unfold dkWrite; rw [if_pos e0]⟩
  · rw [if_pos hl] at e; cases e
theorem dkWrite_all {D : Dk} {a : Int} {ys : List UInt8} (h : dkOk D = true) (e : dkWriteE D a ys = 0) : ∃ X G : Dk, dkWrite D a ys = X ∧ dkOk X = true ∧ dkAsk X a = 0 ∧ dkRead X a = ys ∧ dkE X = 0 ∧ dkFlush X = G ∧ G.k.length = 0 ∧ dkAsk G a = 0 ∧ dkRead G a = ys := by
  obtain ⟨ha, hl, hk, hw⟩ := dkWriteE_zero h e
  obtain ⟨h1, h2, h3, h4⟩ := (dkOk_iff D).1 h
  have hi := (dkHas_iff D a).1 ha
  have hX : dkOk ⟨D.s, D.k ++ [(a, ys)]⟩ = true := (dkOk_iff _).2 ⟨h1, by simp; omega, h3, fun p hp => by
    rcases List.mem_append.1 hp with hp | hp
    · exact h4 p hp
    · obtain rfl := List.mem_singleton.1 hp
      exact ⟨ha, hl⟩⟩
  have hAt : dkAt ⟨D.s, D.k ++ [(a, ys)]⟩ (fun _ => true) a.toNat = ys := by
    unfold dkAt
    rw [show (D.k ++ [(a, ys)]).length = D.k.length + 1 by simp]
    unfold dkLast
    rw [if_pos (by refine ⟨rfl, ?_⟩; simp [List.getD]; omega)]
    simp [List.getD]
  have hAsk : dkAsk ⟨D.s, D.k ++ [(a, ys)]⟩ a = 0 := dkAsk_ok hX ha
  have hF : dkFlush ⟨D.s, D.k ++ [(a, ys)]⟩ = dkLeft ⟨D.s, D.k ++ [(a, ys)]⟩ (fun _ => true) := by unfold dkFlush; rw [if_pos hX]
  have hG := dkLeft_ok ⟨D.s, D.k ++ [(a, ys)]⟩ (fun _ => true) hX
  have hGa : dkAsk (dkLeft ⟨D.s, D.k ++ [(a, ys)]⟩ (fun _ => true)) a = 0 := dkAsk_ok hG ((dkHas_iff _ _).2 ⟨hi.1, by rw [dkLeft_len]; exact hi.2⟩)
  refine ⟨⟨D.s, D.k ++ [(a, ys)]⟩, dkLeft ⟨D.s, D.k ++ [(a, ys)]⟩ (fun _ => true), hw, hX, hAsk, ?_, by unfold dkE; rw [if_pos hX], hF, rfl, hGa, ?_⟩
  · unfold dkRead; rw [if_pos hAsk, hAt]
  · unfold dkRead; rw [if_pos hGa]
    unfold dkAt
    rw [show (dkLeft ⟨D.s, D.k ++ [(a, ys)]⟩ (fun _ => true)).k = [] from rfl]
    show Option.getD none _ = ys
    rw [Option.getD_none, dkLeft_s _ _ _ (by show a.toNat < D.s.length; omega), hAt]
/-- Numbers that are read. -/
def RdIs (w : World) (A : Option Addr) (n c : Nat) (is : List Int) : Prop := Rd w A (is.map (Value.int .i64)) ∧ is.length = n ∧ n ≤ c ∧ c ≤ maxLen ∧ ∀ i ∈ is, -9223372036854775808 ≤ i ∧ i ≤ 9223372036854775807
theorem RdIs.below {w w' : World} {A : Option Addr} {n c : Nat} {is : List Int} (h : RdIs w A n c is) (hb : Below w.heap.size w w') : RdIs w' A n c is := ⟨h.1.below hb, h.2⟩
theorem RdIs.at_ {w : World} {A : Option Addr} {n c : Nat} {is : List Int} (h : RdIs w A n c is) (k : Nat) (hk : k < n) : ∃ b o i, A = some ⟨b, o, none⟩ ∧ b < w.heap.size ∧ w.cell? ⟨b, o + k, none⟩ = some (.int .i64 i) ∧ (-9223372036854775808 ≤ i ∧ i ≤ 9223372036854775807) := by
  obtain ⟨hr, hl, _, _, hb63⟩ := h
  obtain ⟨b, o, rfl, hb, hc⟩ := hr.at_ k (by rw [List.length_map]; omega)
  have hk' : k < is.length := by omega
  refine ⟨b, o, is[k], rfl, hb, hc.trans ?_, hb63 _ (List.getElem_mem hk')⟩
  simp [List.getElem?_eq_getElem hk']
theorem RdIs.n63 {w : World} {A : Option Addr} {n c : Nat} {is : List Int} (h : RdIs w A n c is) : n ≤ 9223372036854775807 := by have := h.2.2; unfold maxLen at this; omega
/-! ### The law -/
theorem dskLast_early (S : Option Addr) (sn sc : Nat) (K : Option Addr) (kn kc : Nat) (D : Dk) (A : Option Addr) (n c : Nat) (is : List Int) (A2 : Option Addr) (m c2 : Nat) (bs : List UInt8) (w : World) (hr : RdDk w S sn sc K kn kc D) (hi : RdIs w A n c is) (hb : RdB w A2 m c2 bs) (h : dkFew D = false ∨ (dkFew D = true ∧ dkOk D = false) ∨ (dkFew D = true ∧ dkOk D = true ∧ 60 < n) ∨ (dkFew D = true ∧ dkOk D = true ∧ n ≤ 60 ∧ m < n)) :
    Calls Try.prog 5 #[.agg #[.slice S sn sc, .slice K kn kc], .slice A n c, .slice A2 m c2] w (RetV w (.bool true)) := by
  have hn63 := hi.n63
  have hm63 := hb.n63
  obtain ⟨AV, hAV⟩ : ∃ AV : Array Value, AV = #[.slice S sn sc, .slice K kn kc] := ⟨_, rfl⟩
  have v : DkVal AV w D := ⟨S, sn, sc, K, kn, kc, hAV, hr⟩
  rw [← hAV]
  obtain ⟨V, hV⟩ : ∃ V, V = w.alloc (.cells AV 25) := ⟨_, rfl⟩
  have bV : Below w.heap.size w V := by rw [hV]; exact (below_self w).alloc (Nat.le_refl _) _
  have q : Hid (DkV V w.heap.size AV D) := Lib.hid ⟨by rw [hV]; exact drw_at _ rfl, v.below bV⟩
  have HV := Lib.hid hV
  have C1 := Lib.hid (fun W (v : DkVal AV W D) => vFew v)
  have C2 := Lib.hid (fun W (v : DkVal AV W D) => vRefCheck v)
  clear hV hAV v
  rcases h with h | ⟨h1, h2⟩ | ⟨h1, h2, h3⟩ | ⟨h1, h2, h3, h4⟩
  · rw [h] at C1
    clear h
    go_enter Try.func5, Try.ntmps5
    go_wp2_with (rw [← HV.out]; refine dk_load rfl _ rfl rfl q.out ?_)
    refine (C1.out V q.out.2).mono ?_
    rintro e w1 ⟨rfl, hb1⟩
    have q := Lib.hid (q.out.up hb1)
    have B := below_then bV hb1
    go_wp2_with fail
    refine (heads05 _).mono ?_
    rintro e w9 ⟨rfl, hb9⟩
    go_wp2
    go_ret
    exact ⟨rfl, below_then B hb9⟩
  · rw [h1] at C1
    rw [h2] at C2
    clear h1 h2
    go_enter Try.func5, Try.ntmps5
    go_wp2_with (rw [← HV.out]; refine dk_load rfl _ rfl rfl q.out ?_)
    refine (C1.out V q.out.2).mono ?_
    rintro e w1 ⟨rfl, hb1⟩
    have q := Lib.hid (q.out.up hb1)
    have B := below_then bV hb1
    go_wp2_with (refine wpList_unguard (by rfl) (dk_load rfl _ rfl rfl q.out ?_))
    refine (C2.out w1 q.out.2).mono ?_
    rintro e w2 ⟨rfl, hb2⟩
    have q := Lib.hid (q.out.up hb2)
    have B := below_then B hb2
    go_wp2_with fail
    refine (heads05 _).mono ?_
    rintro e w9 ⟨rfl, hb9⟩
    go_wp2
    go_ret
    exact ⟨rfl, below_then B hb9⟩
  · rw [h1] at C1
    rw [h2] at C2
    have d1 : decide ((60 : Int) < (n : Int)) = true := decide_eq_true (by omega)
    clear h1 h2 h3
    go_enter Try.func5, Try.ntmps5
    go_wp2_with (rw [← HV.out]; refine dk_load rfl _ rfl rfl q.out ?_)
    refine (C1.out V q.out.2).mono ?_
    rintro e w1 ⟨rfl, hb1⟩
    have q := Lib.hid (q.out.up hb1)
    have B := below_then bV hb1
    go_wp2_with (refine wpList_unguard (by rfl) (dk_load rfl _ rfl rfl q.out ?_))
    refine (C2.out w1 q.out.2).mono ?_
    rintro e w2 ⟨rfl, hb2⟩
    have q := Lib.hid (q.out.up hb2)
    have B := below_then B hb2
    go_wp2_with fail
    refine (heads05 _).mono ?_
    rintro e w9 ⟨rfl, hb9⟩
    go_wp2
    go_ret
    exact ⟨rfl, below_then B hb9⟩
  · rw [h1] at C1
    rw [h2] at C2
    have d1 : decide ((60 : Int) < (n : Int)) = false := decide_eq_false (by omega)
    have d2 : decide ((m : Int) < (n : Int)) = true := decide_eq_true (by omega)
    have d3 : decide (m < n) = true := decide_eq_true h4
    have d4 : (m < n) = True := eq_true h4
    clear h1 h2 h3
    go_enter Try.func5, Try.ntmps5
    go_wp2_with (rw [← HV.out]; refine dk_load rfl _ rfl rfl q.out ?_)
    refine (C1.out V q.out.2).mono ?_
    rintro e w1 ⟨rfl, hb1⟩
    have q := Lib.hid (q.out.up hb1)
    have B := below_then bV hb1
    go_wp2_with (refine wpList_unguard (by rfl) (dk_load rfl _ rfl rfl q.out ?_))
    refine (C2.out w1 q.out.2).mono ?_
    rintro e w2 ⟨rfl, hb2⟩
    have q := Lib.hid (q.out.up hb2)
    have B := below_then B hb2
    go_wp2_with fail
    refine (heads05 _).mono ?_
    rintro e w9 ⟨rfl, hb9⟩
    go_wp2
    go_ret
    exact ⟨rfl, below_then B hb9⟩
theorem dk_cells {w : World} {h : Nat} {BV AV : Array Value} {T : TypeId} {D : Dk} (hrow : w.heap[h]? = some (.cells BV T (0, 0))) (hB : BV.size = 2) (v : DkVal AV w D) : (storeCells ⟨h, 0, none⟩ AV.toList).run Try.prog w = .ok () (w.setRow h AV) := by
  obtain ⟨S, sn, sc, K, kn, kc, rfl, r⟩ := v
  have := run_storeCells_at Try.prog h 0 T [.slice S sn sc, .slice K kn kc] 0 BV w hrow (by simp; omega) (by simp [Value.oneCell'])
  refine this.trans ?_
  congr 2
  rw [List.drop_eq_nil_of_le (by simp; omega)]
  rfl
/-- What stands between two rounds. -/
def LastI (w : World) (n : Nat) (v : Value) (wr : World) : Prop := ∃ (k : Nat) (AV : Array Value) (D : Dk), k ≤ n ∧ v = .int .i64 (k : Int) ∧ Hid (DkV wr w.heap.size AV D) ∧ Hid (DkIn (fun j => j = w.heap.size) wr AV D) ∧ Hid (dkOk D = true) ∧ Below w.heap.size w wr
theorem dskLast_main (S : Option Addr) (sn sc : Nat) (K : Option Addr) (kn kc : Nat) (D : Dk) (A : Option Addr) (n c : Nat) (is : List Int) (A2 : Option Addr) (m c2 : Nat) (bs : List UInt8) (w : World) (hr : RdDk w S sn sc K kn kc D) (hi : RdIs w A n c is) (hb : RdB w A2 m c2 bs) (h1 : dkFew D = true) (h2 : dkOk D = true) (h3 : n ≤ 60) (h4 : n ≤ m) :
    Calls Try.prog 5 #[.agg #[.slice S sn sc, .slice K kn kc], .slice A n c, .slice A2 m c2] w (RetV w (.bool true)) := by
  have hn63 := hi.n63
  have hm63 := hb.n63
  obtain ⟨AV, hAV⟩ : ∃ AV : Array Value, AV = #[.slice S sn sc, .slice K kn kc] := ⟨_, rfl⟩
  have v : DkVal AV w D := ⟨S, sn, sc, K, kn, kc, hAV, hr⟩
  rw [← hAV]
  obtain ⟨V, hV⟩ : ∃ V, V = w.alloc (.cells AV 25) := ⟨_, rfl⟩
  have bV : Below w.heap.size w V := by rw [hV]; exact (below_self w).alloc (Nat.le_refl _) _
  have q : Hid (DkV V w.heap.size AV D) := Lib.hid ⟨by rw [hV]; exact drw_at _ rfl, v.below bV⟩
  have HV := Lib.hid hV
  have C1 := Lib.hid (fun W (v : DkVal AV W D) => vFew v)
  have C2 := Lib.hid (fun W (v : DkVal AV W D) => vRefCheck v)
  rw [h1] at C1
  rw [h2] at C2
  have d1 : decide ((60 : Int) < (n : Int)) = false := decide_eq_false (by omega)
  have d2 : decide ((m : Int) < (n : Int)) = false := decide_eq_false (by omega)
  have d3 : decide (m < n) = false := decide_eq_false (by omega)
  have d4 : (m < n) = False := eq_false (by omega)
  have I0 : Hid (DkIn (fun j => j = w.heap.size) V AV D) := Lib.hid (v.inn bV (fun j hj => by omega))
  have HOK := Lib.hid h2
  clear hV hAV v h1 h2
  go_enter Try.func5, Try.ntmps5
  go_wp2_with (rw [← HV.out]; refine dk_load rfl _ rfl rfl q.out ?_)
  refine (C1.out V q.out.2).mono ?_
  rintro e w1 ⟨rfl, hb1⟩
  have q := Lib.hid (q.out.up hb1)
  have B := below_then bV hb1
  go_wp2_with (refine wpList_unguard (by rfl) (dk_load rfl _ rfl rfl q.out ?_))
  refine (C2.out w1 q.out.2).mono ?_
  rintro e w2 ⟨rfl, hb2⟩
  have q := Lib.hid (q.out.up hb2)
  have B := below_then B hb2
  have I0 := Lib.hid ((I0.out.below hb1).below hb2)
  go_wp2_with fail
  go_loopw [7] (LastI w n) (fun v _ => n - (intOf v).toNat)
  case atStart => exact ⟨0, AV, D, by omega, rfl, q, I0, HOK, B⟩
  case round =>
  clear q I0 HOK B d1 d2 d3 d4 C1 C2 HV hb1 hb2 bV
  obtain ⟨k, AV, D, hk, rfl, q, I0, HOK, B⟩ := hrel
  obtain ⟨wo, rfl⟩ : ∃ W : World, W = wr := ⟨_, rfl⟩
  have lq := q.out.lt
  by_cases hlt : k < n
  · obtain ⟨b5, o5, a, hAe, hb5, hc5, ha⟩ := (hi.below B).at_ k hlt
    obtain ⟨b6, o6, u, hA2e, hb6, hu6, hc6⟩ := (hb.below B).at_ k (by omega)
    obtain ⟨Y, hY⟩ : ∃ Y, List.replicate 256 u = Y := ⟨_, rfl⟩
    have CS := Lib.hid (fun W => sector_any u W)
    rw [hY] at CS
    obtain ⟨E, hE⟩ : ∃ E, dkWriteE D a Y = E := ⟨_, rfl⟩
    obtain ⟨X, hX⟩ : ∃ X, dkWrite D a Y = X := ⟨_, rfl⟩
    have CW := Lib.hid (fun (P : Nat → Prop) (W : World) (v : DkIn P W AV D) (hP : ∀ j, P j → j < W.heap.size) (B : Option Addr) (m d : Nat) (hd : RdB W B m d Y) => vWriteI v hP a B m d Y ha hd)
    rw [hE, hX] at CW
    have HE := Lib.hid hE
    have HX := Lib.hid hX
    have HA := Lib.hid ha
    have hkm : (k : Int) < (m : Int) := by omega
    have hkn : (k : Int) < (n : Int) := by omega
    subst hAe hA2e
    clear hY hE hX hu6 ha
    go_wp2_with fail
    apply cut6 (R := fun U g A1 => Hid (DkV U g A1 X) ∧ Hid (DkIn (fun j => j = w.heap.size ∨ j = g) U A1 X) ∧ wo.heap.size ≤ g ∧ Below wo.heap.size wo U)
    rotate_left
    · intro TL
      refine wp_region_seg (S := fun w' => Below wo.heap.size wo w') 8 #[true, true, true, true, true, true, true, true, true, false, false, false, false, false, false, false, false] [(0, true), (1, true), (2, true), (3, true), (4, true), (5, true), (6, true), (7, true), (8, true)] (by kernel_rfl) (by kernel_rfl) (fun _ _ d _ _ h => by first | (cases d <;> exact h) | cases h.1) ((Below.refl wo.heap.size wo).drew) ?_
      have HB := (Below.refl wo.heap.size wo).drew
      refine seg_take (v := .agg AV) rfl (Or.inl ⟨by rfl, fun w' hw' => ?_⟩) ?_
      focus (exact dex_load rfl rfl (dk_run w' q.out hw'))
      try simp only [Act.put, List.setIfInBounds_toArray, List.set_cons_zero, List.set_cons_succ]
      iterate 8 (refine seg_take (v := ?_) rfl (Or.inl ⟨by rfl, ?_⟩) ?_; rotate_left; (focus (intro w' hw'; have j0 := (hw'.cell (p := ⟨b5, o5 + k, none⟩) hb5).trans hc5; have j1 := (hw'.cell (p := ⟨b6, o6 + k, none⟩) hb6).trans hc6; go_simp <;> with_reducible rfl)); try simp only [Act.put, List.setIfInBounds_toArray, List.set_cons_zero, List.set_cons_succ])
      refine seg_done (fun _ => ?_)
      refine wpAnyH_two (i := 9) (j := 14) (f := 7) (by kernel_rfl) ?_ ?_
      · skip
        refine op_run rfl (fun K hK => ?_)
        go_simp
        refine (CS.out _).mono ?_
        rintro e_ wS ⟨AS, nS, cS, rfl, oS, hbS⟩
        try have hL := (hbS.block _ (by omega)).trans hL
        try have hLlt := Nat.lt_of_lt_of_le hLlt hbS.size
        have rS := oS.rd
        have HB := below_then HB hbS
        refine hK.out _ _ (HB) ?_
        clear hK
        try simp only [Act.put, List.setIfInBounds_toArray, List.set_cons_zero, List.set_cons_succ]
        refine wpAnyH_seg (by kernel_rfl) (fun _ _ d _ _ h => by first | (cases d <;> exact h) | cases h.1) 7 #[true, true, true, true, true, true, true, true, true, true, false, false, false, false, false, false, false] [] _ _ _ (by kernel_rfl) (HB) ?_
        refine seg_done (fun _ => ?_)
        refine wpAnyH_two (i := 10) (j := 14) (f := 6) (by kernel_rfl) ?_ ?_
        · skip
          refine op_run rfl (fun K hK => ?_)
          go_simp
          first
            | refine (CW.out (fun j => j = w.heap.size ∨ j = g1) _ (I0.out.more HB (fun j hj => hj.imp id (fun e => by omega))) (fun j hj => by have := HB.size; rcases hj with rfl | rfl <;> omega) AS nS cS rS).mono ?_
            | refine (CW.out (fun j => j = w.heap.size) _ (I0.out.below HB) (fun j hj => by have := HB.size; omega) AS nS cS rS).mono ?_
          rintro e_ wC ⟨A1, rfl, vC, hbC⟩
          try have vI : DkIn (fun j => j = w.heap.size ∨ j = g1) _ A1 X := vC
          try have hL := (hbC.block _ (by omega)).trans hL
          try have hLlt := Nat.lt_of_lt_of_le hLlt hbC.size
          have HB := below_then HB hbC
          refine hK.out _ _ (HB) ?_
          clear hK
          try simp only [Act.put, List.setIfInBounds_toArray, List.set_cons_zero, List.set_cons_succ]
          refine wpAnyH_seg (by kernel_rfl) (fun _ _ d _ _ h => by first | (cases d <;> exact h) | cases h.1) 0 #[true, true, true, true, true, true, true, true, true, true, true, true, true, true, true, true, true] [(11, true), (12, true), (13, true), (14, false), (15, false), (16, true)] _ _ _ (by kernel_rfl) (HB) ?_
          iterate 3 (refine seg_take (v := ?_) rfl (Or.inl ⟨by rfl, ?_⟩) ?_; rotate_left; (focus (intro w' hw'; have j0 := (hw'.cell (p := ⟨b5, o5 + k, none⟩) hb5).trans hc5; have j1 := (hw'.cell (p := ⟨b6, o6 + k, none⟩) hb6).trans hc6; go_simp <;> with_reducible rfl)); try simp only [Act.put, List.setIfInBounds_toArray, List.set_cons_zero, List.set_cons_succ])
          refine seg_run rfl (fun K hK => ?_)
          rw [if_pos (by rfl)]
          refine op_new #[.slice none 0 0, .slice none 0 0] 25 (fun w => by go_simp) ?_
          intro g1 wL eL hL HBl hLsz
          have HBz := HB.size
          have hgle : wo.heap.size ≤ g1 := by omega
          have hLlt : g1 < wL.heap.size := by omega
          try have rS := rS.below HBl
          try have vI : DkIn (fun j => j = w.heap.size ∨ j = g1) wL A1 X := vC.more HBl (fun j hj => hj.imp id (fun e => by omega))
          have HB := below_then HB HBl
          clear eL hLsz HBz
          refine hK.out _ _ (HB) ?_
          clear hK
          try simp only [Act.put, List.setIfInBounds_toArray, List.set_cons_zero, List.set_cons_succ]
          refine seg_run rfl (fun K hK => ?_)
          rw [if_pos (by rfl)]
          refine wp_store_row _ _ _ rfl g1 A1 rfl rfl _ _ hL vI.val.info (by rw [vI.val.size]; rfl) vI.val.one ?_
          have HB := below_setRow HB hgle A1
          refine hK.out _ _ (HB) ?_
          clear hK
          try simp only [Act.put, List.setIfInBounds_toArray, List.set_cons_zero, List.set_cons_succ]
          iterate 1 (refine seg_take (v := ?_) rfl (Or.inl ⟨by rfl, ?_⟩) ?_; rotate_left; (focus (intro w' hw'; have j0 := (hw'.cell (p := ⟨b5, o5 + k, none⟩) hb5).trans hc5; have j1 := (hw'.cell (p := ⟨b6, o6 + k, none⟩) hb6).trans hc6; go_simp <;> with_reducible rfl)); try simp only [Act.put, List.setIfInBounds_toArray, List.set_cons_zero, List.set_cons_succ])
          refine seg_done (fun _ => ?_)
          refine wpAnyH_done (by kernel_rfl) ?_ _
          have hrw := setRow_heap _ g1 _ A1 _ _ hL
          have vF := vI.row A1 (.inr rfl)
          obtain ⟨U1, hU⟩ : ∃ U, U = wL.setRow g1 A1 := ⟨_, rfl⟩
          first
            | (rw [← hU] at hrw HB vF ⊢)
            | (clear hU; obtain ⟨U1, hU⟩ : ∃ U, U = wC.setRow g1 A1 := ⟨_, rfl⟩; rw [← hU] at hrw HB vF ⊢)
          exact TL U1 g1 A1 AS nS cS ⟨Lib.hid ⟨hrw, vF.val⟩, Lib.hid vF, hgle, HB⟩
        · skip
          refine op_run rfl (fun K hK => ?_)
          rw [if_pos (by rfl)]
          refine op_new #[.slice none 0 0, .slice none 0 0] 25 (fun w => by go_simp) ?_
          intro g1 wL eL hL HBl hLsz
          have HBz := HB.size
          have hgle : wo.heap.size ≤ g1 := by omega
          have hLlt : g1 < wL.heap.size := by omega
          try have rS := rS.below HBl
          try have vI : DkIn (fun j => j = w.heap.size ∨ j = g1) wL A1 X := vC.more HBl (fun j hj => hj.imp id (fun e => by omega))
          have HB := below_then HB HBl
          clear eL hLsz HBz
          refine hK.out _ _ (HB) ?_
          clear hK
          try simp only [Act.put, List.setIfInBounds_toArray, List.set_cons_zero, List.set_cons_succ]
          refine wpAnyH_seg (by kernel_rfl) (fun _ _ d _ _ h => by first | (cases d <;> exact h) | cases h.1) 0 #[true, true, true, true, true, true, true, true, true, true, true, true, true, true, true, true, true] [(10, false), (11, true), (12, true), (13, true), (15, false), (16, true)] _ _ _ (by kernel_rfl) (HB) ?_
          refine seg_run rfl (fun K hK => ?_)
          go_simp
          first
            | refine (CW.out (fun j => j = w.heap.size ∨ j = g1) _ (I0.out.more HB (fun j hj => hj.imp id (fun e => by omega))) (fun j hj => by have := HB.size; rcases hj with rfl | rfl <;> omega) AS nS cS rS).mono ?_
            | refine (CW.out (fun j => j = w.heap.size) _ (I0.out.below HB) (fun j hj => by have := HB.size; omega) AS nS cS rS).mono ?_
          rintro e_ wC ⟨A1, rfl, vC, hbC⟩
          try have vI : DkIn (fun j => j = w.heap.size ∨ j = g1) _ A1 X := vC
          try have hL := (hbC.block _ (by omega)).trans hL
          try have hLlt := Nat.lt_of_lt_of_le hLlt hbC.size
          have HB := below_then HB hbC
          refine hK.out _ _ (HB) ?_
          clear hK
          try simp only [Act.put, List.setIfInBounds_toArray, List.set_cons_zero, List.set_cons_succ]
          iterate 3 (refine seg_take (v := ?_) rfl (Or.inl ⟨by rfl, ?_⟩) ?_; rotate_left; (focus (intro w' hw'; have j0 := (hw'.cell (p := ⟨b5, o5 + k, none⟩) hb5).trans hc5; have j1 := (hw'.cell (p := ⟨b6, o6 + k, none⟩) hb6).trans hc6; go_simp <;> with_reducible rfl)); try simp only [Act.put, List.setIfInBounds_toArray, List.set_cons_zero, List.set_cons_succ])
          refine seg_run rfl (fun K hK => ?_)
          rw [if_pos (by rfl)]
          refine wp_store_row _ _ _ rfl g1 A1 rfl rfl _ _ hL vI.val.info (by rw [vI.val.size]; rfl) vI.val.one ?_
          have HB := below_setRow HB hgle A1
          refine hK.out _ _ (HB) ?_
          clear hK
          try simp only [Act.put, List.setIfInBounds_toArray, List.set_cons_zero, List.set_cons_succ]
          iterate 1 (refine seg_take (v := ?_) rfl (Or.inl ⟨by rfl, ?_⟩) ?_; rotate_left; (focus (intro w' hw'; have j0 := (hw'.cell (p := ⟨b5, o5 + k, none⟩) hb5).trans hc5; have j1 := (hw'.cell (p := ⟨b6, o6 + k, none⟩) hb6).trans hc6; go_simp <;> with_reducible rfl)); try simp only [Act.put, List.setIfInBounds_toArray, List.set_cons_zero, List.set_cons_succ])
          refine seg_done (fun _ => ?_)
          refine wpAnyH_done (by kernel_rfl) ?_ _
          have hrw := setRow_heap _ g1 _ A1 _ _ hL
          have vF := vI.row A1 (.inr rfl)
          obtain ⟨U1, hU⟩ : ∃ U, U = wL.setRow g1 A1 := ⟨_, rfl⟩
          first
            | (rw [← hU] at hrw HB vF ⊢)
            | (clear hU; obtain ⟨U1, hU⟩ : ∃ U, U = wC.setRow g1 A1 := ⟨_, rfl⟩; rw [← hU] at hrw HB vF ⊢)
          exact TL U1 g1 A1 AS nS cS ⟨Lib.hid ⟨hrw, vF.val⟩, Lib.hid vF, hgle, HB⟩
      · skip
        refine op_run rfl (fun K hK => ?_)
        rw [if_pos (by rfl)]
        refine op_new #[.slice none 0 0, .slice none 0 0] 25 (fun w => by go_simp) ?_
        intro g1 wL eL hL HBl hLsz
        have HBz := HB.size
        have hgle : wo.heap.size ≤ g1 := by omega
        have hLlt : g1 < wL.heap.size := by omega
        try have rS := rS.below HBl
        try have vI : DkIn (fun j => j = w.heap.size ∨ j = g1) wL A1 X := vC.more HBl (fun j hj => hj.imp id (fun e => by omega))
        have HB := below_then HB HBl
        clear eL hLsz HBz
        refine hK.out _ _ (HB) ?_
        clear hK
        try simp only [Act.put, List.setIfInBounds_toArray, List.set_cons_zero, List.set_cons_succ]
        refine wpAnyH_seg (by kernel_rfl) (fun _ _ d _ _ h => by first | (cases d <;> exact h) | cases h.1) 0 #[true, true, true, true, true, true, true, true, true, true, true, true, true, true, true, true, true] [(9, false), (10, false), (11, true), (12, true), (13, true), (15, false), (16, true)] _ _ _ (by kernel_rfl) (HB) ?_
        refine seg_run rfl (fun K hK => ?_)
        go_simp
        refine (CS.out _).mono ?_
        rintro e_ wS ⟨AS, nS, cS, rfl, oS, hbS⟩
        try have hL := (hbS.block _ (by omega)).trans hL
        try have hLlt := Nat.lt_of_lt_of_le hLlt hbS.size
        have rS := oS.rd
        have HB := below_then HB hbS
        refine hK.out _ _ (HB) ?_
        clear hK
        try simp only [Act.put, List.setIfInBounds_toArray, List.set_cons_zero, List.set_cons_succ]
        refine seg_run rfl (fun K hK => ?_)
        go_simp
        first
          | refine (CW.out (fun j => j = w.heap.size ∨ j = g1) _ (I0.out.more HB (fun j hj => hj.imp id (fun e => by omega))) (fun j hj => by have := HB.size; rcases hj with rfl | rfl <;> omega) AS nS cS rS).mono ?_
          | refine (CW.out (fun j => j = w.heap.size) _ (I0.out.below HB) (fun j hj => by have := HB.size; omega) AS nS cS rS).mono ?_
        rintro e_ wC ⟨A1, rfl, vC, hbC⟩
        try have vI : DkIn (fun j => j = w.heap.size ∨ j = g1) _ A1 X := vC
        try have hL := (hbC.block _ (by omega)).trans hL
        try have hLlt := Nat.lt_of_lt_of_le hLlt hbC.size
        have HB := below_then HB hbC
        refine hK.out _ _ (HB) ?_
        clear hK
        try simp only [Act.put, List.setIfInBounds_toArray, List.set_cons_zero, List.set_cons_succ]
        iterate 3 (refine seg_take (v := ?_) rfl (Or.inl ⟨by rfl, ?_⟩) ?_; rotate_left; (focus (intro w' hw'; have j0 := (hw'.cell (p := ⟨b5, o5 + k, none⟩) hb5).trans hc5; have j1 := (hw'.cell (p := ⟨b6, o6 + k, none⟩) hb6).trans hc6; go_simp <;> with_reducible rfl)); try simp only [Act.put, List.setIfInBounds_toArray, List.set_cons_zero, List.set_cons_succ])
        refine seg_run rfl (fun K hK => ?_)
        rw [if_pos (by rfl)]
        refine wp_store_row _ _ _ rfl g1 A1 rfl rfl _ _ hL vI.val.info (by rw [vI.val.size]; rfl) vI.val.one ?_
        have HB := below_setRow HB hgle A1
        refine hK.out _ _ (HB) ?_
        clear hK
        try simp only [Act.put, List.setIfInBounds_toArray, List.set_cons_zero, List.set_cons_succ]
        iterate 1 (refine seg_take (v := ?_) rfl (Or.inl ⟨by rfl, ?_⟩) ?_; rotate_left; (focus (intro w' hw'; have j0 := (hw'.cell (p := ⟨b5, o5 + k, none⟩) hb5).trans hc5; have j1 := (hw'.cell (p := ⟨b6, o6 + k, none⟩) hb6).trans hc6; go_simp <;> with_reducible rfl)); try simp only [Act.put, List.setIfInBounds_toArray, List.set_cons_zero, List.set_cons_succ])
        refine seg_done (fun _ => ?_)
        refine wpAnyH_done (by kernel_rfl) ?_ _
        have hrw := setRow_heap _ g1 _ A1 _ _ hL
        have vF := vI.row A1 (.inr rfl)
        obtain ⟨U1, hU⟩ : ∃ U, U = wL.setRow g1 A1 := ⟨_, rfl⟩
        first
          | (rw [← hU] at hrw HB vF ⊢)
          | (clear hU; obtain ⟨U1, hU⟩ : ∃ U, U = wC.setRow g1 A1 := ⟨_, rfl⟩; rw [← hU] at hrw HB vF ⊢)
        exact TL U1 g1 A1 AS nS cS ⟨Lib.hid ⟨hrw, vF.val⟩, Lib.hid vF, hgle, HB⟩
    rintro U1 g1 A1 AS nS cS ⟨q1, I1, hg1, HB⟩
    have q := Lib.hid (q.out.up HB)
    have I0 := Lib.hid (I0.out.below HB)
    have B := below_then B HB
    have hc5 := (HB.cell (p := ⟨b5, o5 + k, none⟩) hb5).trans hc5
    have hc6 := (HB.cell (p := ⟨b6, o6 + k, none⟩) hb6).trans hc6
    have hb5 := Nat.lt_of_lt_of_le hb5 HB.size
    have hb6 := Nat.lt_of_lt_of_le hb6 HB.size
    have lq1 := q1.out.lt
    clear CW HB lq
    by_cases h0 : E = 0
    · subst h0
      obtain ⟨X', G, hX', hXok, hXa, hXr, hXe, hXf, hGk, hGa, hGr⟩ := dkWrite_all HOK.out HE.out
      obtain rfl : X' = X := by rw [← hX', HX.out]
      have R1 := Lib.hid (fun W (v : DkVal A1 W X') => vRead v a HA.out)
      rw [hXr, hXa] at R1
      have F1 := Lib.hid (fun W (v : DkVal A1 W X') => vFlush v)
      rw [hXf, hXe] at F1
      have R2 := Lib.hid (fun A3 W (v : DkVal A3 W G) => vRead v a HA.out)
      rw [hGr, hGa] at R2
      have HXok := Lib.hid hXok
      have HGk := Lib.hid hGk
      clear hX' hXok hXa hXr hXe hXf hGk hGa hGr HE HX
      go_wp2_with fail
      refine wp_region_seg (S := fun w' => Below U1.heap.size U1 w') 0 #[true, true, true, true, true, true, true, true, true, true, true] [(0, true), (1, true), (2, true), (3, true), (4, true), (5, false), (6, true), (7, true), (8, true), (9, true), (10, true)] (by kernel_rfl) (by kernel_rfl) (fun _ _ d _ _ h => by first | (cases d <;> exact h) | cases h.1) ((Below.refl U1.heap.size U1).drew) ?_
      have HB := (Below.refl U1.heap.size U1).drew
      refine seg_take (v := .agg A1) rfl (Or.inl ⟨by rfl, fun w' hw' => ?_⟩) ?_
      focus (exact dex_load rfl rfl (dk_run w' q1.out hw'))
      try simp only [Act.put, List.setIfInBounds_toArray, List.set_cons_zero, List.set_cons_succ]
      iterate 4 (refine seg_take (v := ?_) rfl (Or.inl ⟨by rfl, ?_⟩) ?_; rotate_left; (focus (intro w' hw'; have j0 := (hw'.cell (p := ⟨b5, o5 + k, none⟩) hb5).trans hc5; go_simp <;> with_reducible rfl)); try simp only [Act.put, List.setIfInBounds_toArray, List.set_cons_zero, List.set_cons_succ])
      refine seg_run rfl (fun K hK => ?_)
      go_simp
      refine (R1.out _ (q1.out.up HB).2).mono ?_
      rintro e_ w3 ⟨A3, n3, c3, rfl, o3, hb3⟩
      have HB := below_then HB hb3
      refine hK.out _ _ (HB) ?_
      clear hK
      try simp only [Act.put, List.setIfInBounds_toArray, List.set_cons_zero, List.set_cons_succ]
      iterate 5 (refine seg_take (v := ?_) rfl (Or.inl ⟨by rfl, ?_⟩) ?_; rotate_left; (focus (intro w' hw'; have j0 := (hw'.cell (p := ⟨b5, o5 + k, none⟩) hb5).trans hc5; go_simp <;> with_reducible rfl)); try simp only [Act.put, List.setIfInBounds_toArray, List.set_cons_zero, List.set_cons_succ])
      refine seg_done (fun _ => ?_)
      refine wpAnyH_done (by kernel_rfl) ?_ _
      have r3 := o3.rd
      have q := Lib.hid (q.out.up HB)
      have q1 := Lib.hid (q1.out.up HB)
      have I1 := Lib.hid (I1.out.below HB)
      have B := below_then B HB
      have hc5 := (HB.cell (p := ⟨b5, o5 + k, none⟩) hb5).trans hc5
      have hc6 := (HB.cell (p := ⟨b6, o6 + k, none⟩) hb6).trans hc6
      have hb5 := Nat.lt_of_lt_of_le hb5 HB.size
      have hb6 := Nat.lt_of_lt_of_le hb6 HB.size
      clear HB o3 hb3 R1
      go_wp2_with (refine dk_load rfl _ rfl rfl q1.out ?_)
      refine (F1.out w3 q1.out.2).mono ?_
      rintro e w4 ⟨A4, rfl, v4, hb4⟩
      have q := Lib.hid (q.out.up hb4)
      have q1 := Lib.hid (q1.out.up hb4)
      have I1 := Lib.hid (I1.out.below hb4)
      have B := below_then B hb4
      have r3 := r3.below hb4
      have hc5 := (hb4.cell (p := ⟨b5, o5 + k, none⟩) hb5).trans hc5
      have hc6 := (hb4.cell (p := ⟨b6, o6 + k, none⟩) hb6).trans hc6
      have hb5 := Nat.lt_of_lt_of_le hb5 hb4.size
      have hb6 := Nat.lt_of_lt_of_le hb6 hb4.size
      clear F1
      go_wp2_with (refine dk_fresh rfl _ _ rfl rfl rfl w4 rfl rfl v4 ?_; intro X4 q4 x4)
      have q := Lib.hid (q.out.up x4)
      have q1 := Lib.hid (q1.out.up x4)
      have I1 := Lib.hid (I1.out.below x4)
      have B := below_then B x4
      have r3 := r3.below x4
      have hc5 := (x4.cell (p := ⟨b5, o5 + k, none⟩) hb5).trans hc5
      have hc6 := (x4.cell (p := ⟨b6, o6 + k, none⟩) hb6).trans hc6
      have hb5 := Nat.lt_of_lt_of_le hb5 x4.size
      have hb6 := Nat.lt_of_lt_of_le hb6 x4.size
      have lq4 := q4.out.lt
      clear hb4 v4 x4
      go_wp2_with fail
      refine wp_region_seg (S := fun w' => Below X4.heap.size X4 w') 0 #[true, true, true, true, true, true, true, true, true, true, true] [(0, true), (1, true), (2, true), (3, true), (4, true), (5, false), (6, true), (7, true), (8, true), (9, true), (10, true)] (by kernel_rfl) (by kernel_rfl) (fun _ _ d _ _ h => by first | (cases d <;> exact h) | cases h.1) ((Below.refl X4.heap.size X4).drew) ?_
      have HB := (Below.refl X4.heap.size X4).drew
      refine seg_take (v := .agg A4) rfl (Or.inl ⟨by rfl, fun w' hw' => ?_⟩) ?_
      focus (exact dex_load rfl rfl (dk_run w' q4.out hw'))
      try simp only [Act.put, List.setIfInBounds_toArray, List.set_cons_zero, List.set_cons_succ]
      iterate 4 (refine seg_take (v := ?_) rfl (Or.inl ⟨by rfl, ?_⟩) ?_; rotate_left; (focus (intro w' hw'; have j0 := (hw'.cell (p := ⟨b5, o5 + k, none⟩) hb5).trans hc5; go_simp <;> with_reducible rfl)); try simp only [Act.put, List.setIfInBounds_toArray, List.set_cons_zero, List.set_cons_succ])
      refine seg_run rfl (fun K hK => ?_)
      go_simp
      refine (R2.out A4 _ (q4.out.up HB).2).mono ?_
      rintro e_ w5 ⟨A5, n5, c5, rfl, o5r, hb5r⟩
      have HB := below_then HB hb5r
      refine hK.out _ _ (HB) ?_
      clear hK
      try simp only [Act.put, List.setIfInBounds_toArray, List.set_cons_zero, List.set_cons_succ]
      iterate 5 (refine seg_take (v := ?_) rfl (Or.inl ⟨by rfl, ?_⟩) ?_; rotate_left; (focus (intro w' hw'; have j0 := (hw'.cell (p := ⟨b5, o5 + k, none⟩) hb5).trans hc5; go_simp <;> with_reducible rfl)); try simp only [Act.put, List.setIfInBounds_toArray, List.set_cons_zero, List.set_cons_succ])
      refine seg_done (fun _ => ?_)
      refine wpAnyH_done (by kernel_rfl) ?_ _
      have r5 := o5r.rd
      have q := Lib.hid (q.out.up HB)
      have q1 := Lib.hid (q1.out.up HB)
      have q4 := Lib.hid (q4.out.up HB)
      have I1 := Lib.hid (I1.out.below HB)
      have B := below_then B HB
      have r3 := r3.below HB
      have hc6 := (HB.cell (p := ⟨b6, o6 + k, none⟩) hb6).trans hc6
      have hb6 := Nat.lt_of_lt_of_le hb6 HB.size
      clear HB o5r hb5r R2 hc5 hb5
      go_wp2_with fail
      refine (CS.out w5).mono ?_
      rintro e w6 ⟨A6, n6, c6, rfl, o6r, hb6r⟩
      have r6 := o6r.rd
      have q := Lib.hid (q.out.up hb6r)
      have q1 := Lib.hid (q1.out.up hb6r)
      have q4 := Lib.hid (q4.out.up hb6r)
      have I1 := Lib.hid (I1.out.below hb6r)
      have B := below_then B hb6r
      have r3 := r3.below hb6r
      have r5 := r5.below hb6r
      clear hc6 hb6 o6r hb6r
      go_wp2_with fail
      have hh := bytes_any A3 A6 n3 c3 n6 c6 Y Y w6 r3 r6
      rw [decide_eq_true rfl] at hh
      refine hh.mono ?_
      clear hh
      rintro e u1 ⟨rfl, rfl⟩
      go_wp2_with fail
      have hh := bytes_any A5 A3 n5 c5 n3 c3 Y Y _ r5 r3
      rw [decide_eq_true rfl] at hh
      refine hh.mono ?_
      clear hh
      rintro e u2 ⟨rfl, rfl⟩
      obtain ⟨K4, kc4, hk4⟩ := q4.out.c1
      rw [HGk.out] at hk4
      obtain ⟨W9, hW9⟩ : ∃ W, W = w6.setRow w.heap.size A1 := ⟨_, rfl⟩
      have hst : (storeCells ⟨w.heap.size, 0, none⟩ A1.toList).run Try.prog w6 = .ok () W9 := by rw [hW9]; exact dk_cells q.out.1 q.out.2.size q1.out.2
      have Q9 : Hid (DkV W9 w.heap.size A1 X') := by rw [hW9]; exact Lib.hid ⟨setRow_heap _ _ _ A1 _ _ q.out.1, (I1.out.row A1 (.inl rfl)).val⟩
      have I9 : Hid (DkIn (fun j => j = w.heap.size) W9 A1 X') := by rw [hW9]; exact Lib.hid ((I1.out.row A1 (.inl rfl)).sub (fun j hj => .inl hj))
      have hz2 : A1.size = 2 := q1.out.2.size
      have B9 : Below w.heap.size w W9 := by rw [hW9]; exact below_setRow B (Nat.le_refl _) A1
      clear hW9
      go_wp2_with (refine dk_load rfl _ rfl rfl q1.out ?_)
      go_roundw
      case rel => exact ⟨k + 1, A1, X', by omega, by go_num, Q9, I9, HXok, B9⟩
      case measure => simp [intOf]; omega
    · obtain rfl : X = D := by
        rw [← HX.out]; unfold dkWrite; rw [if_neg (by rw [HE.out]; exact h0)]
      have CM := Lib.hid (fun W (v : DkVal A1 W X) (u : DkVal AV W X) => vSame v u)
      have hne : (E != 0) = true := bne_iff_ne.2 h0
      clear HE HX h0
      go_wp2_with (first | (refine dk_load rfl _ rfl rfl q1.out ?_) | (refine dk_load rfl _ rfl rfl q.out ?_))
      refine (CM.out U1 q1.out.2 q.out.2).mono ?_
      rintro e w3 ⟨rfl, hb3⟩
      go_wp2_with fail
      go_roundw
      case rel => exact ⟨k + 1, AV, X, by omega, by go_num, Lib.hid (q.out.up hb3), Lib.hid (I0.out.below hb3), HOK, below_then B hb3⟩
      case measure => simp [intOf]; omega
  obtain rfl : n = k := by omega
  have CF := Lib.hid (fun W (v : DkVal AV W D) => vCheck v)
  rw [HOK.out] at CF
  go_wp2_with (refine dk_load rfl _ rfl rfl q.out ?_)
  refine (CF.out wo q.out.2).mono ?_
  rintro e w5 ⟨rfl, hb5⟩
  have B := below_then B hb5
  go_wp2_with fail
  refine (heads05 _).mono ?_
  rintro e w9 ⟨rfl, hb9⟩
  go_wp2
  go_ret
  exact ⟨rfl, below_then B hb9⟩
theorem dskLast_law (S : Option Addr) (sn sc : Nat) (K : Option Addr) (kn kc : Nat) (D : Dk) (A : Option Addr) (n c : Nat) (is : List Int) (A2 : Option Addr) (m c2 : Nat) (bs : List UInt8) (w : World) (hr : RdDk w S sn sc K kn kc D) (hi : RdIs w A n c is) (hb : RdB w A2 m c2 bs) :
    Calls Try.prog 5 #[.agg #[.slice S sn sc, .slice K kn kc], .slice A n c, .slice A2 m c2] w (RetV w (.bool true)) := by
  cases h1 : dkFew D with
  | false => exact dskLast_early S sn sc K kn kc D A n c is A2 m c2 bs w hr hi hb (.inl h1)
  | true =>
    cases h2 : dkOk D with
    | false => exact dskLast_early S sn sc K kn kc D A n c is A2 m c2 bs w hr hi hb (.inr (.inl ⟨h1, h2⟩))
    | true =>
      by_cases h3 : n ≤ 60
      · by_cases h4 : n ≤ m
        · exact dskLast_main S sn sc K kn kc D A n c is A2 m c2 bs w hr hi hb h1 h2 h3 h4
        · exact dskLast_early S sn sc K kn kc D A n c is A2 m c2 bs w hr hi hb (.inr (.inr (.inr ⟨h1, h2, h3, by omega⟩)))
      · exact dskLast_early S sn sc K kn kc D A n c is A2 m c2 bs w hr hi hb (.inr (.inr (.inl ⟨h1, h2, by omega⟩)))
end Go.Proofs.Yteajboafcjeagaa
