/-
  Layer 5: disks: the document's Tamper.
-/
import Derived.Test.YteajboafcjeagaaDskS
namespace Go.Proofs.Yteajboafcjeagaa
set_option maxRecDepth 20000
open Go.RowKit
set_option linter.unusedVariables false
set_option linter.unusedSimpArgs false
set_option maxHeartbeats 8000000

theorem ref_Tamper_any (S : Option Addr) (sn sc : Nat) (K : Option Addr) (kn kc : Nat) (D : Dk) (a p : Int) (u : UInt8) (w : World) (hr : RdDk w S sn sc K kn kc D) (ha : -9223372036854775808 ≤ a ∧ a ≤ 9223372036854775807) (hp : -9223372036854775808 ≤ p ∧ p ≤ 9223372036854775807) :
    Calls Try.prog 23 #[.agg #[.slice S sn sc, .slice K kn kc], .int .i64 a, .int .i64 p, .int .u8 (u.toNat : Int)] w (RetDk w (dkTamper D a p u) (dkTamperE D a p)) := by
  obtain ⟨hn1, hn2, _, _, _, _⟩ := hr.n63
  have hsl := hr.sl
  have hkl := hr.kl
  obtain ⟨V, hV⟩ : ∃ V, V = (w.alloc (.cells #[.slice S sn sc, .slice K kn kc] 25)).alloc (.cells #[.slice none 0 0, .slice none 0 0] 25) := ⟨_, rfl⟩
  have bV : Below w.heap.size w V := by rw [hV]; exact ((below_self w).alloc (Nat.le_refl _) _).alloc (by simp) _
  have qV : Hid (DkAt V w.heap.size S sn sc K kn kc) := by rw [hV]; exact Lib.hid (drw_old _ (drw_at _ rfl))
  have rV : Hid (DkAt V (w.heap.size + 1) none 0 0 none 0 0) := by rw [hV]; exact Lib.hid (drw_at _ (by simp))
  have HV := Lib.hid hV
  have C1 := Lib.hid (refDskCheck_any S sn sc K kn kc D V (hr.below bV))
  have C2 := Lib.hid (fun W => refDskHas_any S sn sc K kn kc a W hn1 ha)
  have hno : ¬ dkTamperE D a p = 0 → dkTamper D a p u = D := fun h => by unfold dkTamper; rw [if_neg h]
  clear hV
  rcases dkAsk_cases hsl a with ⟨h1, h2⟩ | ⟨h1, h2, h3⟩ | ⟨h1, h0, h2, h3, h4⟩
  · have e : dkTamperE D a p = 3 := by unfold dkTamperE; rw [if_pos (by rw [h2]; decide), h2]
    rw [hno (by rw [e]; decide), e]
    rw [h1] at C1
    clear h1 h2 hno e
    go_enter Try.func23, Try.ntmps23
    go_wp2_with fail
    rw [← HV.out]
    refine C1.out.mono ?_
    rintro e w1 ⟨rfl, hb1⟩
    have B1 := below_then bV hb1
    have q := Lib.hid (qV.out.up hb1)
    have r := Lib.hid (rV.out.up hb1)
    have x0 := q.out.c0
    have x1 := q.out.c1
    have y0 := r.out.c0
    have y1 := r.out.c1
    have f0 := r.out.fr 0
    have f1 := r.out.fr 1
    have QS := Lib.hid (r.out.s01 S sn sc K kn kc)
    go_wp2_with fail
    refine bodyPost_ret (dresults_cell_tmp Try.results23 _ _ (w.heap.size + 1) 25 _ (0, 0) _ rfl QS.out Try.underlying25 rfl (dkInfo ..)) rfl ?_
    exact ⟨S, sn, sc, K, kn, kc, rfl, hr.far2 B1 (by omega) _ _, below2 B1 (by omega) _ _⟩
  · have e : dkTamperE D a p = 50 := by unfold dkTamperE; rw [if_pos (by rw [h3]; decide), h3]
    rw [hno (by rw [e]; decide), e]
    rw [h1] at C1
    rw [h2] at C2
    clear h1 h2 h3 hno e
    go_enter Try.func23, Try.ntmps23
    go_wp2_with fail
    rw [← HV.out]
    refine C1.out.mono ?_
    rintro e w1 ⟨rfl, hb1⟩
    have B1 := below_then bV hb1
    have q := Lib.hid (qV.out.up hb1)
    have r := Lib.hid (rV.out.up hb1)
    have x0 := q.out.c0
    have x1 := q.out.c1
    go_wp2_with fail
    refine (C2.out w1).mono ?_
    rintro e w2 ⟨rfl, hb2⟩
    have B2 := below_then B1 hb2
    have q := Lib.hid (q.out.up hb2)
    have r := Lib.hid (r.out.up hb2)
    have x0 := q.out.c0
    have x1 := q.out.c1
    have y0 := r.out.c0
    have y1 := r.out.c1
    have f0 := r.out.fr 0
    have f1 := r.out.fr 1
    have QS := Lib.hid (r.out.s01 S sn sc K kn kc)
    go_wp2_with fail
    refine bodyPost_ret (dresults_cell_tmp Try.results23 _ _ (w.heap.size + 1) 25 _ (0, 0) _ rfl QS.out Try.underlying25 rfl (dkInfo ..)) rfl ?_
    exact ⟨S, sn, sc, K, kn, kc, rfl, hr.far2 B2 (by omega) _ _, below2 B2 (by omega) _ _⟩
  · have hok := h1
    rw [h1] at C1
    rw [h3] at C2
    have hs5 : sn ≤ 256 := by rw [← hsl]; exact ((dkOk_iff D).1 hok).1
    clear h1 h3
    by_cases hp0 : p < 0
    · have e : dkTamperE D a p = 2 := by unfold dkTamperE; rw [if_neg (by simp [h4]), if_pos (.inl hp0)]
      rw [hno (by rw [e]; decide), e]
      have d1 : decide (p < 0) = true := decide_eq_true hp0
      clear hno e h4 hok hp0
      go_enter Try.func23, Try.ntmps23
      go_wp2_with fail
      rw [← HV.out]
      refine C1.out.mono ?_
      rintro e w1 ⟨rfl, hb1⟩
      have B1 := below_then bV hb1
      have q := Lib.hid (qV.out.up hb1)
      have r := Lib.hid (rV.out.up hb1)
      have x0 := q.out.c0
      have x1 := q.out.c1
      go_wp2_with fail
      refine (C2.out w1).mono ?_
      rintro e w2 ⟨rfl, hb2⟩
      have B2 := below_then B1 hb2
      have q := Lib.hid (q.out.up hb2)
      have r := Lib.hid (r.out.up hb2)
      have x0 := q.out.c0
      have x1 := q.out.c1
      have y0 := r.out.c0
      have y1 := r.out.c1
      have f0 := r.out.fr 0
      have f1 := r.out.fr 1
      have QS := Lib.hid (r.out.s01 S sn sc K kn kc)
      go_wp2_with fail
      refine bodyPost_ret (dresults_cell_tmp Try.results23 _ _ (w.heap.size + 1) 25 _ (0, 0) _ rfl QS.out Try.underlying25 rfl (dkInfo ..)) rfl ?_
      exact ⟨S, sn, sc, K, kn, kc, rfl, hr.far2 B2 (by omega) _ _, below2 B2 (by omega) _ _⟩
    · have d1 : decide (p < 0) = false := decide_eq_false hp0
      by_cases hp1 : 256 ≤ p
      · have e : dkTamperE D a p = 2 := by unfold dkTamperE; rw [if_neg (by simp [h4]), if_pos (.inr hp1)]
        rw [hno (by rw [e]; decide), e]
        have d2 : decide (256 ≤ p) = true := decide_eq_true hp1
        clear hno e h4 hok hp0 hp1
        go_enter Try.func23, Try.ntmps23
        go_wp2_with fail
        rw [← HV.out]
        refine C1.out.mono ?_
        rintro e w1 ⟨rfl, hb1⟩
        have B1 := below_then bV hb1
        have q := Lib.hid (qV.out.up hb1)
        have r := Lib.hid (rV.out.up hb1)
        have x0 := q.out.c0
        have x1 := q.out.c1
        go_wp2_with fail
        refine (C2.out w1).mono ?_
        rintro e w2 ⟨rfl, hb2⟩
        have B2 := below_then B1 hb2
        have q := Lib.hid (q.out.up hb2)
        have r := Lib.hid (r.out.up hb2)
        have x0 := q.out.c0
        have x1 := q.out.c1
        have y0 := r.out.c0
        have y1 := r.out.c1
        have f0 := r.out.fr 0
        have f1 := r.out.fr 1
        have QS := Lib.hid (r.out.s01 S sn sc K kn kc)
        go_wp2_with fail
        refine bodyPost_ret (dresults_cell_tmp Try.results23 _ _ (w.heap.size + 1) 25 _ (0, 0) _ rfl QS.out Try.underlying25 rfl (dkInfo ..)) rfl ?_
        exact ⟨S, sn, sc, K, kn, kc, rfl, hr.far2 B2 (by omega) _ _, below2 B2 (by omega) _ _⟩
      · have e : dkTamperE D a p = 0 := by unfold dkTamperE; rw [if_neg (by simp [h4]), if_neg (by omega)]
        rw [e, show dkTamper D a p u = ⟨D.s.set a.toNat (dkTampered (D.s.getD a.toNat []) p.toNat u), D.k⟩ by unfold dkTamper; rw [if_pos e]]
        have d2 : decide (256 ≤ p) = false := decide_eq_false hp1
        obtain ⟨i, rfl⟩ : ∃ i : Nat, a = (i : Int) := ⟨a.toNat, by omega⟩
        obtain ⟨j, rfl⟩ : ∃ j : Nat, p = (j : Int) := ⟨p.toNat, by omega⟩
        rw [Int.toNat_natCast, Int.toNat_natCast]
        have hi : i < sn := by omega
        have hj : j < 256 := by omega
        have hl9 := dkOk_slen hok i (by omega)
        have l1 : (i : Int) < (sn : Int) := by omega
        have l2 : (j : Int) < 256 := by omega
        obtain ⟨⟨vs, hs⟩, us, hus⟩ := id hr
        obtain ⟨b5, o5, B, m, d, hSe, hb5, hc5, hy⟩ := hs.at_ i hi
        obtain ⟨Y, hY⟩ : ∃ Y, D.s.getD i [] = Y := ⟨_, rfl⟩
        rw [hY] at hl9 hy ⊢
        have hm : m = 256 := by rw [← hy.2.1]; exact hl9
        subst hm
        have HUS := Lib.hid hus
        have HS := Lib.hid hs
        have HYY := Lib.hid hy
        have HHL := Lib.hid hl9
        have H1c := Lib.hid (parts_one hs.2.2.2.2)
        subst hSe
        clear hno e h4 hok hp0 hp1 hus hs hy hl9 hY hsl
        go_enter Try.func23, Try.ntmps23
        go_wp2_with fail
        rw [← HV.out]
        refine C1.out.mono ?_
        rintro e w1 ⟨rfl, hb1⟩
        have B1 := below_then bV hb1
        have q := Lib.hid (qV.out.up hb1)
        have r := Lib.hid (rV.out.up hb1)
        have x0 := q.out.c0
        have x1 := q.out.c1
        go_wp2_with fail
        refine (C2.out w1).mono ?_
        rintro e w2 ⟨rfl, hb2⟩
        have B2 := below_then B1 hb2
        have q := Lib.hid (q.out.up hb2)
        have r := Lib.hid (r.out.up hb2)
        have x0 := q.out.c0
        have x1 := q.out.c1
        have bA := (below_self w2).alloc (Nat.le_refl _) (.cells #[] 5)
        have HO2 := Lib.hid (OwnB.lit w2 #[] [] 0 rfl rfl (by simp [maxLen]))
        have x0a : (w2.alloc (.cells #[] 5)).cell? ⟨w.heap.size, 0, none⟩ = some (.slice (some ⟨b5, o5, none⟩) sn sc) := (q.out.up bA).c0
        have x5a : (w2.alloc (.cells #[] 5)).cell? ⟨b5, o5 + i, none⟩ = some (.slice B 256 d) := ((below_then B2 bA).cell (p := ⟨b5, o5 + i, none⟩) hb5).trans hc5
        have Q2 := q
        have R2 := r
        have lq2 := q.out.lt
        have lr2 := r.out.lt
        go_wp2_with (first
          | (
            at_builtin
            refine wp_appB rfl _ _ rfl ((below_self w2).alloc (Nat.le_refl _) _) (Nat.le_refl _) (by simp) (some ⟨w2.heap.size, 0, none⟩) 0 0 [] rfl HO2.out B 256 d Y rfl ((HYY.out.below B2).alloc _) (by omega) 256 Y (by omega) rfl ?_
            intro A5 c5 w5 ho5 hb5g hg5
            obtain ⟨g5, e5, h51, h52⟩ := ho5.addr (by omega)
            subst e5
            obtain ⟨u9, hu9, hc9⟩ := ho5.cell_ j hj
            have hf9 := ho5.free j
            have ex := du8_xor u9 u
            have HD7 := Lib.hid (ho5.set_ j (u9 ^^^ u))
            have HU9 := Lib.hid hu9
            obtain ⟨bv, hbv⟩ : ∃ bv : Int, bv = (((u9 ^^^ u).toNat : Nat) : Int) := ⟨_, rfl⟩
            rw [← hbv] at ex HD7
            obtain ⟨U6, hU6⟩ : ∃ U, U = w5.setCell ⟨g5, j, none⟩ (.int .u8 bv) := ⟨_, rfl⟩
            have HU6 := Lib.hid hU6
            rw [← hU6] at HD7
            have b6 : Below w2.heap.size w2 U6 := (by rw [hU6]; exact hb5g.setCell (p := ⟨g5, j, none⟩) h51 _)
            have Q6 := Lib.hid (Q2.out.up b6)
            have x0b : ((w5.setCell ⟨g5, j, none⟩ (.int .u8 bv)).alloc (.cells #[] 35)).cell? ⟨w.heap.size, 0, none⟩ = some (.slice (some ⟨b5, o5, none⟩) sn sc) := (by rw [← hU6]; exact (Q6.out.up ((below_self U6).alloc (Nat.le_refl _) _)).c0)
            have zU : U6.heap.size = w5.heap.size := (by rw [hU6]; simp)
            have hown := World.ownsRow_lit (size := 1) (e := 35) U6 #[] 0 (Nat.le_refl _) (by simp [maxLen]) rfl
            rw [zU] at hown
            have HO6 := Lib.hid hown
            have ZU := Lib.hid zU
            have l52 : w2.heap.size ≤ w5.heap.size := hb5g.size
            clear hu9 hbv hU6 hown ho5 hg5 x0 x1 x0a x5a zU
            )
          | (
            at_builtin
            rw [← HU6.out]
            refine wp_app rfl _ _ 22 35 rfl delemSS _ _ 0 _ rfl HO6.out _ sn sc vs rfl (((HS.out.below (below_then B2 b6)).1).alloc _) (by simpa using HS.out.2.1) H1c.out (by unfold maxLen; omega) (by omega) (by simp; have := ZU.out; omega) ?_
            intro A7 c7 w7 ho7 hg7
            have hb7 : Below U6.heap.size U6 w7 := ((Below.refl _ _).alloc (Nat.le_refl _) _).grown hg7 (by simp) (fun q hq => by have := (HO6.out.lt q hq).1; have := ZU.out; omega)
            have HO7 := Lib.hid (show w7.ownsRow w5.heap.size 35 1 (.slice A7 sn c7) sn vs by simpa using ho7)
            obtain ⟨g7, cap7, hv7, hbg7, hlg7⟩ := World.ownsRow.form HO7.out (by omega)
            injection hv7 with hv7 hv8 hv9
            subst hv7 hv9
            have Q7 := Lib.hid (Q6.out.up hb7)
            have R7 := Lib.hid ((R2.out.up b6).up hb7)
            have D7 := Lib.hid (HD7.out.below hb7)
            have z0 := Q7.out.c0
            have z1 := Q7.out.c1
            have z2 := Q7.out.fr 0
            have n7 : ¬ (g7 = w.heap.size) := (by omega)
            have n8 : ¬ (w.heap.size = g7) := (by omega)
            obtain ⟨W8, hW8⟩ : ∃ W, W = w7.setCell ⟨w.heap.size, 0, none⟩ (.slice (some ⟨g7, 0, none⟩) sn c7) := ⟨_, rfl⟩
            have Q8 : Hid (DkAt W8 w.heap.size (some ⟨g7, 0, none⟩) sn c7 K kn kc) := (by rw [hW8]; exact Lib.hid (Q7.out.s0 _ _ _))
            have R8 : Hid (DkAt W8 (w.heap.size + 1) none 0 0 none 0 0) := (by rw [hW8]; exact Lib.hid ((heap_setCell_other _ _ _ _ (by show w.heap.size + 1 ≠ w.heap.size; omega)).trans R7.out))
            have O8 : Hid (W8.ownsRow w5.heap.size 35 1 (.slice (some ⟨g7, 0, none⟩) sn c7) sn vs) := (by rw [hW8]; exact Lib.hid (own_far HO7.out Q7.out (by decide) 0 _))
            have D8 : Hid (OwnB W8 w2.heap.size (some ⟨g5, 0, none⟩) 256 c5 (Y.set j (u9 ^^^ u))) := (by rw [hW8]; exact Lib.hid (own_far D7.out Q7.out (by decide) 0 _))
            have k0 := Q8.out.c0
            have k1 := World.ownsRow.cellAt O8.out i (by omega)
            have k2 := World.ownsRow.frozenAt O8.out i
            rw [List.getElem?_eq_getElem (by rw [HS.out.2.1]; exact hi)] at k1
            obtain ⟨v1, hv1⟩ : ∃ v, vs[i]'(by rw [HS.out.2.1]; exact hi) = v := ⟨_, rfl⟩
            rw [hv1] at k1
            obtain ⟨cur8, hc8⟩ := own_rowOf O8.out
            obtain ⟨W9, hW9⟩ : ∃ W, W = W8.setCell ⟨g7, i, none⟩ (.slice (some ⟨g5, 0, none⟩) 256 c5) := ⟨_, rfl⟩
            have Q9 : Hid (DkAt W9 w.heap.size (some ⟨g7, 0, none⟩) sn c7 K kn kc) := (by rw [hW9]; exact Lib.hid ((heap_setCell_other _ _ _ _ (by show w.heap.size ≠ g7; omega)).trans Q8.out))
            have R9 : Hid (DkAt W9 (w.heap.size + 1) none 0 0 none 0 0) := (by rw [hW9]; exact Lib.hid ((heap_setCell_other _ _ _ _ (by show w.heap.size + 1 ≠ g7; omega)).trans R8.out))
            have O9 : Hid (W9.ownsRow w5.heap.size 35 1 (.slice (some ⟨g7, 0, none⟩) sn c7) sn (vs.set i (.slice (some ⟨g5, 0, none⟩) 256 c5))) := (by rw [hW9]; exact Lib.hid (World.ownsRow.stored O8.out i _).1)
            have D9 : Hid (OwnB W9 w2.heap.size (some ⟨g5, 0, none⟩) 256 c5 (Y.set j (u9 ^^^ u))) := (by rw [hW9]; exact Lib.hid (own_far D8.out hc8 (by decide) i _))
            have B9 : Below w.heap.size w W9 := (by rw [hW9, hW8]; exact ((below_then (below_then B2 b6) hb7).setCell (p := ⟨w.heap.size, 0, none⟩) (Nat.le_refl _) _).setCell (p := ⟨g7, i, none⟩) (by show w.heap.size ≤ g7; omega) _)
            have t1 : (w7.setCell ⟨w.heap.size, 0, none⟩ (.slice (some ⟨g7, 0, none⟩) sn c7)).cell? ⟨w.heap.size, 0, none⟩ = some (.slice (some ⟨g7, 0, none⟩) sn c7) := (by rw [← hW8]; exact k0)
            have t2 : (w7.setCell ⟨w.heap.size, 0, none⟩ (.slice (some ⟨g7, 0, none⟩) sn c7)).cell? ⟨g7, i, none⟩ = some v1 := (by rw [← hW8]; exact k1)
            have t3 : (w7.setCell ⟨w.heap.size, 0, none⟩ (.slice (some ⟨g7, 0, none⟩) sn c7)).frozen? ⟨g7, i, none⟩ = false := (by rw [← hW8]; exact k2)
            have t4 : ((w7.setCell ⟨w.heap.size, 0, none⟩ (.slice (some ⟨g7, 0, none⟩) sn c7)).setCell ⟨g7, i, none⟩ (.slice (some ⟨g5, 0, none⟩) 256 c5)).cell? ⟨w.heap.size, 0, none⟩ = some (.slice (some ⟨g7, 0, none⟩) sn c7) := (by rw [← hW8, ← hW9]; exact Q9.out.c0)
            have t5 : ((w7.setCell ⟨w.heap.size, 0, none⟩ (.slice (some ⟨g7, 0, none⟩) sn c7)).setCell ⟨g7, i, none⟩ (.slice (some ⟨g5, 0, none⟩) 256 c5)).cell? ⟨w.heap.size, 1, none⟩ = some (.slice K kn kc) := (by rw [← hW8, ← hW9]; exact Q9.out.c1)
            have t6 : ((w7.setCell ⟨w.heap.size, 0, none⟩ (.slice (some ⟨g7, 0, none⟩) sn c7)).setCell ⟨g7, i, none⟩ (.slice (some ⟨g5, 0, none⟩) 256 c5)).cell? ⟨w.heap.size + 1, 0, none⟩ = some (.slice none 0 0) := (by rw [← hW8, ← hW9]; exact R9.out.c0)
            have t7 : ((w7.setCell ⟨w.heap.size, 0, none⟩ (.slice (some ⟨g7, 0, none⟩) sn c7)).setCell ⟨g7, i, none⟩ (.slice (some ⟨g5, 0, none⟩) 256 c5)).cell? ⟨w.heap.size + 1, 1, none⟩ = some (.slice none 0 0) := (by rw [← hW8, ← hW9]; exact R9.out.c1)
            have t8 : ((w7.setCell ⟨w.heap.size, 0, none⟩ (.slice (some ⟨g7, 0, none⟩) sn c7)).setCell ⟨g7, i, none⟩ (.slice (some ⟨g5, 0, none⟩) 256 c5)).frozen? ⟨w.heap.size + 1, 0, none⟩ = false := (by rw [← hW8, ← hW9]; exact R9.out.fr 0)
            have t9 : ((w7.setCell ⟨w.heap.size, 0, none⟩ (.slice (some ⟨g7, 0, none⟩) sn c7)).setCell ⟨g7, i, none⟩ (.slice (some ⟨g5, 0, none⟩) 256 c5)).frozen? ⟨w.heap.size + 1, 1, none⟩ = false := (by rw [← hW8, ← hW9]; exact R9.out.fr 1)
            have HW9 := Lib.hid (show W9 = (w7.setCell ⟨w.heap.size, 0, none⟩ (.slice (some ⟨g7, 0, none⟩) sn c7)).setCell ⟨g7, i, none⟩ (.slice (some ⟨g5, 0, none⟩) 256 c5) by rw [hW9, hW8])
            clear ho7 hg7 hbg7 hlg7 k0 k1 k2 hv1 hc8 hW8 hW9 x0b hc9 hf9 ex
            ))
        have QS := Lib.hid (R9.out.s01 (some ⟨g7, 0, none⟩) sn c7 K kn kc)
        have BF := below2 B9 (q := w.heap.size + 1) (by omega) (.slice (some ⟨g7, 0, none⟩) sn c7) (.slice K kn kc)
        have oF := own_far (own_far O9.out R9.out (by decide) 0 (.slice (some ⟨g7, 0, none⟩) sn c7)) (R9.out.s0 (some ⟨g7, 0, none⟩) sn c7) (by decide) 1 (.slice K kn kc)
        have dF : OwnB _ _ (some ⟨g5, 0, none⟩) 256 c5 (Y.set j (u9 ^^^ u)) := own_far (own_far D9.out R9.out (by decide) 0 (.slice (some ⟨g7, 0, none⟩) sn c7)) (R9.out.s0 (some ⟨g7, 0, none⟩) sn c7) (by decide) 1 (.slice K kn kc)
        rw [← HW9.out]
        refine bodyPost_ret (dresults_cell_tmp Try.results23 _ _ (w.heap.size + 1) 25 _ (0, 0) _ rfl QS.out Try.underlying25 rfl (dkInfo ..)) rfl ?_
        obtain ⟨A9, c9, hv9, e3, e4, _⟩ := own_form oF
        injection hv9 with _ _ hv9
        subst hv9
        refine ⟨some ⟨g7, 0, none⟩, sn, c7, K, kn, kc, rfl, ⟨⟨_, Rd.of_own oF, by rw [List.length_set]; exact HS.out.2.1, e3, e4, parts_get (by rw [List.length_set, List.length_set]; exact HS.out.2.2.2.2.length) (fun k hk => ?_)⟩, us, HUS.out.below BF⟩, BF⟩
        rw [List.length_set] at hk
        by_cases hki : k = i
        · subst hki
          refine ⟨_, _, _, List.getElem?_set_self hk, ?_⟩
          have e : (D.s.set k (dkTampered Y j u)).getD k [] = Y.set j (u9 ^^^ u) := by
            rw [List.getD, List.getElem?_set_self (by rw [← HS.out.2.2.2.2.length]; exact hk)]
            unfold dkTampered
            rw [List.getD, HU9.out]; rfl
          rw [e]; exact dF.rd
        · obtain ⟨A8, m8, c8, e8, r8⟩ := HS.out.2.2.2.2.at_ k hk (by rw [← HS.out.2.2.2.2.length]; exact hk)
          refine ⟨A8, m8, c8, by rw [List.getElem?_set_ne (by omega), List.getElem?_eq_getElem hk, e8], ?_⟩
          rw [List.getD, List.getElem?_set_ne (by omega), List.getElem?_eq_getElem (by rw [← HS.out.2.2.2.2.length]; exact hk)]
          exact r8.below BF
end Go.Proofs.Yteajboafcjeagaa
