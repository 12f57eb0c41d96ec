/-
 Proved here, for the statement JournalLoads:
 Layer 14: the document's disk.Write and Flush: what is handed back stays, whatev
 Layer 14: a journal over a disk in memory (the laws' play): its cells, its own r
-/
import Derived.Laws.CopyRow
import Derived.Laws.IdiomCopy
import Derived.Test.YtpahicfnhhhifaaGreatGl23
set_option linter.unusedVariables false
set_option linter.unusedSimpArgs false
namespace Go.Proofs.YtpahicfnhhhifaaGreat
set_option maxRecDepth 20000
open Go.RowKit
set_option maxHeartbeats 8000000
def RetDkS (w : World) (S : Option Addr) (sn sc : Nat) (K : Option Addr) (kn kc : Nat) (D D' : Dk) (er : Int) (e : Ending) (w' : World) : Prop :=
 ∃ K2 kn2 kc2, e = .returned (.tuple #[.agg #[.slice S sn sc, .slice K2 kn2 kc2], .int .i64 er]) ∧ D'.s = D.s ∧ Below w.heap.size w w' ∧ ∀ us, RdWs w K kn kc us D.k → ∃ us2, ∀ W, (∀ j, w.heap.size ≤ j → j < w'.heap.size → W.heap[j]? = w'.heap[j]?) → RdWs W K kn kc us D.k → RdWs W K2 kn2 kc2 us2 D'.k
theorem ref_WriteS_any (S : Option Addr) (sn sc : Nat) (K : Option Addr) (kn kc : Nat) (D : Dk) (a : Int) (B : Option Addr) (m d : Nat) (ys : List UInt8) (w : World) (hr : RdDk w S sn sc K kn kc D) (ha : -9223372036854775808 ≤ a ∧ a ≤ 9223372036854775807) (hd : RdB w B m d ys) :
  Calls Tryz.prog 46 #[.agg #[.slice S sn sc, .slice K kn kc], .int .i64 a, .slice B m d] w (RetDkS w S sn sc K kn kc D (dkWrite D a ys) (dkWriteE D a ys)) := by
 obtain ⟨hn1, hn2, _, _, _, _⟩ := hr.n63
 have hsl := hr.sl
 have hkl := hr.kl
 have hm63 := hd.n63
 have hml := hd.2.1
 obtain ⟨V, hV⟩ : ∃ V, V = (w.alloc (.cells #[.slice S sn sc, .slice K kn kc] 40)).alloc (.cells #[.slice none 0 0, .slice none 0 0] 40) := ⟨_, rfl⟩
 have bV : Below w.heap.size w V := by rw [hV]; exact ((below_self w).alloc (Nat.le_refl _) _).alloc (by simp) _
 have qV : Hid (DkAt V w.heap.size S sn sc K kn kc) := by rw [hV]; exact Lib.hid (drw_old _ (drw_at _ rfl))
 have rV : Hid (DkAt V (w.heap.size + 1) none 0 0 none 0 0) := by rw [hV]; exact Lib.hid (drw_at _ (by simp))
 have HV := Lib.hid hV
 have C1 := Lib.hid (refDskCheck_any S sn sc K kn kc D V (hr.below bV))
 have C2 := Lib.hid (fun W => refDskHas_any S sn sc K kn kc a W hn1 ha)
 have hno : ¬ dkWriteE D a ys = 0 → dkWrite D a ys = D := fun h => by unfold dkWrite; rw [if_neg h]
 clear hV
 rcases dkAsk_cases hsl a with ⟨h1, h2⟩ | ⟨h1, h2, h3⟩ | ⟨h1, h0, h2, h3, h4⟩
 ·have e : dkWriteE D a ys = 3 := by unfold dkWriteE; rw [if_pos (by rw [h2]; decide), h2]
  rw [hno (by rw [e]; decide), e]
  rw [h1] at C1
  clear h1 h2 hno e
  go_enter Tryz.func46, Tryz.ntmps46
  go_wp2_with fail
  rw [← HV.out]
  refine C1.out.mono ?_
  rintro e w1 ⟨rfl, hb1⟩
  have B1 := below_then bV hb1
  have q := Lib.hid (qV.out.up hb1)
  have r := Lib.hid (rV.out.up hb1)
  have x0 := q.out.c0
  have x1 := q.out.c1
  have y0 := r.out.c0
  have y1 := r.out.c1
  have f0 := r.out.fr 0
  have f1 := r.out.fr 1
  have QS := Lib.hid (r.out.s01 S sn sc K kn kc)
  go_wp2_with fail
  refine bodyPost_ret (dresults_cell_tmp Tryz.results46 _ _ (w.heap.size + 1) 40 _ (0, 0) _ rfl QS.out Tryz.underlying40 rfl (dkInfo ..)) rfl ?_
  exact ⟨K, kn, kc, rfl, rfl, below2 B1 (by omega) _ _, fun us hus => ⟨us, fun W hag hin2 => hin2⟩⟩
 ·have e : dkWriteE D a ys = 50 := by unfold dkWriteE; rw [if_pos (by rw [h3]; decide), h3]
  rw [hno (by rw [e]; decide), e]
  rw [h1] at C1
  rw [h2] at C2
  clear h1 h2 h3 hno e
  go_enter Tryz.func46, Tryz.ntmps46
  go_wp2_with fail
  rw [← HV.out]
  refine C1.out.mono ?_
  rintro e w1 ⟨rfl, hb1⟩
  have B1 := below_then bV hb1
  have q := Lib.hid (qV.out.up hb1)
  have r := Lib.hid (rV.out.up hb1)
  have x0 := q.out.c0
  have x1 := q.out.c1
  go_wp2_with fail
  refine (C2.out w1).mono ?_
  rintro e w2 ⟨rfl, hb2⟩
  have B2 := below_then B1 hb2
  have q := Lib.hid (q.out.up hb2)
  have r := Lib.hid (r.out.up hb2)
  have x0 := q.out.c0
  have x1 := q.out.c1
  have y0 := r.out.c0
  have y1 := r.out.c1
  have f0 := r.out.fr 0
  have f1 := r.out.fr 1
  have QS := Lib.hid (r.out.s01 S sn sc K kn kc)
  go_wp2_with fail
  refine bodyPost_ret (dresults_cell_tmp Tryz.results46 _ _ (w.heap.size + 1) 40 _ (0, 0) _ rfl QS.out Tryz.underlying40 rfl (dkInfo ..)) rfl ?_
  exact ⟨K, kn, kc, rfl, rfl, below2 B2 (by omega) _ _, fun us hus => ⟨us, fun W hag hin2 => hin2⟩⟩
 ·have hok := h1
  rw [h1] at C1
  rw [h3] at C2
  have hk5 : kn ≤ 512 := by rw [← hkl]; exact ((dkOk_iff D).1 hok).2.1
  have hs5 : sn ≤ 256 := by rw [← hsl]; exact ((dkOk_iff D).1 hok).1
  clear h1 h3 hok
  by_cases hm : m = 256
  ·have d1 : ((m : Int) != 256) = false := by simp [hm]
   by_cases hk : kn = 512
   ·have e : dkWriteE D a ys = 4 := by unfold dkWriteE; rw [if_neg (by simp [h4]), if_neg (by simp [hml, hm]), if_pos (by omega)]
    rw [hno (by rw [e]; decide), e]
    have d2 : decide (512 ≤ (kn : Int)) = true := decide_eq_true (by omega)
    clear hno e hk hm h4
    go_enter Tryz.func46, Tryz.ntmps46
    go_wp2_with fail
    rw [← HV.out]
    refine C1.out.mono ?_
    rintro e w1 ⟨rfl, hb1⟩
    have B1 := below_then bV hb1
    have q := Lib.hid (qV.out.up hb1)
    have r := Lib.hid (rV.out.up hb1)
    have x0 := q.out.c0
    have x1 := q.out.c1
    go_wp2_with fail
    refine (C2.out w1).mono ?_
    rintro e w2 ⟨rfl, hb2⟩
    have B2 := below_then B1 hb2
    have q := Lib.hid (q.out.up hb2)
    have r := Lib.hid (r.out.up hb2)
    have x0 := q.out.c0
    have x1 := q.out.c1
    have y0 := r.out.c0
    have y1 := r.out.c1
    have f0 := r.out.fr 0
    have f1 := r.out.fr 1
    have QS := Lib.hid (r.out.s01 S sn sc K kn kc)
    go_wp2_with fail
    refine bodyPost_ret (dresults_cell_tmp Tryz.results46 _ _ (w.heap.size + 1) 40 _ (0, 0) _ rfl QS.out Tryz.underlying40 rfl (dkInfo ..)) rfl ?_
    exact ⟨K, kn, kc, rfl, rfl, below2 B2 (by omega) _ _, fun us hus => ⟨us, fun W hag hin2 => hin2⟩⟩
   ·have e : dkWriteE D a ys = 0 := by unfold dkWriteE; rw [if_neg (by simp [h4]), if_neg (by simp [hml, hm]), if_neg (by omega)]
    rw [e, show dkWrite D a ys = ⟨D.s, D.k ++ [(a, ys)]⟩ by unfold dkWrite; rw [if_pos e]]
    have d2 : decide (512 ≤ (kn : Int)) = false := decide_eq_false (by omega)
    obtain ⟨⟨vs, hs⟩, us, hus⟩ := id hr
    have HUS := Lib.hid hus
    have HS := Lib.hid hs
    have HM := Lib.hid hm
    clear hno e h4 hus hs hm
    go_enter Tryz.func46, Tryz.ntmps46
    go_wp2_with fail
    rw [← HV.out]
    refine C1.out.mono ?_
    rintro e w1 ⟨rfl, hb1⟩
    have B1 := below_then bV hb1
    have q := Lib.hid (qV.out.up hb1)
    have r := Lib.hid (rV.out.up hb1)
    have x0 := q.out.c0
    have x1 := q.out.c1
    go_wp2_with fail
    refine (C2.out w1).mono ?_
    rintro e w2 ⟨rfl, hb2⟩
    have B2 := below_then B1 hb2
    have q := Lib.hid (q.out.up hb2)
    have r := Lib.hid (r.out.up hb2)
    have x0 := q.out.c0
    have x1 := q.out.c1
    have hown := World.ownsRow_lit (size := 2) (e := 119) w2 #[] 0 (Nat.le_refl _) (by simp [maxLen]) rfl
    have HO := Lib.hid hown
    clear hown
    have x1a : (w2.alloc (.cells #[] 119)).cell? ⟨w.heap.size, 1, none⟩ = some (.slice K kn kc) := (q.out.up ((below_self w2).alloc (Nat.le_refl _) _)).c1
    have q2 := q
    have r2 := r
    go_wp2_with (first | (at_builtin; refine wp_appW rfl _ _ rfl w2.heap.size _ 0 _ rfl HO.out K kn kc us rfl ((HUS.out.below B2).1.alloc _) (HUS.out.2.1) (wcells_one HUS.out.2.2.2.2) (by omega) (by simp) kn us (by omega) rfl ?_; intro A3 c3 w3 ho3 hg3; have hb3 : Below w2.heap.size w2 w3 := ((Below.refl _ _).alloc (Nat.le_refl _) _).grown hg3 (by simp) (fun q hq => by have := (HO.out.lt q hq).1; omega); have B3 := below_then B2 hb3; have q := Lib.hid (q.out.up hb3); have r := Lib.hid (r.out.up hb3); have HO3 := Lib.hid ho3; have HO2 := Lib.hid (OwnB.lit w3 #[] [] 0 rfl rfl (by simp [maxLen])); clear ho3 hg3 x0 x1 x1a) | (at_builtin; refine wp_appB rfl _ _ rfl ((below_self w3).alloc (Nat.le_refl _) _) (Nat.le_refl _) (by simp) (some ⟨w3.heap.size, 0, none⟩) 0 0 [] rfl HO2.out B m d ys rfl ((hd.below B3).alloc _) (by have := HM.out; omega) m ys (by omega) rfl ?_; intro A5 c5 w5 ho5 hb5 hg5; have B5 := below_then B3 hb5; obtain ⟨X, hX⟩ : ∃ X, X = w5.alloc (.cells #[.int .i64 a, .slice A5 m c5] 119) := ⟨_, rfl⟩; have bX : Below w5.heap.size w5 X := (by rw [hX]; exact (below_self w5).alloc (Nat.le_refl _) _); have rX : Rd X (some ⟨w5.heap.size, 0, none⟩) [.int .i64 a, .slice A5 m c5] := (by rw [hX]; exact Rd.new w5 #[.int .i64 a, .slice A5 m c5] _); have q := Lib.hid ((q.out.up hb5).up bX); have r := Lib.hid ((r.out.up hb5).up bX); have O3 := Lib.hid (down_keep (down_keep HO3.out hb5) bX); have O5 := Lib.hid (ho5.below bX); have BX := below_then B5 bX; have HX := Lib.hid hX; have RX := Lib.hid rX; have hl2 : w2.heap.size ≤ X.heap.size := (by have := hb3.size; have := hb5.size; have := bX.size; omega); clear hX rX ho5 hg5 HO2 HO3) | (at_builtin; rw [← HX.out]; refine wp_appW rfl _ _ rfl w2.heap.size _ kn us rfl O3.out (some ⟨w5.heap.size, 0, none⟩) 1 1 _ rfl RX.out rfl (by intro u hu; simp at hu; rcases hu with rfl | rfl <;> rfl) (by omega) hl2 (kn + 1) _ rfl rfl ?_; intro A7 c7 w7 ho7 hg7; have hb7 : Below w2.heap.size w2 w7 := (below_then (below_then hb3 hb5) bX).grown hg7 hl2 (fun q hq => (O3.out.lt q hq).1); have Q7 := Lib.hid (q2.out.up hb7); have R7 := Lib.hid (r2.out.up hb7); have D7 := Lib.hid (own_grown O3.out O5.out (by decide) hg7); have HO7 := Lib.hid ho7; have z0 := Q7.out.c0; have z1 := Q7.out.c1; have g0 := Q7.out.fr 0; have g1 := Q7.out.fr 1; have y0 := R7.out.c0; have y1 := R7.out.c1; have f0 := R7.out.fr 0; have f1 := R7.out.fr 1; clear ho7 hg7))
    have r8 : DkAt (w7.setCell ⟨w.heap.size, 1, none⟩ (.slice A7 (kn + 1) c7)) (w.heap.size + 1) none 0 0 none 0 0 := (heap_setCell_other _ _ _ _ (by show w.heap.size + 1 ≠ w.heap.size; omega)).trans R7.out
    have QS := Lib.hid (r8.s01 S sn sc A7 (kn + 1) c7)
    have BF := below2 ((below_then B2 hb7).setCell (p := ⟨w.heap.size, 1, none⟩) (Nat.le_refl w.heap.size) (.slice A7 (kn + 1) c7)) (q := w.heap.size + 1) (by omega) (.slice S sn sc) (.slice A7 (kn + 1) c7)
    have oF := own_far (own_far (own_far HO7.out Q7.out (by decide) 1 (.slice A7 (kn + 1) c7)) r8 (by decide) 0 (.slice S sn sc)) (r8.s0 S sn sc) (by decide) 1 (.slice A7 (kn + 1) c7)
    have dF : OwnB _ _ A5 m c5 ys := own_far (own_far (own_far D7.out Q7.out (by decide) 1 (.slice A7 (kn + 1) c7)) r8 (by decide) 0 (.slice S sn sc)) (r8.s0 S sn sc) (by decide) 1 (.slice A7 (kn + 1) c7)
    obtain ⟨e1, e2, e3, e4⟩ := own2_rd oF
    refine bodyPost_ret (dresults_cell_tmp Tryz.results46 _ _ (w.heap.size + 1) 40 _ (0, 0) _ rfl QS.out Tryz.underlying40 rfl (dkInfo ..)) rfl ?_
    refine ⟨A7, kn + 1, c7, rfl, rfl, BF, fun us' hus' => ⟨us ++ [.int .i64 a, .slice A5 m c5], fun W hag hin2 => ?_⟩⟩
    have hz2 := B2.size
    have hz3 := B3.size
    have oQ := own_agr oF (fun j hj hj2 => hag j (by omega) hj2)
    have dQ : OwnB _ _ A5 m c5 ys := own_agr dF (fun j hj hj2 => hag j (by omega) hj2)
    obtain ⟨f1, f2, f3, f4⟩ := own2_rd oQ
    have eu := ws_one hus' HUS.out
    subst eu
    exact ⟨f1, f2, f3, f4, WParts.snoc ha dQ.rd hin2.2.2.2.2⟩
  ·have e : dkWriteE D a ys = 2 := by unfold dkWriteE; rw [if_neg (by simp [h4]), if_pos (by omega)]
   rw [hno (by rw [e]; decide), e]
   have d1 : ((m : Int) != 256) = true := by rw [bne_iff_ne]; omega
   clear hno e hm h4
   go_enter Tryz.func46, Tryz.ntmps46
   go_wp2_with fail
   rw [← HV.out]
   refine C1.out.mono ?_
   rintro e w1 ⟨rfl, hb1⟩
   have B1 := below_then bV hb1
   have q := Lib.hid (qV.out.up hb1)
   have r := Lib.hid (rV.out.up hb1)
   have x0 := q.out.c0
   have x1 := q.out.c1
   go_wp2_with fail
   refine (C2.out w1).mono ?_
   rintro e w2 ⟨rfl, hb2⟩
   have B2 := below_then B1 hb2
   have q := Lib.hid (q.out.up hb2)
   have r := Lib.hid (r.out.up hb2)
   have x0 := q.out.c0
   have x1 := q.out.c1
   have y0 := r.out.c0
   have y1 := r.out.c1
   have f0 := r.out.fr 0
   have f1 := r.out.fr 1
   have QS := Lib.hid (r.out.s01 S sn sc K kn kc)
   go_wp2_with fail
   refine bodyPost_ret (dresults_cell_tmp Tryz.results46 _ _ (w.heap.size + 1) 40 _ (0, 0) _ rfl QS.out Tryz.underlying40 rfl (dkInfo ..)) rfl ?_
   exact ⟨K, kn, kc, rfl, rfl, below2 B2 (by omega) _ _, fun us hus => ⟨us, fun W hag hin2 => hin2⟩⟩
def DkS (P : Nat → Prop) (w : World) (AV : Array Value) (D : Dk) : Prop := ∃ S sn sc K kn kc vs us, AV = #[.slice S sn sc, .slice K kn kc] ∧ ∀ W, Agr P w W → RdSS W S sn sc vs D.s ∧ RdWs W K kn kc us D.k
theorem DkS.val {P : Nat → Prop} {w : World} {AV : Array Value} {D : Dk} (h : DkS P w AV D) : DkVal AV w D := by
 obtain ⟨S, sn, sc, K, kn, kc, vs, us, e, f⟩ := h
 obtain ⟨f1, f2⟩ := f w ⟨rfl, rfl, rfl, Nat.le_refl _, fun _ _ _ => rfl⟩
 exact ⟨S, sn, sc, K, kn, kc, e, ⟨vs, f1⟩, us, f2⟩
theorem DkVal.ins {P : Nat → Prop} {w w' : World} {AV : Array Value} {D : Dk} (v : DkVal AV w D) (hb : Below w.heap.size w w') (hs : ∀ j, P j → w.heap.size ≤ j) : DkS P w' AV D := by
 obtain ⟨S, sn, sc, K, kn, kc, e, ⟨vs, r1⟩, us, r2⟩ := v
 refine ⟨S, sn, sc, K, kn, kc, vs, us, e, fun W hW => ?_⟩
 have hB : Below w.heap.size w W := ⟨hW.1.trans hb.os, hW.2.1.trans hb.tape, hW.2.2.1.trans hb.output, Nat.le_trans hb.size hW.2.2.2.1, fun j hj => (hW.2.2.2.2 j (Nat.lt_of_lt_of_le hj hb.size) (fun hp => by have := hs j hp; omega)).trans (hb.block j hj)⟩
 exact ⟨r1.below hB, r2.below hB⟩
theorem vRWriteS {P : Nat → Prop} {w : World} {AV : Array Value} {D : Dk} (v : DkS P w AV D) (hP : ∀ j, P j → j < w.heap.size) (a : Int) (B : Option Addr) (m d : Nat) (ys : List UInt8) (ha : -9223372036854775808 ≤ a ∧ a ≤ 9223372036854775807) (hd : RdB w B m d ys) : Calls Tryz.prog 46 #[.agg AV, .int .i64 a, .slice B m d] w (fun e w' => ∃ AV', e = .returned (.tuple #[.agg AV', .int .i64 (dkWriteE D a ys)]) ∧ DkS P w' AV' (dkWrite D a ys) ∧ Below w.heap.size w w') := by
 obtain ⟨_, _, _, _, _, _, _, r0⟩ := v.val
 obtain ⟨S, sn, sc, K, kn, kc, vs, us, rfl, f⟩ := v
 obtain ⟨f1, f2⟩ := f w ⟨rfl, rfl, rfl, Nat.le_refl _, fun _ _ _ => rfl⟩
 refine (ref_WriteS_any S sn sc K kn kc D a B m d ys w ⟨⟨vs, f1⟩, us, f2⟩ ha hd).mono ?_
 rintro e w' ⟨K2, kn2, kc2, h1, hs, h3, h4⟩
 obtain ⟨us2, h5⟩ := h4 us f2
 refine ⟨_, h1, ⟨S, sn, sc, K2, kn2, kc2, vs, us2, rfl, fun W hW => ?_⟩, h3⟩
 have hW2 := hW.of h3
 rw [hs]
 exact ⟨(f W hW2).1, h5 W (fun j hj hj2 => hW.2.2.2.2 j hj2 (fun hp => by have := hP j hp; omega)) (f W hW2).2⟩
set_option maxHeartbeats 4000000
section
variable {P P' : Nat → Prop} {w w' W : World}
theorem AgrP.comp (h : AgrP P w w') (h' : AgrP P' w' W) (hs : ∀ j, P' j → P j ∨ w.heap.size ≤ j) : AgrP P w W :=
 ⟨Nat.le_trans h.1 h'.1, fun j hj hn => (h'.2 j (Nat.lt_of_lt_of_le hj h.1) (fun hp => by rcases hs j hp with q | q; exact hn q; omega)).trans (h.2 j hj hn)⟩
theorem Agr.p (h : Agr P w w') : AgrP P w w' := ⟨h.2.2.2.1, h.2.2.2.2⟩
theorem Agr.comp (h : Agr P w w') (h' : Agr P' w' W) (hs : ∀ j, P' j → P j ∨ w.heap.size ≤ j) : Agr P w W :=
 ⟨h'.1.trans h.1, h'.2.1.trans h.2.1, h'.2.2.1.trans h.2.2.1, (h.p.comp h'.p hs).1, (h.p.comp h'.p hs).2⟩
theorem DkS.to {AV : Array Value} {D : Dk} (h : DkS P w AV D) (ha : Agr P w w') (hs : ∀ j, P' j → P j ∨ w.heap.size ≤ j) : DkS P' w' AV D := by
 obtain ⟨S, sn, sc, K, kn, kc, vs, us, e, f⟩ := h
 exact ⟨S, sn, sc, K, kn, kc, vs, us, e, fun W hW => f W (ha.comp hW hs)⟩
end
section
variable {α : Type} {K : Nat} {E E' : List Value → α → Prop}
def Rows (K : Nat) (E : List Value → α → Prop) : List Value → List α → Prop
 | us, [] => us = []
 | us, x :: l => ∃ c r, us = c ++ r ∧ c.length = K ∧ (∀ v ∈ c, v.oneCell' = true) ∧ E c x ∧ Rows K E r l
end
end Go.Proofs.YtpahicfnhhhifaaGreat
namespace Go.Proofs.YtpahicfnhhhifaaGreat
set_option maxRecDepth 20000
set_option maxHeartbeats 1000000
def hjS : List UInt8 := [115, 116, 97, 116, 101]
def hjT : List UInt8 := [116, 119, 111]
def hjB : List UInt8 := jnBase hjS
def hjR : Rc := rcMk hjB ⟨1, 0, 9, 3, 1, 5, [], List.replicate 32 0⟩
def hjb : List UInt8 := rcPutL hjR
def hj0 : Jn := ⟨1, 0, 0, 0, 0, hjB, [], 0, [], 0, suZ, 2, 0⟩
def hj1 : Jn := ⟨1, 0, 1, 0, 0, hjR.D, [(98, hjb)], 0, [], 0, suZ, 2, 0⟩
def hj2 : Jn := ⟨1, 0, 1, 0, 1, hjR.D, [], 1, [], 1, suZ, 2, 0⟩
def hj3 : Jn := ⟨1, 0, 1, 0, 1, hjR.D, [], 1, [], 0, suZ, 2, 0⟩
def hj4 : Jn := ⟨1, 0, 1, 0, 1, hjR.D, [], 2, [], 1, suZ, 2, 0⟩
def hj5 : Jn := ⟨1, 0, 1, 1, 1, hjR.D, [], 0, [], 0, suZ, 2, 0⟩
def hjW : Jn := jnSaved hj5 hjT
def hjD : Dk := jnFmt hjS 100
def hjD2 : Dk := dkWrite hjD 98 hjb
theorem hjS_len : hjS.length = 5 := rfl
theorem hjB_len : hjB.length = 32 := shOf_len _
theorem hjR_ok : hjR.ok := rcMk_ok _ _ ⟨by decide, by decide, by decide, by decide, ⟨by decide, by decide⟩, by decide, rfl⟩
theorem hjR_chk : hjR.chk = true := by rfl
theorem hjb_len : hjb.length = 256 := by unfold hjb rcPutL; rw [if_pos hjR_chk]; exact rcL_len _ (by show (0 : Nat) ≤ 186; omega) (shLink_len _ _)
theorem hj_begin : jnBeginE 0 2 = 0 ∧ jnBegin 1 0 hjB 2 = hj0 := ⟨by decide, by unfold jnBegin; rw [if_pos (by decide)]; rfl⟩
theorem hj0_chk : jnChk hj0 = true := by unfold jnChk jnCnt jbOk hj0; decide
theorem hj1_chk : jnChk hj1 = true := by unfold jnChk jnCnt jbOk hj1 jb1; simp [hjb_len]; decide
theorem hj2_chk : jnChk hj2 = true := by unfold jnChk jnCnt jbOk hj2; decide
theorem hj3_chk : jnChk hj3 = true := by unfold jnChk jnCnt jbOk hj3; decide
theorem hj4_chk : jnChk hj4 = true := by unfold jnChk jnCnt jbOk hj4; decide
theorem hj5_chk : jnChk hj5 = true := by unfold jnChk jnCnt jbOk hj5; decide
theorem hj_app : jnAppE hj0 1 5 0 = 0 ∧ jnApp hj0 9 3 1 5 [] = hj1 := by
 have e : jnAppE hj0 1 5 0 = 0 := by
  unfold jnAppE jnGoing
  rw [hj0_chk]
  simp [hj0, rcChk]
 refine ⟨e, ?_⟩
 unfold jnApp
 rw [show ([] : List UInt8).length = 0 from rfl, if_pos e]
 rfl
theorem hj_ask1 : jnAsk hj1 = (hj2, (98, hjb), false, true) := by
 unfold jnAsk
 rw [if_neg (by simp [hj1_chk])]
 rfl
theorem hj_ask2 : jnAsk hj2 = (hj2, (0, []), false, false) := by
 unfold jnAsk
 rw [if_neg (by simp [hj2_chk])]
 rfl
theorem hj_came2 : jnCameE hj2 = 0 ∧ jnCame hj2 true = hj3 := by
 have e : jnCameE hj2 = 0 := by unfold jnCameE; rw [if_neg (by simp [hj2_chk]), if_neg (by simp [hj2])]
 refine ⟨e, ?_⟩
 unfold jnCame
 rw [if_pos e]
 rfl
theorem hj_ask3 : jnAsk hj3 = (hj4, (0, []), true, true) := by
 unfold jnAsk
 rw [if_neg (by simp [hj3_chk])]
 rfl
theorem hj_came4 : jnCameE hj4 = 0 ∧ jnCame hj4 true = hj5 := by
 have e : jnCameE hj4 = 0 := by unfold jnCameE; rw [if_neg (by simp [hj4_chk]), if_neg (by simp [hj4])]
 refine ⟨e, ?_⟩
 unfold jnCame
 rw [if_pos e]
 rfl
theorem hj_save5 : jnSaveE hj5 hjT = 0 ∧ jnSave hj5 hjT = hjW := by
 have e : jnSaveE hj5 hjT = 0 := by
  unfold jnSaveE jnGoing
  rw [hj5_chk]
  simp [hj5, hjT]
 exact ⟨e, by unfold jnSave; rw [if_pos e]; rfl⟩
theorem hjW_eq : hjW = ⟨2, 1, 0, 0, 0, jnBase hjT, [], 3, [(50, jnSec hjT 0)], 0, ⟨2, 1, 3, jnBase hjT⟩, 2, 0⟩ := by rfl
theorem hjW_chk : jnChk hjW = true := by rw [hjW_eq]; unfold jnChk jnCnt jbOk jb1; simp [jnSec_len]; decide
theorem hj_saveW : jnSaveE hjW [] = 8 := by
 unfold jnSaveE jnGoing
 rw [hjW_chk]
 simp [hjW, jnSaved, hj5]
theorem hjD_all : jnFmtE hjS 100 = 0 ∧ dkOk hjD = true ∧ hjD.s.length = 100 ∧ hjD.k = [] ∧
  ∀ i : Nat, i < 100 → dkRead hjD (i : Int) = if i = 1 then suPutL 1 0 5 hjB else if 2 ≤ i ∧ i < 3 then jnSec hjS (i - 2) else List.replicate 256 0 := by
 have h := jnFmt_ok hjS 100 (by omega) (by decide)
 rw [show jnFmt hjS ((100 : Nat) : Int) = hjD from rfl, show ((hjS.length : Nat) : Int) = 5 from rfl, show jnBase hjS = hjB from rfl, show (hjS.length + 255) / 256 = 1 from rfl] at h
 exact h
theorem hjD2_all : dkWriteE hjD 98 hjb = 0 ∧ dkOk hjD2 = true ∧ hjD2.s.length = 100 ∧
  ∀ i : Nat, i < 100 → dkRead hjD2 (i : Int) = if i = 98 then hjb else if i = 1 then suPutL 1 0 5 hjB else if i = 2 then jnSec hjS 0 else List.replicate 256 0 := by
 obtain ⟨h1, h2, h3, h4, h5⟩ := hjD_all
 obtain ⟨e1, e2, e3⟩ := dkWrite_in hjD h2 98 (by omega) hjb hjb_len (by rw [h4]; simp)
 refine ⟨e1, e3, by rw [show hjD2 = _ from e2]; exact h3, fun i hi => ?_⟩
 have := dkRead_write hjD h2 98 (by omega) hjb hjb_len (by rw [h4]; simp) i (by omega)
 rw [show dkRead hjD2 (i : Int) = _ from this]
 by_cases h : i = 98
 ·rw [if_pos h.symm, if_pos h]
 ·rw [if_neg (fun e => h e.symm), if_neg h, h5 i hi]
  by_cases h1 : i = 1
  ·rw [if_pos h1, if_pos h1]
  ·rw [if_neg h1, if_neg h1]
   by_cases h2 : i = 2
   ·subst h2; rfl
   ·rw [if_neg (by omega), if_neg h2]
theorem hj_load : jnLoadE hjD2 = 0 ∧ jnLoadS hjD2 = ⟨1, 0, 5, hjB⟩ ∧ jnHad hjD2 (jnLoadS hjD2) = hjS ∧ jnLoadR hjD2 = [hjR] := by
 obtain ⟨h1, h2, h3, h4⟩ := hjD2_all
 have r0 : dkRead hjD2 0 = List.replicate 256 0 := h4 0 (by omega)
 have r1 : dkRead hjD2 1 = suPutL 1 0 5 hjB := h4 1 (by omega)
 have g0 : suGood (List.replicate 256 0) 0 = false := suGood_zeros 0
 have g1 : suGood (suPutL 1 0 5 hjB) 1 = true := by rw [suGood_put 1 0 5 hjB (by omega) (by decide) hjB_len]; rfl
 have eS : jnLoadS hjD2 = ⟨1, 0, 5, hjB⟩ := by
  unfold jnLoadS suCh
  rw [r0, r1, g0, g1, if_neg (by simp), if_pos rfl]
  exact (suGet_put 1 0 5 hjB (by omega) (by decide) hjB_len).2
 have eH : jnHad hjD2 (jnLoadS hjD2) = hjS := by
  refine jnHad_of hjD2 hjS _ (by rw [eS]; rfl) (fun i hi => ?_)
  rw [eS]
  obtain rfl : i = 0 := by rw [hjS_len] at hi; omega
  exact h4 2 (by omega)
 have eE : jnLoadE hjD2 = 0 := by
  unfold jnLoadE
  have e1 : suChE (List.replicate 256 0) (suPutL 1 0 5 hjB) = 0 := by unfold suChE; rw [if_pos (.inr g1)]
  rw [if_neg (by simp [h2]), if_neg (by omega), r0, r1, e1, if_neg (by simp), eH, eS, if_neg (by show ¬ jnBase hjS ≠ hjB; exact fun h => h rfl)]
 refine ⟨eE, eS, eH, ?_⟩
 unfold jnLoadR
 rw [eS, h3]
 have c := jnRecs_chain hjD2 1 [hjR] 2 0 hjB ⟨⟨hjR_ok, hjR_chk, rfl, rfl, rfl⟩, trivial⟩ (by simp) (fun j hj => by
  obtain rfl : j = 0 := by simpa using hj
  exact h4 98 (by omega))
 rw [show (100 - 98 : Nat) = 2 from rfl]
 refine c.trans ?_
 rw [jnRecs_end]
 ·rfl
 ·rw [show dkRead hjD2 (98 + ((0 + [hjR].length : Nat) : Int)) = List.replicate 256 0 from h4 99 (by omega)]
  exact rcFol_zeros _ _ _
end Go.Proofs.YtpahicfnhhhifaaGreat
