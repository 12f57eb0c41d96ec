/-
 Proved here, for the statement JournalBurst:
 Layer 14: the document's disk.Write and Flush: what is handed back stays, whatev
 Layer 14: what a disk has of a generation, and what is loaded of it (plain).
-/
import Derived.Test.YtpahicfnhhhifaaGreatGb20
set_option linter.unusedVariables false
set_option linter.unusedSimpArgs false
namespace Go.Proofs.YtpahicfnhhhifaaGreat
set_option maxRecDepth 20000
open Go.RowKit
set_option maxHeartbeats 8000000
def RetDkS (w : World) (S : Option Addr) (sn sc : Nat) (K : Option Addr) (kn kc : Nat) (D D' : Dk) (er : Int) (e : Ending) (w' : World) : Prop :=
 ∃ K2 kn2 kc2, e = .returned (.tuple #[.agg #[.slice S sn sc, .slice K2 kn2 kc2], .int .i64 er]) ∧ D'.s = D.s ∧ Below w.heap.size w w' ∧ ∀ us, RdWs w K kn kc us D.k → ∃ us2, ∀ W, (∀ j, w.heap.size ≤ j → j < w'.heap.size → W.heap[j]? = w'.heap[j]?) → RdWs W K kn kc us D.k → RdWs W K2 kn2 kc2 us2 D'.k
theorem ref_WriteS_any (S : Option Addr) (sn sc : Nat) (K : Option Addr) (kn kc : Nat) (D : Dk) (a : Int) (B : Option Addr) (m d : Nat) (ys : List UInt8) (w : World) (hr : RdDk w S sn sc K kn kc D) (ha : -9223372036854775808 ≤ a ∧ a ≤ 9223372036854775807) (hd : RdB w B m d ys) :
  Calls Tryz.prog 46 #[.agg #[.slice S sn sc, .slice K kn kc], .int .i64 a, .slice B m d] w (RetDkS w S sn sc K kn kc D (dkWrite D a ys) (dkWriteE D a ys)) := by
 obtain ⟨hn1, hn2, _, _, _, _⟩ := hr.n63
 have hsl := hr.sl
 have hkl := hr.kl
 have hm63 := hd.n63
 have hml := hd.2.1
 obtain ⟨V, hV⟩ : ∃ V, V = (w.alloc (.cells #[.slice S sn sc, .slice K kn kc] 40)).alloc (.cells #[.slice none 0 0, .slice none 0 0] 40) := ⟨_, rfl⟩
 have bV : Below w.heap.size w V := by rw [hV]; exact ((below_self w).alloc (Nat.le_refl _) _).alloc (by simp) _
 have qV : Hid (DkAt V w.heap.size S sn sc K kn kc) := by rw [hV]; exact Lib.hid (drw_old _ (drw_at _ rfl))
 have rV : Hid (DkAt V (w.heap.size + 1) none 0 0 none 0 0) := by rw [hV]; exact Lib.hid (drw_at _ (by simp))
 have HV := Lib.hid hV
 have C1 := Lib.hid (refDskCheck_any S sn sc K kn kc D V (hr.below bV))
 have C2 := Lib.hid (fun W => refDskHas_any S sn sc K kn kc a W hn1 ha)
 have hno : ¬ dkWriteE D a ys = 0 → dkWrite D a ys = D := fun h => by unfold dkWrite; rw [if_neg h]
 clear hV
 rcases dkAsk_cases hsl a with ⟨h1, h2⟩ | ⟨h1, h2, h3⟩ | ⟨h1, h0, h2, h3, h4⟩
 ·have e : dkWriteE D a ys = 3 := by unfold dkWriteE; rw [if_pos (by rw [h2]; decide), h2]
  rw [hno (by rw [e]; decide), e]
  rw [h1] at C1
  clear h1 h2 hno e
  go_enter Tryz.func46, Tryz.ntmps46
  go_wp2_with fail
  rw [← HV.out]
  refine C1.out.mono ?_
  rintro e w1 ⟨rfl, hb1⟩
  have B1 := below_then bV hb1
  have q := Lib.hid (qV.out.up hb1)
  have r := Lib.hid (rV.out.up hb1)
  have x0 := q.out.c0
  have x1 := q.out.c1
  have y0 := r.out.c0
  have y1 := r.out.c1
  have f0 := r.out.fr 0
  have f1 := r.out.fr 1
  have QS := Lib.hid (r.out.s01 S sn sc K kn kc)
  go_wp2_with fail
  refine bodyPost_ret (dresults_cell_tmp Tryz.results46 _ _ (w.heap.size + 1) 40 _ (0, 0) _ rfl QS.out Tryz.underlying40 rfl (dkInfo ..)) rfl ?_
  exact ⟨K, kn, kc, rfl, rfl, below2 B1 (by omega) _ _, fun us hus => ⟨us, fun W hag hin2 => hin2⟩⟩
 ·have e : dkWriteE D a ys = 50 := by unfold dkWriteE; rw [if_pos (by rw [h3]; decide), h3]
  rw [hno (by rw [e]; decide), e]
  rw [h1] at C1
  rw [h2] at C2
  clear h1 h2 h3 hno e
  go_enter Tryz.func46, Tryz.ntmps46
  go_wp2_with fail
  rw [← HV.out]
  refine C1.out.mono ?_
  rintro e w1 ⟨rfl, hb1⟩
  have B1 := below_then bV hb1
  have q := Lib.hid (qV.out.up hb1)
  have r := Lib.hid (rV.out.up hb1)
  have x0 := q.out.c0
  have x1 := q.out.c1
  go_wp2_with fail
  refine (C2.out w1).mono ?_
  rintro e w2 ⟨rfl, hb2⟩
  have B2 := below_then B1 hb2
  have q := Lib.hid (q.out.up hb2)
  have r := Lib.hid (r.out.up hb2)
  have x0 := q.out.c0
  have x1 := q.out.c1
  have y0 := r.out.c0
  have y1 := r.out.c1
  have f0 := r.out.fr 0
  have f1 := r.out.fr 1
  have QS := Lib.hid (r.out.s01 S sn sc K kn kc)
  go_wp2_with fail
  refine bodyPost_ret (dresults_cell_tmp Tryz.results46 _ _ (w.heap.size + 1) 40 _ (0, 0) _ rfl QS.out Tryz.underlying40 rfl (dkInfo ..)) rfl ?_
  exact ⟨K, kn, kc, rfl, rfl, below2 B2 (by omega) _ _, fun us hus => ⟨us, fun W hag hin2 => hin2⟩⟩
 ·have hok := h1
  rw [h1] at C1
  rw [h3] at C2
  have hk5 : kn ≤ 512 := by rw [← hkl]; exact ((dkOk_iff D).1 hok).2.1
  have hs5 : sn ≤ 256 := by rw [← hsl]; exact ((dkOk_iff D).1 hok).1
  clear h1 h3 hok
  by_cases hm : m = 256
  ·have d1 : ((m : Int) != 256) = false := by simp [hm]
   by_cases hk : kn = 512
   ·have e : dkWriteE D a ys = 4 := by unfold dkWriteE; rw [if_neg (by simp [h4]), if_neg (by simp [hml, hm]), if_pos (by omega)]
    rw [hno (by rw [e]; decide), e]
    have d2 : decide (512 ≤ (kn : Int)) = true := decide_eq_true (by omega)
    clear hno e hk hm h4
    go_enter Tryz.func46, Tryz.ntmps46
    go_wp2_with fail
    rw [← HV.out]
    refine C1.out.mono ?_
    rintro e w1 ⟨rfl, hb1⟩
    have B1 := below_then bV hb1
    have q := Lib.hid (qV.out.up hb1)
    have r := Lib.hid (rV.out.up hb1)
    have x0 := q.out.c0
    have x1 := q.out.c1
    go_wp2_with fail
    refine (C2.out w1).mono ?_
    rintro e w2 ⟨rfl, hb2⟩
    have B2 := below_then B1 hb2
    have q := Lib.hid (q.out.up hb2)
    have r := Lib.hid (r.out.up hb2)
    have x0 := q.out.c0
    have x1 := q.out.c1
    have y0 := r.out.c0
    have y1 := r.out.c1
    have f0 := r.out.fr 0
    have f1 := r.out.fr 1
    have QS := Lib.hid (r.out.s01 S sn sc K kn kc)
    go_wp2_with fail
    refine bodyPost_ret (dresults_cell_tmp Tryz.results46 _ _ (w.heap.size + 1) 40 _ (0, 0) _ rfl QS.out Tryz.underlying40 rfl (dkInfo ..)) rfl ?_
    exact ⟨K, kn, kc, rfl, rfl, below2 B2 (by omega) _ _, fun us hus => ⟨us, fun W hag hin2 => hin2⟩⟩
   ·have e : dkWriteE D a ys = 0 := by unfold dkWriteE; rw [if_neg (by simp [h4]), if_neg (by simp [hml, hm]), if_neg (by omega)]
    rw [e, show dkWrite D a ys = ⟨D.s, D.k ++ [(a, ys)]⟩ by unfold dkWrite; rw [if_pos e]]
    have d2 : decide (512 ≤ (kn : Int)) = false := decide_eq_false (by omega)
    obtain ⟨⟨vs, hs⟩, us, hus⟩ := id hr
    have HUS := Lib.hid hus
    have HS := Lib.hid hs
    have HM := Lib.hid hm
    clear hno e h4 hus hs hm
    go_enter Tryz.func46, Tryz.ntmps46
    go_wp2_with fail
    rw [← HV.out]
    refine C1.out.mono ?_
    rintro e w1 ⟨rfl, hb1⟩
    have B1 := below_then bV hb1
    have q := Lib.hid (qV.out.up hb1)
    have r := Lib.hid (rV.out.up hb1)
    have x0 := q.out.c0
    have x1 := q.out.c1
    go_wp2_with fail
    refine (C2.out w1).mono ?_
    rintro e w2 ⟨rfl, hb2⟩
    have B2 := below_then B1 hb2
    have q := Lib.hid (q.out.up hb2)
    have r := Lib.hid (r.out.up hb2)
    have x0 := q.out.c0
    have x1 := q.out.c1
    have hown := World.ownsRow_lit (size := 2) (e := 119) w2 #[] 0 (Nat.le_refl _) (by simp [maxLen]) rfl
    have HO := Lib.hid hown
    clear hown
    have x1a : (w2.alloc (.cells #[] 119)).cell? ⟨w.heap.size, 1, none⟩ = some (.slice K kn kc) := (q.out.up ((below_self w2).alloc (Nat.le_refl _) _)).c1
    have q2 := q
    have r2 := r
    go_wp2_with (first | (at_builtin; refine wp_appW rfl _ _ rfl w2.heap.size _ 0 _ rfl HO.out K kn kc us rfl ((HUS.out.below B2).1.alloc _) (HUS.out.2.1) (wcells_one HUS.out.2.2.2.2) (by omega) (by simp) kn us (by omega) rfl ?_; intro A3 c3 w3 ho3 hg3; have hb3 : Below w2.heap.size w2 w3 := ((Below.refl _ _).alloc (Nat.le_refl _) _).grown hg3 (by simp) (fun q hq => by have := (HO.out.lt q hq).1; omega); have B3 := below_then B2 hb3; have q := Lib.hid (q.out.up hb3); have r := Lib.hid (r.out.up hb3); have HO3 := Lib.hid ho3; have HO2 := Lib.hid (OwnB.lit w3 #[] [] 0 rfl rfl (by simp [maxLen])); clear ho3 hg3 x0 x1 x1a) | (at_builtin; refine wp_appB rfl _ _ rfl ((below_self w3).alloc (Nat.le_refl _) _) (Nat.le_refl _) (by simp) (some ⟨w3.heap.size, 0, none⟩) 0 0 [] rfl HO2.out B m d ys rfl ((hd.below B3).alloc _) (by have := HM.out; omega) m ys (by omega) rfl ?_; intro A5 c5 w5 ho5 hb5 hg5; have B5 := below_then B3 hb5; obtain ⟨X, hX⟩ : ∃ X, X = w5.alloc (.cells #[.int .i64 a, .slice A5 m c5] 119) := ⟨_, rfl⟩; have bX : Below w5.heap.size w5 X := (by rw [hX]; exact (below_self w5).alloc (Nat.le_refl _) _); have rX : Rd X (some ⟨w5.heap.size, 0, none⟩) [.int .i64 a, .slice A5 m c5] := (by rw [hX]; exact Rd.new w5 #[.int .i64 a, .slice A5 m c5] _); have q := Lib.hid ((q.out.up hb5).up bX); have r := Lib.hid ((r.out.up hb5).up bX); have O3 := Lib.hid (down_keep (down_keep HO3.out hb5) bX); have O5 := Lib.hid (ho5.below bX); have BX := below_then B5 bX; have HX := Lib.hid hX; have RX := Lib.hid rX; have hl2 : w2.heap.size ≤ X.heap.size := (by have := hb3.size; have := hb5.size; have := bX.size; omega); clear hX rX ho5 hg5 HO2 HO3) | (at_builtin; rw [← HX.out]; refine wp_appW rfl _ _ rfl w2.heap.size _ kn us rfl O3.out (some ⟨w5.heap.size, 0, none⟩) 1 1 _ rfl RX.out rfl (by intro u hu; simp at hu; rcases hu with rfl | rfl <;> rfl) (by omega) hl2 (kn + 1) _ rfl rfl ?_; intro A7 c7 w7 ho7 hg7; have hb7 : Below w2.heap.size w2 w7 := (below_then (below_then hb3 hb5) bX).grown hg7 hl2 (fun q hq => (O3.out.lt q hq).1); have Q7 := Lib.hid (q2.out.up hb7); have R7 := Lib.hid (r2.out.up hb7); have D7 := Lib.hid (own_grown O3.out O5.out (by decide) hg7); have HO7 := Lib.hid ho7; have z0 := Q7.out.c0; have z1 := Q7.out.c1; have g0 := Q7.out.fr 0; have g1 := Q7.out.fr 1; have y0 := R7.out.c0; have y1 := R7.out.c1; have f0 := R7.out.fr 0; have f1 := R7.out.fr 1; clear ho7 hg7))
    have r8 : DkAt (w7.setCell ⟨w.heap.size, 1, none⟩ (.slice A7 (kn + 1) c7)) (w.heap.size + 1) none 0 0 none 0 0 := (heap_setCell_other _ _ _ _ (by show w.heap.size + 1 ≠ w.heap.size; omega)).trans R7.out
    have QS := Lib.hid (r8.s01 S sn sc A7 (kn + 1) c7)
    have BF := below2 ((below_then B2 hb7).setCell (p := ⟨w.heap.size, 1, none⟩) (Nat.le_refl w.heap.size) (.slice A7 (kn + 1) c7)) (q := w.heap.size + 1) (by omega) (.slice S sn sc) (.slice A7 (kn + 1) c7)
    have oF := own_far (own_far (own_far HO7.out Q7.out (by decide) 1 (.slice A7 (kn + 1) c7)) r8 (by decide) 0 (.slice S sn sc)) (r8.s0 S sn sc) (by decide) 1 (.slice A7 (kn + 1) c7)
    have dF : OwnB _ _ A5 m c5 ys := own_far (own_far (own_far D7.out Q7.out (by decide) 1 (.slice A7 (kn + 1) c7)) r8 (by decide) 0 (.slice S sn sc)) (r8.s0 S sn sc) (by decide) 1 (.slice A7 (kn + 1) c7)
    obtain ⟨e1, e2, e3, e4⟩ := own2_rd oF
    refine bodyPost_ret (dresults_cell_tmp Tryz.results46 _ _ (w.heap.size + 1) 40 _ (0, 0) _ rfl QS.out Tryz.underlying40 rfl (dkInfo ..)) rfl ?_
    refine ⟨A7, kn + 1, c7, rfl, rfl, BF, fun us' hus' => ⟨us ++ [.int .i64 a, .slice A5 m c5], fun W hag hin2 => ?_⟩⟩
    have hz2 := B2.size
    have hz3 := B3.size
    have oQ := own_agr oF (fun j hj hj2 => hag j (by omega) hj2)
    have dQ : OwnB _ _ A5 m c5 ys := own_agr dF (fun j hj hj2 => hag j (by omega) hj2)
    obtain ⟨f1, f2, f3, f4⟩ := own2_rd oQ
    have eu := ws_one hus' HUS.out
    subst eu
    exact ⟨f1, f2, f3, f4, WParts.snoc ha dQ.rd hin2.2.2.2.2⟩
  ·have e : dkWriteE D a ys = 2 := by unfold dkWriteE; rw [if_neg (by simp [h4]), if_pos (by omega)]
   rw [hno (by rw [e]; decide), e]
   have d1 : ((m : Int) != 256) = true := by rw [bne_iff_ne]; omega
   clear hno e hm h4
   go_enter Tryz.func46, Tryz.ntmps46
   go_wp2_with fail
   rw [← HV.out]
   refine C1.out.mono ?_
   rintro e w1 ⟨rfl, hb1⟩
   have B1 := below_then bV hb1
   have q := Lib.hid (qV.out.up hb1)
   have r := Lib.hid (rV.out.up hb1)
   have x0 := q.out.c0
   have x1 := q.out.c1
   go_wp2_with fail
   refine (C2.out w1).mono ?_
   rintro e w2 ⟨rfl, hb2⟩
   have B2 := below_then B1 hb2
   have q := Lib.hid (q.out.up hb2)
   have r := Lib.hid (r.out.up hb2)
   have x0 := q.out.c0
   have x1 := q.out.c1
   have y0 := r.out.c0
   have y1 := r.out.c1
   have f0 := r.out.fr 0
   have f1 := r.out.fr 1
   have QS := Lib.hid (r.out.s01 S sn sc K kn kc)
   go_wp2_with fail
   refine bodyPost_ret (dresults_cell_tmp Tryz.results46 _ _ (w.heap.size + 1) 40 _ (0, 0) _ rfl QS.out Tryz.underlying40 rfl (dkInfo ..)) rfl ?_
   exact ⟨K, kn, kc, rfl, rfl, below2 B2 (by omega) _ _, fun us hus => ⟨us, fun W hag hin2 => hin2⟩⟩
def KpZ (w : Option Addr → Nat → Nat → List UInt8 → Prop) (V : World) (D : Dk) (kp : Nat → Bool) (A : Option Addr) (n c k : Nat) (wr : World) : Prop := ∃ vs, wr.ownsRow V.heap.size 47 1 (.slice A n c) n vs ∧ ∀ j, j < n → ∃ B m d, vs[j]? = some (.slice B m d) ∧ w B m d (dkPut D kp j k)
theorem KpZ.keep {w : Option Addr → Nat → Nat → List UInt8 → Prop} {V : World} {D : Dk} {kp : Nat → Bool} {A : Option Addr} {n c k : Nat} {wr : World} (h : KpZ w V D kp A n c k wr) (hk : kp k = false) : KpZ w V D kp A n c (k + 1) wr := by
 obtain ⟨vs, h1, h2⟩ := h
 refine ⟨vs, h1, fun j hj => ?_⟩
 rw [dkPut_no hk]; exact h2 j hj
theorem KpZ.far {w : Option Addr → Nat → Nat → List UInt8 → Prop} {V : World} {D : Dk} {kp : Nat → Bool} {A : Option Addr} {n c k : Nat} {wr : World} (h : KpZ w V D kp A n c k wr) {q : Nat} {cs : Array Value} {T : TypeId} {fr : Nat × Nat} (hq : wr.heap[q]? = some (.cells cs T fr)) (h2 : T ≠ 47) (i : Nat) (v : Value) : KpZ w V D kp A n c k (wr.setCell ⟨q, i, none⟩ v) := by
 obtain ⟨vs, a, b⟩ := h
 exact ⟨vs, own_far a hq h2 i v, b⟩
theorem KpZ.mono {w : Option Addr → Nat → Nat → List UInt8 → Prop} {V V' : World} {D : Dk} {kp : Nat → Bool} {A : Option Addr} {n c k : Nat} {wr : World} (h : KpZ w V D kp A n c k wr) (hv : V'.heap.size ≤ V.heap.size) : KpZ w V' D kp A n c k wr := by
 obtain ⟨vs, a, b⟩ := h
 exact ⟨vs, own_mono a hv, b⟩
theorem KpZ.at_ {w : Option Addr → Nat → Nat → List UInt8 → Prop} {V : World} {D : Dk} {kp : Nat → Bool} {A : Option Addr} {n c k : Nat} {wr : World} (h : KpZ w V D kp A n c k wr) (hk : kp k = true) (i : Nat) (hi : i < n) (hik : (D.k.getD k (0, [])).1 = (i : Int)) {B : Option Addr} {m d : Nat} (hy : w B m d (D.k.getD k (0, [])).2) :
  ∃ g v, A = some ⟨g, 0, none⟩ ∧ V.heap.size ≤ g ∧ wr.cell? ⟨g, i, none⟩ = some v ∧ wr.frozen? ⟨g, i, none⟩ = false ∧ g < wr.heap.size ∧ KpZ w V D kp A n c (k + 1) (wr.setCell ⟨g, i, none⟩ (.slice B m d)) := by
 obtain ⟨vs, h1, h2⟩ := h
 have hl : vs.length = n := by have := h1.1; omega
 obtain ⟨g, cap, hv, hbg, hlg⟩ := World.ownsRow.form h1 (by omega)
 injection hv with hv _ hv4
 subst hv hv4
 have hc := World.ownsRow.cellAt h1 i (by omega)
 rw [List.getElem?_eq_getElem (by omega)] at hc
 refine ⟨g, _, rfl, hbg, hc, World.ownsRow.frozenAt h1 i, World.block_lt_of_cell? wr _ hc, _, (World.ownsRow.stored h1 i (.slice B m d)).1, fun j hj => ?_⟩
 rw [dkPut_yes hk]
 by_cases e : j = i
 ·subst e
  rw [if_pos hik]
  exact ⟨B, m, d, List.getElem?_set_self (by omega), hy⟩
 ·rw [if_neg (by rw [hik]; omega)]
  obtain ⟨B', m', d', h3, h4⟩ := h2 j hj
  exact ⟨B', m', d', by rw [List.getElem?_set_ne (by omega)]; exact h3, h4⟩
theorem KpZ.done {w : Option Addr → Nat → Nat → List UInt8 → Prop} {V wr : World} {D : Dk} {kp : Nat → Bool} {A : Option Addr} {n c : Nat} (h : KpZ w V D kp A n c D.k.length wr) (hb : ∀ B m d xs, w B m d xs → RdB wr B m d xs) (hn : n ≤ 1000000) (hsl : D.s.length = n) : RdDk wr A n c none 0 0 (dkLeft D kp) := by
 obtain ⟨vs, h1, h2⟩ := h
 have hl : vs.length = n := by have := h1.1; omega
 obtain ⟨A9, c9, hv9, e3, e4, _⟩ := own_form h1
 injection hv9 with hv8 _ hv9
 subst hv8 hv9
 refine ⟨⟨vs, Rd.of_own h1, hl, e3, e4, parts_get (by simp [dkLeft, hl, hsl]) (fun k hk => ?_)⟩, (rdDk_nil _).2⟩
 obtain ⟨B, m, d, h3, h4⟩ := h2 k (by omega)
 refine ⟨B, m, d, h3, ?_⟩
 have : (dkLeft D kp).s.getD k [] = dkPut D kp k D.k.length := by rw [dkLeft_s D kp k (by omega)]; rfl
 rw [this]; exact hb _ _ _ _ h4
def KpZI (w : Option Addr → Nat → Nat → List UInt8 → Prop) (V : World) (D : Dk) (kp : Nat → Bool) (A : Option Addr) (n c kn : Nat) (v : Value) (wr : World) : Prop := ∃ k : Nat, k ≤ kn ∧ v = .int .i64 (k : Int) ∧ Hid (KpZ w V D kp A n c k wr) ∧ Below V.heap.size V wr
theorem refDskKeptZ_any (S : Option Addr) (sn sc : Nat) (K : Option Addr) (kn kc : Nat) (D : Dk) (A : Option Addr) (n c : Nat) (bs : List Bool) (all : Bool) (Z : Option Addr → Nat → Nat → List UInt8 → Prop) (w0 w : World) (hr0 : RdDk w0 S sn sc K kn kc D) (hw0 : Below w0.heap.size w0 w) (zs : ∀ vs, RdSS w0 S sn sc vs D.s → ∀ j, j < sn → ∃ B m d, vs[j]? = some (.slice B m d) ∧ Z B m d (D.s.getD j [])) (zu : ∀ k, k < kn → ∃ b o B m d, K = some ⟨b, o, none⟩ ∧ b < w0.heap.size ∧ w0.cell? ⟨b, o + k * 2, none⟩ = some (.int .i64 (D.k.getD k (0, [])).1) ∧ w0.cell? ⟨b, o + k * 2 + 1, none⟩ = some (.slice B m d) ∧ Z B m d (D.k.getD k (0, [])).2) (hok : dkOk D = true) (hb : RdBo w A n c bs) :
  Calls Tryz.prog 83 #[.agg #[.slice S sn sc, .slice K kn kc], .slice A n c, .bool all] w (fun e w' => ∃ S2 sc2, e = .returned (.agg #[.slice S2 sn sc2, .slice none 0 0]) ∧ KpZ Z w D (dkKp all bs) S2 sn sc2 D.k.length w' ∧ Below w.heap.size w w') := by
 have hr := hr0.below hw0
 obtain ⟨hn1, hn2, _, _, _, _⟩ := hr.n63
 have hn63 := hb.n63
 have hsl := hr.sl
 have hkl := hr.kl
 obtain ⟨o1, o2, o3, o4⟩ := (dkOk_iff D).1 hok
 have hrange : ∀ k, k < kn → ∃ i : Nat, (D.k.getD k (0, [])).1 = (i : Int) ∧ i < sn := fun k hk => by
  have h := (o4 (D.k.getD k (0, [])) (by rw [List.getD, List.getElem?_eq_getElem (by omega)]; exact List.getElem_mem _)).1
  unfold dkHas at h
  rw [Bool.and_eq_true, decide_eq_true_eq, decide_eq_true_eq] at h
  exact ⟨(D.k.getD k (0, [])).1.toNat, by omega, by omega⟩
 have hsn : sn ≤ 256 := by omega
 have hkn : kn ≤ 512 := by omega
 obtain ⟨V, hV⟩ : ∃ V, V = (w.alloc (.cells #[.slice S sn sc, .slice K kn kc] 40)).alloc (.cells #[.slice none 0 0, .slice none 0 0] 40) := ⟨_, rfl⟩
 have bV : Below w.heap.size w V := by rw [hV]; exact ((below_self w).alloc (Nat.le_refl _) _).alloc (by simp) _
 have qV : Hid (DkAt V w.heap.size S sn sc K kn kc) := by rw [hV]; exact Lib.hid (drw_old _ (drw_at _ rfl))
 have rV : Hid (DkAt V (w.heap.size + 1) none 0 0 none 0 0) := by rw [hV]; exact Lib.hid (drw_at _ (by simp))
 have HV := Lib.hid hV
 have bV0 := below_then hw0 bV
 obtain ⟨⟨vs, hs⟩, us, hus⟩ := id hr0
 have hown := World.ownsRow_lit (size := 1) (e := 47) V #[] 0 (Nat.le_refl _) (by simp [maxLen]) rfl
 have zV : V.heap.size = w.heap.size + 1 + 1 := by rw [hV]; simp
 rw [zV] at hown
 have ZV := Lib.hid zV
 have HO := Lib.hid hown
 have h1c := parts_one hs.2.2.2.2
 have H1 := Lib.hid h1c
 have HS := Lib.hid hs
 have HUS := Lib.hid hus
 have HR := Lib.hid hrange
 have ZS := Lib.hid zs
 have ZU := Lib.hid zu
 clear zs zu
 have HSL := Lib.hid hsl
 have HKL := Lib.hid hkl
 have x0 := qV.out.c0
 have zq := qV.out.lt
 clear hV hown zV h1c hs hus hrange hok o1 o2 o3 o4 hsl hkl
 obtain ⟨kp, hkp⟩ : ∃ kp, dkKp all bs = kp := ⟨_, rfl⟩
 rw [hkp]
 have HKP := Lib.hid hkp
 clear hkp
 go_enter Tryz.func83, Tryz.ntmps83
 go_wp2_with (at_builtin; rw [← HV.out]; refine wp_app rfl _ _ 37 47 rfl delemSS _ _ 0 _ rfl HO.out _ sn sc _ rfl ((HS.out.1.below bV0).alloc _) (by simpa using HS.out.2.1) H1.out (by unfold maxLen; omega) (by omega) (by simp; have := ZV.out; omega) ?_; intro A4 c4 w4 ho4 hg4)
 have hb4 : Below V.heap.size V w4 := ((Below.refl _ _).alloc (Nat.le_refl _) _).grown hg4 (by simp) (fun q hq => by have := (HO.out.lt q hq).1; have := ZV.out; omega)
 have K0 : Hid (KpZ Z V D kp A4 sn c4 0 w4) := Lib.hid ⟨vs, by rw [ZV.out]; simpa using ho4, fun j hj => by
  obtain ⟨B, m, d, h3, h4⟩ := ZS.out _ HS.out j hj
  refine ⟨B, m, d, h3, ?_⟩
  have : dkPut D kp j 0 = D.s.getD j [] := by unfold dkPut; rw [dkLast]; rfl
  rw [this]; exact h4⟩
 have HHO := Lib.hid ho4
 clear ho4 hg4 x0
 go_wp2_with fail
 go_loopw [8] (KpZI Z V D kp A4 sn c4 kn) (fun v _ => kn - (intOf v).toNat)
 case atStart => exact ⟨0, by omega, rfl, K0, hb4⟩
 case round =>
 obtain ⟨k, hk, rfl, hK, hI⟩ := hrel
 have BI := below_then bV hI
 have BI0 := below_then bV0 hI
 have qk := qV.out.up hI
 have x1 := qk.c1
 have lq := qk.lt
 clear qk hb4
 by_cases hlt : k < kn
 ·obtain ⟨b7, o7, B7, m7, d7, hKe, hb7, hc70, hc71, hy7, hrg⟩ := (HUS.out.below BI0).at_ k hlt
  obtain ⟨b8, o8, B8, m8, d8, hKe8, hb8, hc80, hc81, hy8⟩ := ZU.out k hlt
  obtain ⟨i, hia, hi⟩ := HR.out k hlt
  have eqS : Value.slice B7 m7 d7 = .slice B8 m8 d8 := by
   rw [hKe] at hKe8
   injection hKe8 with hKe8
   injection hKe8 with e1 e2
   subst e1 e2
   have := (BI0.cell (p := ⟨b7, o7 + k * 2 + 1, none⟩) hb8).trans hc81
   rw [hc71] at this
   injection this
  injection eqS with e1 e2 e3
  subst e1 e2 e3 hKe
  have HY8 := Lib.hid hy8
  have HIA := Lib.hid hia
  rw [hia] at hc70
  have lk : (k : Int) < (kn : Int) := by omega
  have li : (i : Int) < (sn : Int) := by omega
  clear hy7 hy8 hKe8 hc80 hc81 hb8 hrg hia
  cases all with
  | true =>
   have hkk : kp k = true := by rw [← HKP.out]; rfl
   obtain ⟨g, v9, rfl, hg1, hc10, hf10, hlg, hK2⟩ := hK.out.at_ hkk i hi HIA.out HY8.out
   have HK2 := Lib.hid hK2
   clear hK2 hK hkk
   go_wp2_with fail
   refine wp_region_last (S := fun w' => Below wr.heap.size wr w') 14 (brw9 15 16383) [(0, true), (1, true), (2, true), (3, true), (4, true), (5, true), (6, true), (7, true), (8, true), (9, true), (10, true), (11, true), (12, true), (13, true)] (by kernel_rfl) (by kernel_rfl) (fun _ _ d _ _ h => by cases d <;> exact h) ((Below.refl _ wr).drew) ?_
   iterate 14 (refine seg_take (v := ?_) rfl (Or.inl ⟨by rfl, ?_⟩) ?_; rotate_left; (focus (intro w' hw'; have j0 := (hw'.cell (p := ⟨w.heap.size, 1, none⟩) lq).trans x1; have j1 := (hw'.cell (p := ⟨b7, o7 + k * 2, none⟩) hb7).trans hc70; have j2 := (hw'.cell (p := ⟨b7, o7 + k * 2 + 1, none⟩) hb7).trans hc71; go_simp <;> with_reducible rfl)); try simp only [Act.put, pst3])
   refine seg_done ?_
   refine last_run rfl (fun K hK => ?_)
   go_simp
   refine hK.out _ _ ?_
   clear hK
   try simp only [Act.put, pst3]
   go_wp2_with fail
   go_roundw
   case rel => exact ⟨k + 1, by omega, by go_num, HK2, (hI.setCell (p := ⟨g, i, none⟩) hg1 _).drew⟩
   case measure => simp [intOf]; omega
  | false =>
   have hkd : kp k = dkKeep bs k := by rw [← HKP.out]; rfl
   by_cases hn : k < n
   ·obtain ⟨b9, o9, rfl, hb9, hc9⟩ := (hb.below BI).at_ k hn
    have ln : (k : Int) < (n : Int) := by omega
    obtain ⟨T, hT⟩ : ∃ T, bs.getD k false = T := ⟨_, rfl⟩
    rw [hT] at hc9
    have hkk : kp k = T := by rw [hkd]; exact hT
    clear hT hkd
    cases T with
    | true =>
     obtain ⟨g, v9, rfl, hg1, hc10, hf10, hlg, hK2⟩ := hK.out.at_ hkk i hi HIA.out HY8.out
     have HK2 := Lib.hid hK2
     clear hK2 hK hkk
     go_wp2_with fail
     refine wp_region_last (S := fun w' => Below wr.heap.size wr w') 14 (brw9 15 16383) [(0, true), (1, true), (2, true), (3, true), (4, true), (5, true), (6, true), (7, true), (8, true), (9, true), (10, true), (11, true), (12, true), (13, true)] (by kernel_rfl) (by kernel_rfl) (fun _ _ d _ _ h => by cases d <;> exact h) ((Below.refl _ wr).drew) ?_
     iterate 14 (refine seg_take (v := ?_) rfl (Or.inl ⟨by rfl, ?_⟩) ?_; rotate_left; (focus (intro w' hw'; have j0 := (hw'.cell (p := ⟨w.heap.size, 1, none⟩) lq).trans x1; have j1 := (hw'.cell (p := ⟨b7, o7 + k * 2, none⟩) hb7).trans hc70; have j2 := (hw'.cell (p := ⟨b7, o7 + k * 2 + 1, none⟩) hb7).trans hc71; go_simp <;> with_reducible rfl)); try simp only [Act.put, pst3])
     refine seg_done ?_
     refine last_run rfl (fun K hK => ?_)
     go_simp
     refine hK.out _ _ ?_
     clear hK
     try simp only [Act.put, pst3]
     go_wp2_with fail
     go_roundw
     case rel => exact ⟨k + 1, by omega, by go_num, HK2, (hI.setCell (p := ⟨g, i, none⟩) hg1 _).drew⟩
     case measure => simp [intOf]; omega
    | false =>
     have HK2 := Lib.hid (hK.out.keep hkk)
     clear hK hkk
     go_wp2_with fail
     go_roundw
     case rel => exact ⟨k + 1, by omega, by go_num, HK2, hI⟩
     case measure => simp [intOf]; omega
   ·have hkk : kp k = false := by
     rw [hkd]; unfold dkKeep; rw [List.getD, List.getElem?_eq_none (by have := hb.2.1; omega)]; rfl
    have ln : ¬ ((k : Int) < (n : Int)) := by omega
    clear hkd
    have HK2 := Lib.hid (hK.out.keep hkk)
    clear hK hkk
    go_wp2_with fail
    go_roundw
    case rel => exact ⟨k + 1, by omega, by go_num, HK2, hI⟩
    case measure => simp [intOf]; omega
 ·obtain rfl : kn = k := by omega
  have r9 := rV.out.up hI
  have y0 := r9.c0
  have y1 := r9.c1
  have f0 := r9.fr 0
  have f1 := r9.fr 1
  have QS := Lib.hid (r9.s01 A4 sn c4 none 0 0)
  have R9 := Lib.hid r9
  clear r9
  go_wp2_with fail
  refine bodyPost_ret (dresults_cell Tryz.results83 _ _ (w.heap.size + 1) 40 _ (0, 0) _ rfl QS.out Tryz.underlying40 rfl (dkInfo ..)) rfl ?_
  have BF := below2 BI (q := w.heap.size + 1) (by omega) (.slice A4 sn c4) (.slice none 0 0)
  have hK2 := ((hK.out.far R9.out (by decide) 0 (.slice A4 sn c4)).far (R9.out.s0 A4 sn c4) (by decide) 1 (.slice none 0 0))
  rw [← HKL.out] at hK2
  exact ⟨A4, c4, rfl, hK2.mono (by have := bV.size; omega), BF⟩
theorem ref_FlushZ_any (S : Option Addr) (sn sc : Nat) (K : Option Addr) (kn kc : Nat) (D : Dk) (Z : Option Addr → Nat → Nat → List UInt8 → Prop) (w : World) (hr : RdDk w S sn sc K kn kc D) (hok : dkOk D = true) (zs : ∀ vs, RdSS w S sn sc vs D.s → ∀ j, j < sn → ∃ B m d, vs[j]? = some (.slice B m d) ∧ Z B m d (D.s.getD j [])) (zu : ∀ k, k < kn → ∃ b o B m d, K = some ⟨b, o, none⟩ ∧ b < w.heap.size ∧ w.cell? ⟨b, o + k * 2, none⟩ = some (.int .i64 (D.k.getD k (0, [])).1) ∧ w.cell? ⟨b, o + k * 2 + 1, none⟩ = some (.slice B m d) ∧ Z B m d (D.k.getD k (0, [])).2) :
  Calls Tryz.prog 47 #[.agg #[.slice S sn sc, .slice K kn kc]] w (fun e w' => ∃ A c, e = .returned (.tuple #[.agg #[.slice A sn c, .slice none 0 0], .int .i64 0]) ∧ KpZ Z w D (fun _ => true) A sn c D.k.length w' ∧ Below w.heap.size w w') := by
 obtain ⟨V, hV⟩ : ∃ V, V = (w.alloc (.cells #[.slice S sn sc, .slice K kn kc] 40)).alloc (.cells #[.slice none 0 0, .slice none 0 0] 40) := ⟨_, rfl⟩
 have bV : Below w.heap.size w V := by rw [hV]; exact ((below_self w).alloc (Nat.le_refl _) _).alloc (by simp) _
 have qV : Hid (DkAt V w.heap.size S sn sc K kn kc) := by rw [hV]; exact Lib.hid (drw_old _ (drw_at _ rfl))
 have rV : Hid (DkAt V (w.heap.size + 1) none 0 0 none 0 0) := by rw [hV]; exact Lib.hid (drw_at _ (by simp))
 have HV := Lib.hid hV
 have H1 := Lib.hid (refDskCheck_any S sn sc K kn kc D V (hr.below bV))
 clear hV
 rw [hok] at H1
 have H2 := Lib.hid (fun W (hb0 : Below V.heap.size V W) => refDskKeptZ_any S sn sc K kn kc D none 0 0 [] true Z w W hr (below_then bV hb0) zs zu hok (rdBo_nil W))
 have hsn : sn ≤ 256 := by have := ((dkOk_iff D).1 hok).1; have := hr.sl; omega
 have HSL := Lib.hid hr.sl
 clear hok zs zu
 go_enter Tryz.func47, Tryz.ntmps47
 go_wp2_with fail
 rw [← HV.out]
 refine H1.out.mono ?_
 rintro e w2 ⟨rfl, hb2⟩
 have q2 := qV.out.up hb2
 have x0 := q2.c0
 have x1 := q2.c1
 have B2 := below_then bV hb2
 clear q2
 go_wp2_with fail
 refine (H2.out w2 hb2).mono ?_
 rintro e w3 ⟨A3, c3, rfl, hr3, hb3⟩
 have r3 := (rV.out.up hb2).up hb3
 have y0 := r3.c0
 have y1 := r3.c1
 have f0 := r3.fr 0
 have f1 := r3.fr 1
 have QS := Lib.hid (r3.s01 A3 sn c3 none 0 0)
 have B3 := below_then B2 hb3
 have HR := Lib.hid hr3
 have R3 := Lib.hid r3
 clear r3 hr3 x0 x1
 go_wp2_with fail
 refine bodyPost_ret (dresults_cell_tmp Tryz.results47 _ _ (w.heap.size + 1) 40 _ (0, 0) _ rfl QS.out Tryz.underlying40 rfl (dkInfo ..)) rfl ?_
 exact ⟨A3, c3, rfl, ((HR.out.far R3.out (by decide) 0 (.slice A3 sn c3)).far (R3.out.s0 A3 sn c3) (by decide) 1 (.slice none 0 0)).mono (by have := B2.size; omega), below2 B3 (by omega) _ _⟩
def DkS (P : Nat → Prop) (w : World) (AV : Array Value) (D : Dk) : Prop := ∃ S sn sc K kn kc vs us, AV = #[.slice S sn sc, .slice K kn kc] ∧ ∀ W, Agr P w W → RdSS W S sn sc vs D.s ∧ RdWs W K kn kc us D.k
theorem DkS.val {P : Nat → Prop} {w : World} {AV : Array Value} {D : Dk} (h : DkS P w AV D) : DkVal AV w D := by
 obtain ⟨S, sn, sc, K, kn, kc, vs, us, e, f⟩ := h
 obtain ⟨f1, f2⟩ := f w ⟨rfl, rfl, rfl, Nat.le_refl _, fun _ _ _ => rfl⟩
 exact ⟨S, sn, sc, K, kn, kc, e, ⟨vs, f1⟩, us, f2⟩
theorem DkVal.ins {P : Nat → Prop} {w w' : World} {AV : Array Value} {D : Dk} (v : DkVal AV w D) (hb : Below w.heap.size w w') (hs : ∀ j, P j → w.heap.size ≤ j) : DkS P w' AV D := by
 obtain ⟨S, sn, sc, K, kn, kc, e, ⟨vs, r1⟩, us, r2⟩ := v
 refine ⟨S, sn, sc, K, kn, kc, vs, us, e, fun W hW => ?_⟩
 have hB : Below w.heap.size w W := ⟨hW.1.trans hb.os, hW.2.1.trans hb.tape, hW.2.2.1.trans hb.output, Nat.le_trans hb.size hW.2.2.2.1, fun j hj => (hW.2.2.2.2 j (Nat.lt_of_lt_of_le hj hb.size) (fun hp => by have := hs j hp; omega)).trans (hb.block j hj)⟩
 exact ⟨r1.below hB, r2.below hB⟩
theorem vRWriteS {P : Nat → Prop} {w : World} {AV : Array Value} {D : Dk} (v : DkS P w AV D) (hP : ∀ j, P j → j < w.heap.size) (a : Int) (B : Option Addr) (m d : Nat) (ys : List UInt8) (ha : -9223372036854775808 ≤ a ∧ a ≤ 9223372036854775807) (hd : RdB w B m d ys) : Calls Tryz.prog 46 #[.agg AV, .int .i64 a, .slice B m d] w (fun e w' => ∃ AV', e = .returned (.tuple #[.agg AV', .int .i64 (dkWriteE D a ys)]) ∧ DkS P w' AV' (dkWrite D a ys) ∧ Below w.heap.size w w') := by
 obtain ⟨_, _, _, _, _, _, _, r0⟩ := v.val
 obtain ⟨S, sn, sc, K, kn, kc, vs, us, rfl, f⟩ := v
 obtain ⟨f1, f2⟩ := f w ⟨rfl, rfl, rfl, Nat.le_refl _, fun _ _ _ => rfl⟩
 refine (ref_WriteS_any S sn sc K kn kc D a B m d ys w ⟨⟨vs, f1⟩, us, f2⟩ ha hd).mono ?_
 rintro e w' ⟨K2, kn2, kc2, h1, hs, h3, h4⟩
 obtain ⟨us2, h5⟩ := h4 us f2
 refine ⟨_, h1, ⟨S, sn, sc, K2, kn2, kc2, vs, us2, rfl, fun W hW => ?_⟩, h3⟩
 have hW2 := hW.of h3
 rw [hs]
 exact ⟨(f W hW2).1, h5 W (fun j hj hj2 => hW.2.2.2.2 j hj2 (fun hp => by have := hP j hp; omega)) (f W hW2).2⟩
theorem vRFlushS {P : Nat → Prop} {w : World} {AV : Array Value} {D : Dk} (v : DkS P w AV D) (hP : ∀ j, P j → j < w.heap.size) (hok : dkOk D = true) : Calls Tryz.prog 47 #[.agg AV] w (fun e w' => ∃ AV', e = .returned (.tuple #[.agg AV', .int .i64 0]) ∧ DkS P w' AV' (dkFlush D) ∧ Below w.heap.size w w') := by
 obtain ⟨S, sn, sc, K, kn, kc, vs, us, rfl, f⟩ := v
 obtain ⟨f1, f2⟩ := f w ⟨rfl, rfl, rfl, Nat.le_refl _, fun _ _ _ => rfl⟩
 have hsl : D.s.length = sn := RdDk.sl (S := S) (sc := sc) (K := K) (kn := kn) (kc := kc) (w := w) ⟨⟨vs, f1⟩, us, f2⟩
 have hkl : D.k.length = kn := RdDk.kl (S := S) (sc := sc) (sn := sn) (K := K) (kc := kc) (w := w) ⟨⟨vs, f1⟩, us, f2⟩
 have hsn : sn ≤ 256 := by have := ((dkOk_iff D).1 hok).1; omega
 refine (ref_FlushZ_any S sn sc K kn kc D (fun B m d xs => ∀ W, Agr P w W → RdB W B m d xs) w ⟨⟨vs, f1⟩, us, f2⟩ hok ?_ ?_).mono ?_
 ·intro vs' h' j hj
  have e : vs' = vs := by
   apply List.ext_getElem
   ·rw [h'.2.1, f1.2.1]
   ·intro i h1 h2
    obtain ⟨b, o, B, m, d, e1, _, e2, _⟩ := h'.at_ i (by rw [← h'.2.1]; exact h1)
    obtain ⟨b1, o1, e3, _, e4⟩ := h'.1.at_ i h1
    obtain ⟨b2, o2, e5, _, e6⟩ := f1.1.at_ i h2
    rw [e3] at e5; injection e5 with e5; injection e5 with x1 x2; subst x1 x2
    rw [e4] at e6
    simpa using e6
  subst e
  obtain ⟨B, m, d, h3, h4⟩ := f1.2.2.2.2.at_ j (by rw [f1.2.1]; exact hj) (by rw [hsl]; exact hj)
  refine ⟨B, m, d, by rw [List.getElem?_eq_getElem (by rw [f1.2.1]; exact hj), h3], fun W hW => ?_⟩
  obtain ⟨B', m', d', h5, h6⟩ := (f W hW).1.2.2.2.2.at_ j (by rw [f1.2.1]; exact hj) (by rw [hsl]; exact hj)
  rw [h3] at h5
  injection h5 with x1 x2 x3
  subst x1 x2 x3
  rw [List.getD, List.getElem?_eq_getElem (by rw [hsl]; exact hj)]
  exact h6
 ·intro k hk
  obtain ⟨b, o, B, m, d, e1, e2, e3, e4, e5, e6⟩ := f2.at_ k hk
  refine ⟨b, o, B, m, d, e1, e2, e3, e4, fun W hW => ?_⟩
  obtain ⟨b', o', B', m', d', g1, g2, g3, g4, g5, g6⟩ := (f W hW).2.at_ k hk
  rw [e1] at g1; injection g1 with g1; injection g1 with x1 x2; subst x1 x2
  obtain ⟨bx, ox, hx1, hx2, hx3⟩ := f2.1.at_ (k * 2 + 1) (by have := f2.2.1; omega)
  obtain ⟨by_, oy, hy1, hy2, hy3⟩ := (f W hW).2.1.at_ (k * 2 + 1) (by have := f2.2.1; omega)
  rw [e1] at hx1; injection hx1 with hx1; injection hx1 with x1 x2; subst x1 x2
  rw [e1] at hy1; injection hy1 with hy1; injection hy1 with x1 x2; subst x1 x2
  rw [show o + k * 2 + 1 = o + (k * 2 + 1) by omega] at e4 g4
  rw [hx3] at e4
  rw [hy3] at g4
  rw [e4] at g4
  injection g4 with g4
  injection g4 with x1 x2 x3
  subst x1 x2 x3
  exact g5
 ·rintro e w' ⟨A, c, h1, ⟨vs', h2, h3⟩, h4⟩
  have hlen : vs'.length = sn := by have := h2.1; omega
  refine ⟨_, h1, ⟨A, sn, c, none, 0, 0, vs', [], rfl, fun W hW => ?_⟩, h4⟩
  have hK : KpZ (fun B m d xs => RdB W B m d xs) w D (fun _ => true) A sn c D.k.length W := ⟨vs', own_agr h2 (fun j hj hj2 => hW.2.2.2.2 j hj2 (fun hp => by have := hP j hp; omega)), fun j hj => by
   obtain ⟨B, m, d, g1, g2⟩ := h3 j hj
   exact ⟨B, m, d, g1, g2 W (hW.of h4)⟩⟩
  obtain ⟨⟨v2, d1⟩, u2, d2⟩ := hK.done (fun _ _ _ _ h => h) (by omega) hsl
  have e : v2 = vs' := by
   obtain ⟨vs3, k1, k2⟩ := hK
   have r1 := Rd.of_own (own_agr h2 (fun j hj hj2 => hW.2.2.2.2 j hj2 (fun hp => by have := hP j hp; omega)) : W.ownsRow _ _ _ _ _ vs')
   apply List.ext_getElem
   ·rw [d1.2.1, hlen]
   ·intro i q1 q2
    obtain ⟨b1, o1, e3, _, e4⟩ := d1.1.at_ i q1
    obtain ⟨b2, o2, e5, _, e6⟩ := r1.at_ i q2
    rw [e3] at e5; injection e5 with e5; injection e5 with x1 x2; subst x1 x2
    rw [e4] at e6
    simpa using e6
  subst e
  have ef : dkFlush D = dkLeft D (fun _ => true) := by unfold dkFlush; rw [if_pos hok]
  rw [ef]
  have eu : u2 = [] := List.eq_nil_of_length_eq_zero (by have := d2.2.1; omega)
  subst eu
  exact ⟨d1, d2⟩
end Go.Proofs.YtpahicfnhhhifaaGreat
namespace Go.Proofs.YtpahicfnhhhifaaGreat
set_option maxRecDepth 20000
set_option maxHeartbeats 1000000
structure Ev where
 t : Nat
 k : Int
 c : Nat
 b : List UInt8
def Ev.ok (e : Ev) : Prop := e.t < 18446744073709551616 ∧ (-9223372036854775808 ≤ e.k ∧ e.k ≤ 9223372036854775807) ∧ e.c < 18446744073709551616
def Ev.chk (e : Ev) : Bool := rcChk e.k e.c e.b.length
def evRc (g i : Nat) (P : List UInt8) (e : Ev) : Rc := rcMk P ⟨g, i, 1, e.t, e.k, e.c, e.b, List.replicate 32 0⟩
def evRcs (g : Nat) : Nat → List UInt8 → List Ev → List Rc
 | _, _, [] => []
 | i, P, e :: l => evRc g i P e :: evRcs g (i + 1) (evRc g i P e).D l
theorem evRcs_len (g : Nat) : ∀ (l : List Ev) (i : Nat) (P : List UInt8), (evRcs g i P l).length = l.length
 | [], _, _ => rfl
 | e :: l, i, P => by simp [evRcs, evRcs_len g l]
theorem evRcs_snoc (g : Nat) (e : Ev) : ∀ (l : List Ev) (i : Nat) (P : List UInt8), evRcs g i P (l ++ [e]) = evRcs g i P l ++ [evRc g (i + l.length) (rcEnd P (evRcs g i P l)) e]
 | [], i, P => rfl
 | x :: l, i, P => by
  simp only [List.cons_append, evRcs, evRcs_snoc g e l, rcEnd, List.length_cons]
  rw [show i + 1 + l.length = i + (l.length + 1) by omega]
theorem evRc_ok (g i : Nat) (P : List UInt8) (e : Ev) (hg : g < 4294967296) (hi : i < 4294967296) (h : e.ok) : (evRc g i P e).ok := rcMk_ok _ _ ⟨hg, hi, by show 1 < 4294967296; decide, h.1, h.2.1, h.2.2, rfl⟩
theorem evRcs_chain (g : Nat) (hg : g < 4294967296) : ∀ (l : List Ev) (i : Nat) (P : List UInt8), (∀ e ∈ l, e.ok ∧ e.chk = true) → i + l.length ≤ 4294967296 → RcChain P g i (evRcs g i P l)
 | [], _, _, _, _ => trivial
 | e :: l, i, P, h, hi => by
  simp only [List.length_cons] at hi
  exact ⟨⟨evRc_ok g i P e hg (by omega) (h e (by simp)).1, (h e (by simp)).2, rfl, rfl, rfl⟩, evRcs_chain g hg l (i + 1) _ (fun x hx => h x (by simp [hx])) (by omega)⟩
theorem evRcs_get (g : Nat) : ∀ (l : List Ev) (i : Nat) (P : List UInt8) (j : Nat) (hj : j < l.length), ∃ Q, (evRcs g i P l).getD j rcZ = evRc g (i + j) Q (l.getD j ⟨0, 0, 0, []⟩)
 | e :: l, i, P, 0, _ => ⟨P, rfl⟩
 | e :: l, i, P, j + 1, hj => by
  obtain ⟨Q, hQ⟩ := evRcs_get g l (i + 1) (evRc g i P e).D j (by simpa using hj)
  exact ⟨Q, by rw [show i + (j + 1) = i + 1 + j by omega]; exact hQ⟩
theorem rcChain_take (g : Nat) : ∀ (l : List Rc) (P : List UInt8) (i m : Nat), RcChain P g i l → RcChain P g i (l.take m)
 | [], _, _, _, _ => by simp [RcChain]
 | r :: l, P, i, 0, _ => trivial
 | r :: l, P, i, m + 1, h => ⟨h.1, rcChain_take g l _ _ m h.2⟩
def slotOf (g : Nat) : Int := (((g + 1) % 2 : Nat) : Int)
def placeOf (g : Nat) : Nat := if g % 2 = 1 then 2 else 50
theorem slotOf_place (g : Nat) : (if slotOf g = 0 then (2 : Int) else 50) = ((placeOf g : Nat) : Int) := by
 unfold slotOf placeOf
 by_cases h : g % 2 = 1
 ·rw [if_pos h, if_pos (by omega)]; rfl
 ·rw [if_neg h, if_neg (by omega)]; rfl
theorem slotOf_next (g : Nat) : 1 - slotOf g = slotOf (g + 1) := by unfold slotOf; omega
theorem slotOf_01 (g : Nat) : slotOf g = 0 ∨ slotOf g = 1 := by unfold slotOf; omega
def secs (st : List UInt8) : Nat := (st.length + 255) / 256
def headB (g : Nat) (st : List UInt8) : List UInt8 := suPutL g (slotOf g) (st.length : Int) (jnBase st)
def headSu (g : Nat) (st : List UInt8) : Su := ⟨g, slotOf g, (st.length : Int), jnBase st⟩
theorem jnBase_len (st : List UInt8) : (jnBase st).length = 32 := shOf_len _
theorem headOk (g : Nat) (st : List UInt8) (h : st.length ≤ 12288) : suCheck (slotOf g) (st.length : Int) = true := by
 unfold suCheck
 have := slotOf_01 g
 exact decide_eq_true ⟨this, by omega, by omega⟩
theorem headB_len (g : Nat) (st : List UInt8) (h : st.length ≤ 12288) : (headB g st).length = 256 := by
 unfold headB suPutL; rw [if_pos (headOk g st h)]; exact suL_len _ _ _ _ (jnBase_len _)
def NoHead (g : Nat) (b : List UInt8) (h : Nat) : Prop := suGood b h = true → (suGet b).g < g
def NoRec (g : Nat) (b : List UInt8) : Prop := rcGetE b = 0 → (rcGet b).g < g
theorem NoRec.fol {g : Nat} {b : List UInt8} (h : NoRec g b) (P : List UInt8) (s : Nat) : rcFolE P g s b ≠ 0 := by
 unfold rcFolE
 by_cases e : rcGetE b = 0
 ·rw [if_pos e]
  have := h e
  rw [if_pos (by omega)]
  decide
 ·rw [if_neg e]; exact e
theorem NoRec.up {g g' : Nat} {b : List UInt8} (h : NoRec g b) (hg : g ≤ g') : NoRec g' b := fun e => Nat.lt_of_lt_of_le (h e) hg
theorem noRec_zeros (g : Nat) : NoRec g (List.replicate 256 0) := fun e => by
 have := rcFol_zeros [] (rcGet (List.replicate 256 0)).g (rcGet (List.replicate 256 0)).s
 obtain ⟨e1, _, _, hc, _⟩ := rcGet_ok _ e
 rw [e1] at hc
 exact absurd hc (by decide)
theorem noRec_put {g g' : Nat} {r : Rc} (h : r.ok) (hc : r.chk = true) (hr : r.g = g) (hg : g < g') : NoRec g' (rcPutL r) := fun _ => by rw [(rcGet_put r h hc).2, hr]; exact hg
theorem noHead_zeros (g h : Nat) : NoHead g (List.replicate 256 0) h := fun e => by rw [suGood_zeros] at e; cases e
theorem noHead_put {g g' h : Nat} {st : List UInt8} (hg : g < 4294967296) (hs : st.length ≤ 12288) (hgg : g < g') : NoHead g' (headB g st) h := fun _ => by
 rw [show suGet (headB g st) = headSu g st from (suGet_put g _ _ _ hg (headOk g st hs) (jnBase_len _)).2]; exact hgg
structure GenAt (f : Nat → List UInt8) (g : Nat) (st : List UInt8) (R : List Rc) (d : Nat) : Prop where
 head : f (g % 2) = headB g st
 other : NoHead g (f ((g + 1) % 2)) ((g + 1) % 2)
 state : ∀ i, i < secs st → f (placeOf g + i) = jnSec st i
 recs : ∀ i, i < d → f (98 + i) = rcPutL (R.getD i rcZ)
theorem gen_load (D : Dk) (f : Nat → List UInt8) (g : Nat) (st : List UInt8) (R : List Rc) (d : Nat) (h : GenAt f g st R d) (hD : dkOk D = true) (hl : 98 ≤ D.s.length) (hf : ∀ i : Nat, i < D.s.length → dkRead D (i : Int) = f i)
  (hg : g < 4294967296) (hs : st.length ≤ 12288) (hR : RcChain (jnBase st) g 0 R) (hd : d ≤ R.length) (hn : d ≤ D.s.length - 98) (hend : d < D.s.length - 98 → NoRec g (f (98 + d))) :
  jnLoadE D = 0 ∧ jnLoadS D = headSu g st ∧ jnHad D (jnLoadS D) = st ∧ jnLoadR D = R.take d := by
 have r0 : dkRead D 0 = f 0 := hf 0 (by omega)
 have r1 : dkRead D 1 = f 1 := hf 1 (by omega)
 have hput := suGet_put g (slotOf g) (st.length : Int) (jnBase st) hg (headOk g st hs) (jnBase_len _)
 have hold := suOld g (slotOf g) (st.length : Int) (jnBase st)
 have key : suChE (f 0) (f 1) = 0 ∧ suCh (f 0) (f 1) = headSu g st := by
  have hh := h.head
  have ho := h.other
  by_cases e : g % 2 = 0
  ·have e1 : (g + 1) % 2 = 1 := by omega
   rw [e] at hh
   rw [e1] at ho
   have := (hold (f 1) hg (headOk g st hs) (jnBase_len _)).1 e
   rw [hh]
   refine ⟨this.1, ?_⟩
   rcases this.2 with h2 | ⟨h2, h3, h4⟩
   ·exact h2
   ·exfalso
    cases hb : suGood (f 1) 1 with
    | true => have := ho hb; omega
    | false =>
     unfold suCh at h3
     rw [hb] at h3
     have hp := suGood_put g (slotOf g) (st.length : Int) (jnBase st) hg (headOk g st hs) (jnBase_len _) 0
     rw [decide_eq_true e] at hp
     rw [show suPutL g (slotOf g) (st.length : Int) (jnBase st) = headB g st from rfl] at hp hput h3
     rw [hp, if_pos ⟨rfl, .inl rfl⟩, hput.2] at h3
     rw [← h3] at h4
     exact absurd h4 (by simp)
  ·have e0 : g % 2 = 1 := by omega
   have e1 : (g + 1) % 2 = 0 := by omega
   rw [e0] at hh
   rw [e1] at ho
   have := (hold (f 0) hg (headOk g st hs) (jnBase_len _)).2 e0
   rw [hh]
   refine ⟨this.1, ?_⟩
   rcases this.2 with h2 | ⟨h2, h3, h4⟩
   ·exact h2
   ·exfalso
    cases hb : suGood (f 0) 0 with
    | true => have := ho hb; omega
    | false =>
     unfold suCh at h3
     rw [hb] at h3
     have hp := suGood_put g (slotOf g) (st.length : Int) (jnBase st) hg (headOk g st hs) (jnBase_len _) 1
     rw [decide_eq_true e0] at hp
     rw [show suPutL g (slotOf g) (st.length : Int) (jnBase st) = headB g st from rfl] at hp hput h3
     rw [if_neg (by simp), if_pos hp, hput.2] at h3
     rw [← h3] at h4
     exact absurd h4 (by simp)
 have eS : jnLoadS D = headSu g st := by unfold jnLoadS; rw [r0, r1]; exact key.2
 have hsec : secs st ≤ 48 := by unfold secs; omega
 have hpl : placeOf g = 2 ∨ placeOf g = 50 := by unfold placeOf; split <;> simp
 have eH : jnHad D (jnLoadS D) = st := by
  refine jnHad_of D st _ (by rw [eS]; rfl) (fun i hi => ?_)
  rw [eS, show (headSu g st).s = slotOf g from rfl, slotOf_place]
  have hi' : i < secs st := hi
  have := hf (placeOf g + i) (by omega)
  rw [show ((placeOf g : Nat) : Int) + (i : Int) = ((placeOf g + i : Nat) : Int) by omega, this, h.state i hi']
 refine ⟨?_, eS, eH, ?_⟩
 ·unfold jnLoadE
  rw [if_neg (by simp [hD]), if_neg (by omega), r0, r1, key.1, if_neg (by simp), eH, eS, if_neg (by simp [headSu])]
 ·unfold jnLoadR
  rw [eS]
  show jnRecs D g (D.s.length - 98) 0 (jnBase st) = R.take d
  have ht : (R.take d).length = d := by simp; omega
  rw [jnRecs_chain D g (R.take d) (D.s.length - 98) 0 (jnBase st) (rcChain_take g R _ 0 d hR) (by omega) (fun j hj => by
   have hj' : j < d := by omega
   have := hf (98 + j) (by omega)
   rw [show (98 : Int) + ((0 + j : Nat) : Int) = ((98 + j : Nat) : Int) by omega, this, h.recs j hj']
   congr 1
   simp [List.getD, List.getElem?_take, hj'])]
  rw [ht]
  have : jnRecs D g (D.s.length - 98 - d) (0 + d) (rcEnd (jnBase st) (R.take d)) = [] := by
   by_cases hlt : d < D.s.length - 98
   ·refine jnRecs_end _ _ _ _ _ ?_
    have := hf (98 + d) (by omega)
    rw [show (98 : Int) + ((0 + d : Nat) : Int) = ((98 + d : Nat) : Int) by omega, this]
    exact (hend hlt).fol _ _
   ·rw [show D.s.length - 98 - d = 0 by omega]; rfl
  rw [this, List.append_nil]
set_option maxHeartbeats 1000000
structure Ac where
 k : Int
 n : Int
 e : Ev
 s : List UInt8
structure Py where
 J : Jn
 D : Dk
 todo : List Jb
 fl : List Bool
 sts : List (List UInt8)
 evs : List (List Ev)
def pyAppE (p : Py) (e : Ev) : Int := jnAppE p.J e.k e.c e.b.length
def pyApp (p : Py) (e : Ev) : Py := { p with J := jnApp p.J 1 e.t e.k e.c e.b, evs := if pyAppE p e = 0 then p.evs.set (p.evs.length - 1) (p.evs.getD (p.evs.length - 1) [] ++ [e]) else p.evs }
def pyAsk (p : Py) : Py := { p with J := (jnAsk p.J).1, todo := if (jnAsk p.J).2.2.2 = true then p.todo ++ [(jnAsk p.J).2.1] else p.todo, fl := if (jnAsk p.J).2.2.2 = true then p.fl ++ [(jnAsk p.J).2.2.1] else p.fl }
def pyHit (p : Py) (k : Nat) : Dk := if p.fl.getD k false = true then dkFlush p.D else dkWrite p.D (p.todo.getD k (0, [])).1 (p.todo.getD k (0, [])).2
def pyHitE (p : Py) (k : Nat) : Int := if p.fl.getD k false = true then dkE p.D else dkWriteE p.D (p.todo.getD k (0, [])).1 (p.todo.getD k (0, [])).2
def pyOne (p : Py) (k : Nat) : Py := { p with D := pyHit p k, J := jnCame p.J (decide (pyHitE p k = 0)), todo := p.todo.eraseIdx k, fl := p.fl.eraseIdx k }
def pyNone (p : Py) (n : Int) : Bool := decide (p.todo.length = 0 ∨ n < 0)
def pyIdx (p : Py) (n : Int) : Nat := n.toNat % p.todo.length
def pyHits (p : Py) (n : Int) : Py := if pyNone p n = true then p else pyOne p (pyIdx p n)
def pySave (p : Py) (s : List UInt8) : Py := { p with J := jnSave p.J s, sts := if jnSaveE p.J s = 0 then p.sts ++ [s] else p.sts, evs := if jnSaveE p.J s = 0 then p.evs ++ [[]] else p.evs }
def pyDo (p : Py) (a : Ac) : Py := if a.k = 0 then pyApp p a.e else if a.k = 1 then pyAsk p else if a.k = 2 then pyHits p a.n else if a.k = 3 then pySave p a.s else p
def pyR (p : Py) (a : Ac) : Bool := if a.k = 2 ∧ pyNone p a.n = false then decide (jnCameE p.J = 0) else true
def pyFirst : List UInt8 := [102, 105, 114, 115, 116]
def pyBegin (n : Nat) : Py := ⟨jnBegin 1 0 (jnBase pyFirst) ((n - 98 : Nat) : Int), jnFmt pyFirst (n : Int), [], [], [[], pyFirst], [[], []]⟩
def wrLog (R : List Rc) (i : Nat) : Jb := (((98 + i : Nat) : Int), rcPutL (R.getD i rcZ))
def wrSlot (g : Nat) (st : List UInt8) (i : Nat) : Jb := (((placeOf g + i : Nat) : Int), jnSec st i)
def wrHead (g : Nat) (st : List UInt8) (i : Nat) : Jb := (((g % 2 : Nat) : Int), headB g st)
def secOf (D : Dk) (i : Nat) : List UInt8 := D.s.getD i []
structure Und (wr : Nat → Jb) (lo hi : Nat) (fz : Bool) (D : Dk) (todo : List Jb) (fl : List Bool) (jobs : List Jb) : Prop where
 form : if fz = true then jobs = [] ∧ todo = [(0, [])] ∧ fl = [true] else fl = List.replicate todo.length false
 sub : ∀ x ∈ D.k ++ (if fz = true then [] else todo ++ jobs), ∃ i, lo ≤ i ∧ i < hi ∧ x = wr i
 all : ∀ i, lo ≤ i → i < hi → wr i ∈ D.k ++ (if fz = true then [] else todo ++ jobs)
 len : (D.k ++ (if fz = true then [] else todo ++ jobs)).length ≤ hi - lo
theorem dkLast_any (l : List (Int × List UInt8)) (i : Int) : ∀ n j, j < n → (l.getD j (0, [])).1 = i → ∃ b, dkLast l (fun _ => true) i n = some b
 | 0, j, h, _ => by omega
 | n + 1, j, h, hj => by
  unfold dkLast
  by_cases e : (l.getD n (0, [])).1 = i
  ·exact ⟨_, if_pos ⟨rfl, e⟩⟩
  ·rw [if_neg (fun hh => e hh.2)]
   have : j ≠ n := fun h => e (h ▸ hj)
   exact dkLast_any l i n j (by omega) hj
theorem erase_perm {l : List Jb} {k : Nat} (hk : k < l.length) : (l[k] :: l.eraseIdx k).Perm l := by
 have e : l = l.take k ++ l[k] :: l.drop (k + 1) := by rw [← List.drop_eq_getElem_cons hk, List.take_append_drop]
 rw [List.eraseIdx_eq_take_drop_succ]
 conv => rhs; rw [e]
 exact List.perm_middle.symm
theorem mem_getD {l : List Jb} {x : Jb} (h : x ∈ l) : ∃ j, j < l.length ∧ l.getD j (0, []) = x := by
 obtain ⟨j, hj, e⟩ := List.mem_iff_getElem.1 h
 exact ⟨j, hj, by simp [List.getD, hj, e]⟩
theorem getD_mem {l : List Jb} {j : Nat} (h : j < l.length) : l.getD j (0, []) ∈ l := by
 simp [List.getD, h]
section
variable {wr : Nat → Jb} {lo hi : Nat} {fz : Bool} {D : Dk} {todo : List Jb} {fl : List Bool} {jobs : List Jb}
theorem und_at (h : Und wr lo hi fz D todo fl jobs) (kept : Nat → Bool) (a : Nat) : dkAt D kept a = secOf D a ∨ ∃ i, lo ≤ i ∧ i < hi ∧ (wr i).1 = (a : Int) ∧ dkAt D kept a = (wr i).2 := by
 rcases dkAt_or D kept a with e | ⟨j, hj, e1, e2⟩
 ·exact .inl e
 ·obtain ⟨i, h1, h2, h3⟩ := h.sub _ (List.mem_append_left _ (getD_mem hj))
  exact .inr ⟨i, h1, h2, by rw [← h3, e1], by rw [← h3, e2]⟩
theorem und_all (h : Und wr lo hi true D todo fl jobs) (hinj : ∀ i j, (wr i).1 = (wr j).1 → (wr i).2 = (wr j).2) (i : Nat) (h1 : lo ≤ i) (h2 : i < hi) (a : Nat) (ha : (wr i).1 = (a : Int)) : dkAt D (fun _ => true) a = (wr i).2 := by
 have hm := h.all i h1 h2
 simp only [if_pos, List.append_nil] at hm
 obtain ⟨j, hj, e⟩ := mem_getD hm
 obtain ⟨b, hb⟩ := dkLast_any D.k (a : Int) D.k.length j hj (by rw [e, ha])
 obtain ⟨j2, h3, h4, h5⟩ := dkLast_mem D.k _ _ _ (Nat.le_refl _) _ hb
 unfold dkAt
 rw [hb, Option.getD_some, ← h5]
 obtain ⟨i2, -, -, e2⟩ := h.sub _ (List.mem_append_left _ (getD_mem h3))
 rw [e2] at h4 ⊢
 exact hinj _ _ (h4.trans ha.symm)
theorem und_ask {x : Jb} (h : Und wr lo hi false D todo fl (x :: jobs)) : Und wr lo hi false D (todo ++ [x]) (fl ++ [false]) jobs := by
 obtain ⟨h1, h2, h3, h4⟩ := h
 simp only [Bool.false_eq_true, if_false] at h1 h2 h3 h4
 have e : todo ++ [x] ++ jobs = todo ++ x :: jobs := by simp
 refine ⟨?_, ?_, ?_, ?_⟩ <;> simp only [Bool.false_eq_true, if_false]
 ·rw [h1, List.length_append, List.length_singleton, List.replicate_succ']
 ·rw [e]; exact h2
 ·rw [e]; exact h3
 ·rw [e]; exact h4
theorem und_flush (h : Und wr lo hi false D [] fl []) : Und wr lo hi true D [(0, [])] (fl ++ [true]) [] := by
 obtain ⟨h1, h2, h3, h4⟩ := h
 simp only [Bool.false_eq_true, if_false, List.append_nil] at h1 h2 h3 h4
 simp only [List.length_nil, List.replicate_zero] at h1
 subst h1
 refine ⟨?_, ?_, ?_, ?_⟩ <;> simp
 ·simpa using h2
 ·simpa using h3
 ·exact h4
theorem und_hit (h : Und wr lo hi false D todo fl jobs) (k : Nat) (hk : k < todo.length) : Und wr lo hi false ⟨D.s, D.k ++ [todo.getD k (0, [])]⟩ (todo.eraseIdx k) (fl.eraseIdx k) jobs := by
 obtain ⟨h1, h2, h3, h4⟩ := h
 simp only [Bool.false_eq_true, if_false] at h1 h2 h3 h4
 have hp : (D.k ++ [todo.getD k (0, [])] ++ (todo.eraseIdx k ++ jobs)).Perm (D.k ++ (todo ++ jobs)) := by
  have e : todo.getD k (0, []) = todo[k] := by simp [List.getD, hk]
  rw [e, List.append_assoc]
  refine List.Perm.append_left _ ?_
  rw [← List.append_assoc]
  exact List.Perm.append_right _ (erase_perm hk)
 refine ⟨?_, ?_, ?_, ?_⟩ <;> simp only [Bool.false_eq_true, if_false]
 ·rw [h1, List.length_eraseIdx_of_lt hk]
  apply List.ext_getElem
  ·rw [List.length_eraseIdx_of_lt (by simpa using hk)]; simp
  ·intro i hi1 hi2; simp [List.getElem_eraseIdx]
 ·exact fun x hx => h2 x (hp.mem_iff.1 hx)
 ·exact fun i a b => hp.mem_iff.2 (h3 i a b)
 ·rw [hp.length_eq]; exact h4
theorem und_k (h : Und wr lo hi fz D todo fl jobs) : D.k.length ≤ hi - lo := by have := h.len; rw [List.length_append] at this; omega
theorem und_t (h : Und wr lo hi false D todo fl jobs) : D.k.length + todo.length + jobs.length ≤ hi - lo := by have := h.len; simp only [Bool.false_eq_true, if_false, List.length_append] at this; omega
theorem und_todo (h : Und wr lo hi false D todo fl jobs) (k : Nat) (hk : k < todo.length) : ∃ i, lo ≤ i ∧ i < hi ∧ todo.getD k (0, []) = wr i := h.sub _ (by simp only [Bool.false_eq_true, if_false]; exact List.mem_append_right _ (List.mem_append_left _ (getD_mem hk)))
end
end Go.Proofs.YtpahicfnhhhifaaGreat
