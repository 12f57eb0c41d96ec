/-
 Proved here, for the statement JournalLoads:
 Layer 13: Choose of the package.
 Layer 13: the document's Put.
-/
import Derived.Test.YtpahicfnhhhifaaGreatGl08
set_option linter.unusedVariables false
set_option linter.unusedSimpArgs false
namespace Go.Proofs.YtpahicfnhhhifaaGreat
set_option maxRecDepth 20000
open Go.RowKit
set_option maxHeartbeats 8000000
def chStep (X : List UInt8) (h : Nat) (q : Bool × Su) : Bool × Su := if suGood X h = true ∧ (q.1 = false ∨ q.2.g < (suGet X).g) then (true, suGet X) else q
def chAt (a b : List UInt8) : Nat → Bool × Su
 | 0 => (false, suZ)
 | k + 1 => chStep (if k = 0 then a else b) k (chAt a b k)
theorem chAt_two (a b : List UInt8) : suChE a b = (if (chAt a b 2).1 = true then 0 else 7) ∧ suCh a b = (if (chAt a b 2).1 = true then (chAt a b 2).2 else suZ) := by
 have e : chAt a b 2 = chStep b 1 (chStep a 0 (false, suZ)) := rfl
 rw [e]
 unfold suChE suCh chStep
 cases ha : suGood a 0 <;> cases hb : suGood b 1
 ·simp
 ·simp
 ·simp
 ·have h1 := of_decide_eq_true ha
  have h2 := of_decide_eq_true hb
  by_cases hlt : (suGet a).g < (suGet b).g
  ·have : ¬ (suGet b).g < (suGet a).g := by omega
   simp [hlt, this]
  ·have : (suGet b).g < (suGet a).g := by omega
   simp [hlt, this]
theorem chStep_len (X : List UInt8) (h : Nat) (q : Bool × Su) (hq : q.2.D.length = 32) : (chStep X h q).2.D.length = 32 := by
 unfold chStep; split
 ·exact suGet_len _
 ·exact hq
theorem chStep_g (X : List UInt8) (h : Nat) (q : Bool × Su) (hq : q.2.g < 4294967296) : (chStep X h q).2.g < 4294967296 := by
 unfold chStep; split
 ·exact (suGet_bounds _).1
 ·exact hq
theorem chAt_len (a b : List UInt8) : ∀ k, (chAt a b k).2.D.length = 32
 | 0 => rfl
 | k + 1 => chStep_len _ _ _ (chAt_len a b k)
theorem chAt_g (a b : List UInt8) : ∀ k, (chAt a b k).2.g < 4294967296
 | 0 => by simp [chAt, suZ]
 | k + 1 => chStep_g _ _ _ (chAt_g a b k)
theorem allocZ (w : World) : (w.alloc (.cells zz1 33)).heap[w.heap.size]? = some (.cells suZ.v 33 (0, 0)) := by rw [suZ_v]; exact row1 ..
theorem Su.size (x y : Su) (h : x.D.length = 32) (k : y.D.length = 32) : x.v.size = y.v.size := by unfold Su.v; rw [suVn, suVn, h, k]
theorem Su.cell0 {w : World} {g : Nat} {x : Su} {T : TypeId} {m : Nat × Nat} (h : w.heap[g]? = some (.cells x.v T m)) : w.cell? ⟨g, 0, none⟩ = some (.int .u32 x.g) := (cell_of_row w _ 0 _ _ _ h).trans (suV0 ..)
theorem storedZ {w V : World} (cs : Array Value) (h : V = (w.alloc (.cells zz1 33)).setRow w.heap.size cs) :
  V.heap[w.heap.size]? = some (.cells cs 33 (0, 0)) ∧ Below w.heap.size w V ∧ V.heap.size = w.heap.size + 1 := by
 subst h
 exact ⟨setRow_heap _ _ _ cs _ _ (allocZ w), below_setRow ((below_self w).alloc (Nat.le_refl _) _) (Nat.le_refl _) _, by simp⟩
def ChI (w : World) (g6 : Nat) (a b : List UInt8) (v7 v15 : Value) (wr : World) : Prop :=
 ∃ k : Nat, k ≤ 2 ∧ v15 = .int .i64 k ∧ v7 = .bool (chAt a b k).1 ∧ wr.heap[g6]? = some (.cells (chAt a b k).2.v 33 (0, 0)) ∧ wr.heap[w.heap.size]? = some (.cells suZ.v 33 (0, 0)) ∧ Below w.heap.size w wr ∧ g6 < wr.heap.size
theorem suChoose_any (A : Option Addr) (n c : Nat) (xs : List UInt8) (B : Option Addr) (m d : Nat) (ys : List UInt8) (w : World) (ha : RdB w A n c xs) (hb : RdB w B m d ys) :
  Calls Tryz.prog 70 #[.slice A n c, .slice B m d] w (RetSu w (suCh xs ys) (suChE xs ys)) := by
 have i0 : ∀ W : World, (Instr.index 158 (.agg #[.slice A n c, .slice B m d]) (.int .i64 ((0 : Nat) : Int))).run Tryz.prog W = .ok (.slice A n c) W := fun _ => by kernel_rfl
 have i1 : ∀ W : World, (Instr.index 158 (.agg #[.slice A n c, .slice B m d]) (.int .i64 ((1 : Nat) : Int))).run Tryz.prog W = .ok (.slice B m d) W := fun _ => by kernel_rfl
 have I0 := Lib.hid i0
 have I1 := Lib.hid i1
 clear i0 i1
 go_enter Tryz.func70, Tryz.ntmps70
 go_wp2_with fail
 obtain ⟨W, hW⟩ : ∃ W, W = (w.alloc (.cells zz1 33)).alloc (.cells zz1 33) := ⟨_, rfl⟩
 have bW : Below w.heap.size w W := by rw [hW]; exact ((below_self w).alloc (Nat.le_refl _) _).alloc (by simp) _
 have h4 : W.heap[w.heap.size]? = some (.cells suZ.v 33 (0, 0)) := by rw [hW, suZ_v]; exact row2a ..
 have h6 : W.heap[w.heap.size + 1]? = some (.cells suZ.v 33 (0, 0)) := by rw [hW, suZ_v]; exact row2b ..
 have hz : w.heap.size + 1 < W.heap.size := by rw [hW]; simp
 rw [← hW]
 clear hW
 go_loopw [7, 15] (ChI w (w.heap.size + 1) xs ys) (fun _ i _ => 2 - (intOf i).toNat)
 case atStart => exact ⟨0, by omega, rfl, rfl, h6, h4, bW, hz⟩
 case round =>
  obtain ⟨k, hk, rfl, rfl, hrow6, hrow4, hbr, hzr⟩ := hrel
  have hln := chAt_len xs ys k
  have hg9 := chAt_g xs ys k
  by_cases hlt : k < 2
  ·obtain ⟨X, hX⟩ : ∃ X, (if k = 0 then xs else ys) = X := ⟨_, rfl⟩
   have hx : ∃ AX nX cX, RdB wr AX nX cX X ∧ ∀ W : World, (Instr.index 158 (.agg #[.slice A n c, .slice B m d]) (.int .i64 (k : Int))).run Tryz.prog W = .ok (.slice AX nX cX) W := by
    rcases (by omega : k = 0 ∨ k = 1) with rfl | rfl
    ·exact ⟨A, n, c, hX ▸ ha.below hbr, I0.out⟩
    ·exact ⟨B, m, d, hX ▸ hb.below hbr, I1.out⟩
   obtain ⟨AX, nX, cX, hrX, iX⟩ := hx
   have hnext : chAt xs ys (k + 1) = chStep X k (chAt xs ys k) := by rw [chAt, hX]
   generalize chAt xs ys k = q at *
   obtain ⟨F, Bq⟩ := q
   simp only at hln hg9 hrow6 ⊢
   have HN := Lib.hid hnext
   have HL := Lib.hid hln
   have H6 := Lib.hid hrow6
   have H4 := Lib.hid hrow4
   clear hX hnext hln hrow6 hrow4 h4 h6 hz
   obtain ⟨x, hxx⟩ : ∃ x, suGet X = x := ⟨_, rfl⟩
   obtain ⟨E, hE⟩ : ∃ E, suGetE X = E := ⟨_, rfl⟩
   have hxl := suGet_len X
   have hxg := (suGet_bounds X).1
   rw [hxx] at hxl hxg
   have hgood : suGood X k = decide (E = 0 ∧ x.g % 2 = k) := by unfold suGood; rw [hxx, hE]
   have hh := suGet_any AX nX cX X wr hrX
   rw [hxx, hE] at hh
   have HH := Lib.hid hh
   have HG := Lib.hid hgood
   have HX := Lib.hid hxx
   have HXL := Lib.hid hxl
   clear hh hgood hxx hE hxl
   go_wp2_with fail
   refine HH.out.mono ?_
   rintro e w1 ⟨rfl, hb1⟩
   have z1 := hb1.size
   have r6 := (hb1.block _ hzr).trans H6.out
   have r4 := (hb1.block _ (by omega)).trans H4.out
   have R6 := Lib.hid r6
   have R4 := Lib.hid r4
   have HAZ := Lib.hid (allocZ w1)
   clear r6 r4
   by_cases he : E = 0
   ·subst he
    by_cases hp : x.g % 2 = k
    ·have hgd : suGood X k = true := by rw [HG.out]; exact decide_eq_true ⟨rfl, hp⟩
     have hq : (((x.g % 2 : Nat) : Int) != (k : Int)) = false := by rw [hp]; simp
     have HGD := Lib.hid hgd
     clear hgd hp
     go_wp2_with (refine wpList_store_row rfl 33 _ _ rfl w1.heap.size x.v rfl rfl 33 suZ.v HAZ.out (x.info HXL.out) (Su.size _ _ suZ_len HXL.out) (suV_one ..) ?_; obtain ⟨V, hV⟩ : ∃ V, V = (w1.alloc (.cells zz1 33)).setRow w1.heap.size x.v := ⟨_, rfl⟩; rw [← hV]; obtain ⟨hVr, hVb, hVz⟩ := storedZ _ hV; have cV := Su.cell0 hVr; have HVR := Lib.hid hVr; clear hV hVr)
     refine (suHome_any x.g V hxg).mono ?_
     rintro e w2 ⟨rfl, rfl⟩
     have r6V := (hVb.block _ (by omega)).trans R6.out
     have r4V := (hVb.block _ (by omega)).trans R4.out
     have R6V := Lib.hid r6V
     have R4V := Lib.hid r4V
     have c6V := Su.cell0 r6V
     have BV := below_then hbr (below_then hb1 hVb)
     have hzV : w.heap.size + 1 < V.heap.size := by omega
     clear r6V r4V
     cases F with
     | false =>
      have hst : chStep X k (false, Bq) = (true, x) := by unfold chStep; rw [if_pos ⟨HGD.out, .inl rfl⟩, HX.out]
      have HST := Lib.hid hst
      clear hst
      go_wp2_with (first
       | (refine wpList_load_row rfl 33 _ rfl w1.heap.size rfl 33 x.v (0, 0) _ HVR.out Tryz.underlying33 rfl (x.info HXL.out) ?_)
       | (refine wpList_store_row rfl 33 _ _ rfl (w.heap.size + 1) x.v rfl rfl 33 Bq.v R6V.out (x.info HXL.out) (Su.size _ _ HL.out HXL.out) (suV_one ..) ?_))
      go_roundw
      case rel => exact ⟨k + 1, by omega, by go_num, by rw [HN.out, HST.out], by rw [HN.out, HST.out]; exact setRow_heap _ _ _ x.v _ _ R6V.out, (setRow_other _ _ _ _ (by omega)).trans R4V.out, below_setRow BV (by omega) _, by simp; omega⟩
      case measure => simp [intOf]; omega
     | true =>
      by_cases hgt : Bq.g < x.g
      ·have hst : chStep X k (true, Bq) = (true, x) := by unfold chStep; rw [if_pos ⟨HGD.out, .inr (by rw [HX.out]; exact hgt)⟩, HX.out]
       have HST := Lib.hid hst
       have dg : decide ((Bq.g : Int) < (x.g : Int)) = true := decide_eq_true (by omega)
       have dgn : decide (Bq.g < x.g) = true := decide_eq_true hgt
       clear hst hgt
       go_wp2_with (first
        | (refine wpList_load_row rfl 33 _ rfl w1.heap.size rfl 33 x.v (0, 0) _ HVR.out Tryz.underlying33 rfl (x.info HXL.out) ?_)
        | (refine wpList_store_row rfl 33 _ _ rfl (w.heap.size + 1) x.v rfl rfl 33 Bq.v R6V.out (x.info HXL.out) (Su.size _ _ HL.out HXL.out) (suV_one ..) ?_))
       go_roundw
       case rel => exact ⟨k + 1, by omega, by go_num, by rw [HN.out, HST.out], by rw [HN.out, HST.out]; exact setRow_heap _ _ _ x.v _ _ R6V.out, (setRow_other _ _ _ _ (by omega)).trans R4V.out, below_setRow BV (by omega) _, by simp; omega⟩
       case measure => simp [intOf]; omega
      ·have hst : chStep X k (true, Bq) = (true, Bq) := by unfold chStep; rw [if_neg (fun h => h.2.elim (fun h => by cases h) (fun h => hgt (by rw [HX.out] at h; exact h)))]
       have HST := Lib.hid hst
       have dg : decide ((Bq.g : Int) < (x.g : Int)) = false := decide_eq_false (by omega)
       have dgn : decide (Bq.g < x.g) = false := decide_eq_false hgt
       clear hst hgt
       go_wp2
       go_roundw
       case rel => exact ⟨k + 1, by omega, by go_num, by rw [HN.out, HST.out], by rw [HN.out, HST.out]; exact R6V.out, R4V.out, BV, hzV⟩
       case measure => simp [intOf]; omega
    ·have hgd : suGood X k = false := by rw [HG.out]; exact decide_eq_false (fun h => hp h.2)
     have hq : (((x.g % 2 : Nat) : Int) != (k : Int)) = true := by rw [bne_iff_ne]; omega
     have hst : chStep X k (F, Bq) = (F, Bq) := by unfold chStep; rw [if_neg (fun h => by rw [hgd] at h; cases h.1)]
     have HST := Lib.hid hst
     clear hgd hp hst
     go_wp2_with (refine wpList_store_row rfl 33 _ _ rfl w1.heap.size x.v rfl rfl 33 suZ.v HAZ.out (x.info HXL.out) (Su.size _ _ suZ_len HXL.out) (suV_one ..) ?_; obtain ⟨V, hV⟩ : ∃ V, V = (w1.alloc (.cells zz1 33)).setRow w1.heap.size x.v := ⟨_, rfl⟩; rw [← hV]; obtain ⟨hVr, hVb, hVz⟩ := storedZ _ hV; have cV := Su.cell0 hVr; have HVR := Lib.hid hVr; clear hV hVr)
     refine (suHome_any x.g V hxg).mono ?_
     rintro e w2 ⟨rfl, rfl⟩
     have r6V := (hVb.block _ (by omega)).trans R6.out
     have r4V := (hVb.block _ (by omega)).trans R4.out
     have R6V := Lib.hid r6V
     have R4V := Lib.hid r4V
     have BV := below_then hbr (below_then hb1 hVb)
     have hzV : w.heap.size + 1 < V.heap.size := by omega
     clear r6V r4V
     go_wp2
     go_roundw
     case rel => exact ⟨k + 1, by omega, by go_num, by rw [HN.out, HST.out], by rw [HN.out, HST.out]; exact R6V.out, R4V.out, BV, hzV⟩
     case measure => simp [intOf]; omega
   ·have hgd : suGood X k = false := by rw [HG.out]; exact decide_eq_false (fun h => he h.1)
    have hq : (E != 0) = true := by rw [bne_iff_ne]; exact he
    have hst : chStep X k (F, Bq) = (F, Bq) := by unfold chStep; rw [if_neg (fun h => by rw [hgd] at h; cases h.1)]
    have HST := Lib.hid hst
    clear hgd he hst
    go_wp2_with (refine wpList_store_row rfl 33 _ _ rfl w1.heap.size x.v rfl rfl 33 suZ.v HAZ.out (x.info HXL.out) (Su.size _ _ suZ_len HXL.out) (suV_one ..) ?_; obtain ⟨V, hV⟩ : ∃ V, V = (w1.alloc (.cells zz1 33)).setRow w1.heap.size x.v := ⟨_, rfl⟩; rw [← hV]; obtain ⟨hVr, hVb, hVz⟩ := storedZ _ hV; have cV := Su.cell0 hVr; have HVR := Lib.hid hVr; clear hV hVr)
    go_roundw
    have r6V := (hVb.block _ (by omega)).trans R6.out
    have r4V := (hVb.block _ (by omega)).trans R4.out
    have BV := below_then hbr (below_then hb1 hVb)
    case rel => exact ⟨k + 1, by omega, by go_num, by rw [HN.out, HST.out], by rw [HN.out, HST.out]; exact r6V, r4V, BV, by omega⟩
    case measure => simp [intOf]; omega
  ·obtain rfl : k = 2 := by omega
   obtain ⟨e1, e2⟩ := chAt_two xs ys
   generalize chAt xs ys 2 = q at *
   obtain ⟨F, Bq⟩ := q
   simp only at hln hg9 hrow6 e1 e2 ⊢
   have H6 := Lib.hid hrow6
   have H4 := Lib.hid hrow4
   have HL := Lib.hid hln
   cases F with
   | true =>
    have E1 := Lib.hid (e1.trans (if_pos rfl))
    have E2 := Lib.hid (e2.trans (if_pos rfl))
    clear hln hrow6 hrow4 h4 h6 hz e1 e2
    go_wp2_with (first
     | (refine wpList_load_row rfl 33 _ rfl (w.heap.size + 1) rfl 33 Bq.v (0, 0) _ H6.out Tryz.underlying33 rfl (Bq.info HL.out) ?_)
     | (refine wpList_store_row rfl 33 _ _ rfl w.heap.size Bq.v rfl rfl 33 suZ.v H4.out (Bq.info HL.out) (Su.size _ _ suZ_len HL.out) (suV_one ..) ?_))
    refine bodyPost_ret (results_row_tmp Tryz.results70 _ _ w.heap.size 33 Bq.v (0, 0) _ rfl (setRow_heap _ _ _ Bq.v _ _ H4.out) Tryz.underlying33 rfl (Bq.info HL.out)) rfl ?_
    exact ⟨by rw [E1.out, E2.out]; rfl, below_setRow hbr (Nat.le_refl _) _⟩
   | false =>
    have E1 := Lib.hid (e1.trans (if_neg (by decide)))
    have E2 := Lib.hid (e2.trans (if_neg (by decide)))
    clear hln hrow6 hrow4 h4 h6 hz e1 e2
    go_wp2_with (refine wpList_store_row rfl 33 _ _ rfl w.heap.size suZ.v rfl rfl 33 suZ.v H4.out (suZ.info suZ_len) rfl (suV_one ..) ?_)
    refine bodyPost_ret (results_row_tmp Tryz.results70 _ _ w.heap.size 33 suZ.v (0, 0) _ rfl (setRow_heap _ _ _ suZ.v _ _ H4.out) Tryz.underlying33 rfl (suZ.info suZ_len)) rfl ?_
    exact ⟨by rw [E1.out, E2.out]; rfl, below_setRow hbr (Nat.le_refl _) _⟩
set_option maxHeartbeats 8000000
theorem refsuPut_no (g : Nat) (s l : Int) (D : List UInt8) (w : World) (hs : -9223372036854775808 ≤ s ∧ s ≤ 9223372036854775807) (hD : D.length = 32) (hc : suCheck s l = false) :
  Calls Tryz.prog 57 #[.agg (suV g s l D)] w (RetBE w [] 2) := by
 obtain ⟨W, hW⟩ : ∃ W, W = w.alloc (.cells (suV g s l D) 33) := ⟨_, rfl⟩
 have bW : Below w.heap.size w W := by rw [hW]; exact (below_self w).alloc (Nat.le_refl _) _
 have HW := Lib.hid hW
 clear hW
 go_enter Tryz.func57, Tryz.ntmps57
 go_wp2_with (refine wpList_load_row rfl 33 _ rfl w.heap.size rfl 33 (suV g s l D) (0, 0) _ (row1 ..) Tryz.underlying33 rfl (suInfo g s l D hD) ?_)
 rw [← HW.out]
 have hh := refsuCheck_any g s l D W hs hD
 rw [hc] at hh
 refine hh.mono ?_
 rintro e w1 ⟨rfl, hb1⟩
 go_wp2
 go_ret2
 exact ⟨none, 0, 0, rfl, OwnB.nilB _ _, below_then bW hb1⟩
theorem refsuPut_yes (g s l : Nat) (D : List UInt8) (w : World) (hg : g < 4294967296) (hD : D.length = 32) (hc : suCheck (s : Int) (l : Int) = true) :
  Calls Tryz.prog 57 #[.agg (suV g s l D)] w (RetBE w (suL g s l D) 0) := by
 have hc' := of_decide_eq_true hc
 obtain ⟨W0, hW⟩ : ∃ W, W = w.alloc (.cells (suV g s l D) 33) := ⟨_, rfl⟩
 have bW0 : Below w.heap.size w W0 := by rw [hW]; exact (below_self w).alloc (Nat.le_refl _) _
 have hrow0 : W0.heap[w.heap.size]? = some (.cells (suV g s l D) 33 (0, 0)) := by rw [hW]; exact row1 ..
 have hz0 : w.heap.size < W0.heap.size := by rw [hW]; simp
 have HW := Lib.hid hW
 have HR0 := Lib.hid hrow0
 clear hW hrow0
 go_enter Tryz.func57, Tryz.ntmps57
 go_wp2_with (refine wpList_load_row rfl 33 _ rfl w.heap.size rfl 33 (suV g s l D) (0, 0) _ (row1 ..) Tryz.underlying33 rfl (suInfo g s l D hD) ?_)
 rw [← HW.out]
 have hh := refsuCheck_any g s l D W0 (by omega) hD
 rw [hc] at hh
 refine hh.mono ?_
 clear hh
 rintro e W ⟨rfl, hb1⟩
 have bW := below_then bW0 hb1
 have hz : w.heap.size < W.heap.size := Nat.lt_of_lt_of_le hz0 hb1.size
 have hrow := (hb1.block _ hz0).trans HR0.out
 have c0 := (cell_of_row W _ 0 _ _ _ hrow).trans (suV0 g s l D)
 have c1 := (cell_of_row W _ 1 _ _ _ hrow).trans (suV1 g s l D)
 have c2 := (cell_of_row W _ 2 _ _ _ hrow).trans (suV2 g s l D)
 have rD := suDig hrow hD
 have C1 := Lib.hid c1
 have C2 := Lib.hid c2
 clear hrow c1 c2
 have w8 : IntKind.u8.wrap (s : Int) = ((UInt8.ofNat s).toNat : Int) := by rw [UInt8.toNat_ofNat', IntKind.wrap_u8]; omega
 have wg := w64n (k := g) (by omega)
 have wl := w64n (k := l) (by omega)
 go_wp2_with fail
 refine named ?_
 intro W1 hW1
 have bW1 : Below W.heap.size W W1 := by rw [hW1]; repeat' (first | exact Below.refl _ _ | (refine Below.alloc ?_ ?_ _; rotate_left; (simp <;> omega)) | refine Below.drew ?_)
 have zW1 := bW1.size
 have HW1 := Lib.hid hW1
 clear hW1
 have o1 : OwnB W1 W.heap.size (some ⟨W.heap.size, 0, none⟩) 4 4 [80, 72, 83, 66] := by rw [HW1.out]; exact OwnB.lit _ _ _ _ rfl rfl (by simp [maxLen])
 refine (refLe_any g 4 W1 (by omega)).mono ?_
 rw [show clamp 4 = 4 from rfl]
 rintro e w2 ⟨A2, n2, c2, rfl, ho2, hb2⟩
 obtain rfl : n2 = 4 := by rw [← ho2.len, leB_length]
 have B2 := below_then bW1 hb2
 go_wp2_with (at_builtin; refine wp_appB rfl _ _ rfl B2 (Nat.le_refl _) B2.size (some ⟨W.heap.size, 0, none⟩) 4 4 [80, 72, 83, 66] rfl (o1.below hb2) A2 4 c2 (leB g 4) rfl ho2.rd (by omega) 8 ([80, 72, 83, 66] ++ leB g 4) rfl rfl ?_; intro A3 c3 w3 ho3 hb3 hg3; have j2 := (hb3.cell (p := ⟨w.heap.size, 2, none⟩) hz).trans C2.out)
 refine (refLe_any l 4 w3 (by omega)).mono ?_
 rw [show clamp 4 = 4 from rfl]
 rintro e w4 ⟨A4, n4, c4, rfl, ho4, hb4⟩
 obtain rfl : n4 = 4 := by rw [← ho4.len, leB_length]
 have B4 := hb3.trans (hb4.mono hb3.size)
 have z4 := B4.size
 clear j2
 go_wp2_with (first
  | (at_builtin; refine wp_appZ rfl _ _ rfl hb7 (Nat.le_refl _) hb7.size A7 45 c7 _ rfl ho7 207 .i64 _ rfl (by omega) (by omega) 252 (suB g s l D) rfl (by simp [suB, List.append_assoc]) ?_; intro A8 c8 w8 ho8 hb8 hg8)
  | (at_builtin; refine wp_appB rfl _ _ rfl hb6 (Nat.le_refl _) hb6.size A6 13 c6 _ rfl ho6 (some ⟨w.heap.size, 3, none⟩) 32 32 D rfl (rD.below hb6) (by omega) 45 ([80, 72, 83, 66] ++ leB g 4 ++ leB l 4 ++ [UInt8.ofNat s] ++ D) rfl rfl ?_; intro A7 c7 w7 ho7 hb7 hg7)
  | (at_builtin; refine wp_appB rfl _ _ rfl (hb5.alloc hb5.size _) (Nat.le_refl _) (by have := hb5.size; simp; omega) A5 12 c5 ([80, 72, 83, 66] ++ leB g 4 ++ leB l 4) rfl (ho5.alloc _) (some ⟨w5.heap.size, 0, none⟩) 1 1 [UInt8.ofNat s] rfl (rdK rfl _ _ _ (by rfl) rfl (by simp [maxLen])) (by omega) 13 ([80, 72, 83, 66] ++ leB g 4 ++ leB l 4 ++ [UInt8.ofNat s]) rfl rfl ?_; intro A6 c6 w6 ho6 hb6 hg6)
  | (at_builtin; refine wp_appB rfl _ _ rfl B4 (Nat.le_refl _) B4.size A3 8 c3 ([80, 72, 83, 66] ++ leB g 4) rfl (ho3.below hb4) A4 4 c4 (leB l 4) rfl ho4.rd (by omega) 12 ([80, 72, 83, 66] ++ leB g 4 ++ leB l 4) rfl rfl ?_; intro A5 c5 w5 ho5 hb5 hg5; have j1 := (hb5.cell (p := ⟨w.heap.size, 1, none⟩) hz).trans C1.out))
 refine (refClosed_any A8 252 c8 _ w8 ho8.rd (by omega)).mono ?_
 rintro e w9 ⟨A9, n9, c9, rfl, ho9, hb9⟩
 go_wp2
 go_ret2
 exact ⟨_, _, _, rfl, OwnB.mono ho9 (Nat.le_trans bW.size hb8.size), below_then bW (hb8.trans (hb9.mono hb8.size))⟩
theorem refsuPut_any (g : Nat) (s l : Int) (D : List UInt8) (w : World) (hg : g < 4294967296) (hs : -9223372036854775808 ≤ s ∧ s ≤ 9223372036854775807) (hD : D.length = 32) :
  Calls Tryz.prog 57 #[.agg (suV g s l D)] w (RetBE w (suPutL g s l D) (suPutE s l)) := by
 unfold suPutL suPutE
 cases h : suCheck s l with
 | false => rw [if_neg (by decide), if_neg (by decide)]; exact refsuPut_no g s l D w hs hD h
 | true =>
  rw [if_pos rfl, if_pos rfl]
  have hc' := of_decide_eq_true h
  obtain ⟨p, rfl⟩ : ∃ p : Nat, s = (p : Int) := ⟨s.toNat, by omega⟩
  obtain ⟨q, rfl⟩ : ∃ q : Nat, l = (q : Int) := ⟨l.toNat, by omega⟩
  exact refsuPut_yes g p q D w hg hD h
set_option maxHeartbeats 8000000
def digP (D : List UInt8) (k : Nat) : List UInt8 := D.take k ++ List.replicate (32 - k) 0
theorem digP_zero (D : List UInt8) : digP D 0 = List.replicate 32 0 := by simp [digP]
theorem digP_all (D : List UInt8) (h : D.length = 32) : digP D 32 = D := by simp [digP, List.take_of_length_le (show D.length ≤ 32 by omega)]
theorem digP_at (D : List UInt8) (k : Nat) (h : k < 32) (hD : D.length = 32) : ((digP D k).map vB)[k]? = some (.int .u8 0) := by
 have ht : (D.take k).length = k := by rw [List.length_take]; omega
 rw [List.getElem?_map, digP, List.getElem?_append_right (by omega), ht, Nat.sub_self]
 simp [show 0 < 32 - k by omega, vB]
theorem digP_set (g : Nat) (s l : Int) (D : List UInt8) (k : Nat) (h : k < 32) (hD : D.length = 32) : (suV g s l (digP D k)).setIfInBounds (3 + k) (.int .u8 ((D.getD k 0).toNat : Int)) = suV g s l (digP D (k + 1)) := by
 have e : (digP D k).set k (D.getD k 0) = digP D (k + 1) := by
  unfold digP
  have ht : (D.take k).length = k := by rw [List.length_take]; omega
  rw [List.set_append_right _ _ (by omega), ht, Nat.sub_self, show 32 - k = (32 - (k + 1)) + 1 by omega, List.replicate_succ, List.set_cons_zero, take_snoc D k (by omega)]
  rw [List.append_assoc]
  congr 1
  simp [List.getD, show k < D.length by omega]
 rw [← e]
 unfold suV
 apply Array.ext'
 rw [Array.toList_setIfInBounds]
 simp only [Array.toList_append, List.map_set, vB]
 rw [List.set_append_right _ _ (by simp)]
 simp
theorem build_su0 (w : World) (g : Nat) (s l : Int) : (Instr.build 33 #[(0, .int .u32 g), (2, .int .i64 l), (1, .int .i64 s)]).run Tryz.prog w = .ok (.agg (suV g s l (List.replicate 32 0))) w :=
 run_build w _ _ _ (by kernel_rfl)
def RGetI (W : World) (zz gL G S L : Nat) (D : List UInt8) (v : Value) (wr : World) : Prop :=
 ∃ k : Nat, k ≤ 32 ∧ v = .int .i64 (k : Nat) ∧ wr.heap[gL]? = some (.cells (suV G S L (digP D k)) 33 (0, 0)) ∧ Below W.heap.size W wr ∧ zz ≤ wr.heap.size
theorem refsuGet_early (A : Option Addr) (n c : Nat) (xs : List UInt8) (w : World) (hr : RdB w A n c xs) (h : n ≠ 256) :
  Calls Tryz.prog 117 #[.slice A n c] w (RetSu w suZ 2) := by
 have hn := hr.n63
 have d1 : ((n : Int) != 256) = true := by rw [bne_iff_ne]; omega
 go_enter Tryz.func117, Tryz.ntmps117
 have hrow : (w.alloc (.cells zz1 33)).heap[w.heap.size]? = some (.cells suZ.v 33 (0, 0)) := by rw [suZ_v]; exact row1 ..
 have HR := Lib.hid hrow
 clear hrow h
 go_wp2_with (refine wpList_store_row rfl 33 _ _ rfl w.heap.size suZ.v rfl rfl 33 suZ.v HR.out (suZ.info suZ_len) rfl (suV_one ..) ?_)
 refine bodyPost_ret (results_row_tmp Tryz.results117 _ _ w.heap.size 33 suZ.v (0, 0) _ rfl (setRow_heap _ _ _ suZ.v _ _ HR.out) Tryz.underlying33 rfl (suZ.info suZ_len)) rfl ?_
 exact ⟨rfl, below_setRow ((below_self w).alloc (Nat.le_refl _) _) (Nat.le_refl _) _⟩
theorem refsuGet_sum (A : Option Addr) (c : Nat) (xs : List UInt8) (w : World) (hr : RdB w A 256 c xs) (h : crcHolds xs = false) :
  Calls Tryz.prog 117 #[.slice A 256 c] w (RetSu w suZ 6) := by
 have d1 : ((256 : Int) != 256) = false := by decide
 have H := Lib.hid h
 clear h
 go_enter Tryz.func117, Tryz.ntmps117
 go_wp2_with fail
 refine named ?_
 intro W hW
 have bW : Below w.heap.size w W := by rw [hW]; repeat' (first | exact Below.refl _ _ | (refine Below.alloc ?_ ?_ _; rotate_left; (simp <;> omega)) | refine Below.drew ?_)
 have zW := bW.size
 have HW := Lib.hid hW
 clear hW
 have xW : w.heap.size < W.heap.size := by rw [HW.out]; simp
 have hrow : W.heap[w.heap.size]? = some (.cells suZ.v 33 (0, 0)) := by rw [HW.out, suZ_v]; exact row1 ..
 have hh := refHolds_any A 256 c xs W (hr.below bW) (by omega)
 rw [H.out] at hh
 refine hh.mono ?_
 clear hh
 rintro e w1 ⟨rfl, hb1⟩
 have hrow1 := (hb1.block _ xW).trans hrow
 go_wp2_with (refine wpList_store_row rfl 33 _ _ rfl w.heap.size suZ.v rfl rfl 33 suZ.v hrow1 (suZ.info suZ_len) rfl (suV_one ..) ?_)
 refine bodyPost_ret (results_row_tmp Tryz.results117 _ _ w.heap.size 33 suZ.v (0, 0) _ rfl (setRow_heap _ _ _ suZ.v _ _ hrow1) Tryz.underlying33 rfl (suZ.info suZ_len)) rfl ?_
 exact ⟨rfl, below_setRow (below_then bW hb1) (Nat.le_refl _) _⟩
theorem refsuGet_main (A : Option Addr) (c : Nat) (xs : List UInt8) (w : World) (hr : RdB w A 256 c xs) (h : crcHolds xs = true) :
  Calls Tryz.prog 117 #[.slice A 256 c] w (RetSu w (suGet xs) (suGetE xs)) := by
 have d1 : ((256 : Int) != 256) = false := by decide
 have hlen := hr.2.1
 have hc := hr.2.2.1
 have hc63 := hr.c63
 obtain ⟨b, o, u, rfl, hbl, _⟩ := hr.at_ 0 (by omega)
 have hcut : ∀ k j, k + j ≤ 256 → k < 256 → RdB w (some ⟨b, o + k, none⟩) j (c - k) ((xs.drop k).take j) := fun k j hkj hk => (hr.cutS k (256 - k) (by omega) (by omega)).take j (by omega)
 have r4 := hcut 4 4 (by omega) (by omega)
 have r8 := hcut 8 4 (by omega) (by omega)
 have r13 := hcut 13 32 (by omega) (by omega)
 have c12 := hr.cellS 12 (by omega)
 obtain ⟨b1, ⟨b2, b3⟩, ⟨b4, b5⟩, b6⟩ := suOf_bounds xs hlen
 obtain ⟨G, hG⟩ : ∃ G, lev ((xs.drop 4).take 4) = G := ⟨_, rfl⟩
 obtain ⟨L, hL⟩ : ∃ G, lev ((xs.drop 8).take 4) = G := ⟨_, rfl⟩
 obtain ⟨S, hS⟩ : ∃ G, (xs.getD 12 0).toNat = G := ⟨_, rfl⟩
 obtain ⟨D, hD⟩ : ∃ G, (xs.drop 13).take 32 = G := ⟨_, rfl⟩
 have hX : suOf xs = ⟨G, S, L, D⟩ := by unfold suOf; rw [hG, hL, hS, hD]
 rw [hX] at b1 b2 b3 b4 b5 b6
 simp only at b1 b2 b3 b4 b5 b6
 have hE : suGetE xs = if suCheck S L = true ∧ suPutL G S L D = xs then 0 else 3 := by
  unfold suGetE; rw [if_neg (by simp [hlen]), if_neg (by simp [h]), hX]
 have hGt : suGet xs = if suGetE xs = 0 then ⟨G, S, L, D⟩ else suZ := by unfold suGet; rw [hX]
 have f4 := fromLe_part xs 4
 have f8 := fromLe_part xs 8
 rw [hG] at f4
 rw [hL] at f8
 rw [hD] at r13
 rw [hS] at c12
 have F4 := Lib.hid f4
 have F8 := Lib.hid f8
 have wG : IntKind.u32.wrap (G : Int) = G := by rw [IntKind.wrap_u32]; omega
 have wL := wi64n (k := L) (by omega)
 have cb4 : ¬ (c = 4) := by omega
 have cb8 : ¬ (c = 8) := by omega
 have cb13 : ¬ (c = 13) := by omega
 have ci8 : (8 : Int) ≤ (c : Int) := by omega
 have ci12 : (12 : Int) ≤ (c : Int) := by omega
 have ci45 : (45 : Int) ≤ (c : Int) := by omega
 have H := Lib.hid h
 have HE := Lib.hid hE
 have HGt := Lib.hid hGt
 have HD := Lib.hid b6
 have HS9 := Lib.hid hlen
 have hSz : (S : Int) < 256 := by omega
 clear h hE hGt f4 f8 hX hG hL hS hD b6 hlen hcut
 have wS := wi64n (k := S) (by omega)
 obtain ⟨D0, hD0⟩ : ∃ Z : List UInt8, List.replicate 32 0 = Z := ⟨_, rfl⟩
 have HL0 := Lib.hid (show D0.length = 32 by rw [← hD0]; simp)
 have HD0 := Lib.hid hD0
 clear hD0
 go_enter Tryz.func117, Tryz.ntmps117
 go_wp2_with fail
 refine named ?_
 intro W0 hW0
 have bW0 : Below w.heap.size w W0 := by rw [hW0]; repeat' (first | exact Below.refl _ _ | (refine Below.alloc ?_ ?_ _; rotate_left; (simp <;> omega)) | refine Below.drew ?_)
 have zW0 := bW0.size
 have HW0 := Lib.hid hW0
 clear hW0
 have xW : w.heap.size < W0.heap.size := by rw [HW0.out]; simp
 have hrow0 : W0.heap[w.heap.size]? = some (.cells suZ.v 33 (0, 0)) := by rw [HW0.out, suZ_v]; exact row1 ..
 have hh := refHolds_any _ 256 c xs W0 (hr.below bW0) (by omega)
 rw [H.out] at hh
 refine hh.mono ?_
 clear hh
 rintro e W ⟨rfl, hb1⟩
 have bW := below_then bW0 hb1
 have hrow := (hb1.block _ xW).trans hrow0
 have xW1 : w.heap.size < W.heap.size := Nat.lt_of_lt_of_le xW hb1.size
 have HROW := Lib.hid hrow
 clear hrow hrow0
 have j12 := (bW.cell (p := ⟨b, o + 12, none⟩) hbl).trans c12
 have q4 := r4.below bW
 have q8 := r8.below bW
 have q13 := r13.below bW
 have hbW : b < W.heap.size := by omega
 clear r4 r8 r13 c12
 go_wp2_with fail
 refine wp_region_seg (S := fun w' => Below W.heap.size W w') 0 (brw9 15 32767) [(0, true), (1, true), (2, true), (3, true), (4, true), (5, true), (6, true), (7, true), (8, true), (9, true), (10, true), (11, true), (12, true), (13, false), (14, false)] (by kernel_rfl) (by kernel_rfl) (fun _ _ d _ _ h => by first | (cases d <;> exact h) | cases h.1) ((Below.refl W.heap.size W).drew) ?_
 have HB := (Below.refl W.heap.size W).drew
 iterate 2 (refine seg_take (v := ?_) rfl (Or.inl ⟨by rfl, ?_⟩) ?_; rotate_left; (focus (intro w' hw'; have jj := (hw'.cell (p := ⟨b, o + 12, none⟩) hbW).trans j12; go_simp <;> with_reducible rfl)); try simp only [Act.put, pst3])
 refine seg_pure (v := .int .u64 (G : Int)) (f := ?_) (args := ?_) rfl (by rfl) (fun w' hw' => ?_) (fun w' hw' => ?_) ?_
 rotate_left 2
 focus (have jj := (hw'.cell (p := ⟨b, o + 12, none⟩) hbW).trans j12; go_simp <;> first | (refine ⟨?_, ?_⟩ <;> with_reducible rfl) | with_reducible rfl)
 focus (exact (F4.out ▸ refFromLe_any _ _ _ _ w' (q4.below hw')))
 try simp only [Act.put, pst3]
 iterate 3 (refine seg_take (v := ?_) rfl (Or.inl ⟨by rfl, ?_⟩) ?_; rotate_left; (focus (intro w' hw'; have jj := (hw'.cell (p := ⟨b, o + 12, none⟩) hbW).trans j12; go_simp <;> with_reducible rfl)); try simp only [Act.put, pst3])
 refine seg_pure (v := .int .u64 (L : Int)) (f := ?_) (args := ?_) rfl (by rfl) (fun w' hw' => ?_) (fun w' hw' => ?_) ?_
 rotate_left 2
 focus (have jj := (hw'.cell (p := ⟨b, o + 12, none⟩) hbW).trans j12; go_simp <;> first | (refine ⟨?_, ?_⟩ <;> with_reducible rfl) | with_reducible rfl)
 focus (exact (F8.out ▸ refFromLe_any _ _ _ _ w' (q8.below hw')))
 try simp only [Act.put, pst3]
 iterate 5 (refine seg_take (v := ?_) rfl (Or.inl ⟨by rfl, ?_⟩) ?_; rotate_left; (focus (intro w' hw'; have jj := (hw'.cell (p := ⟨b, o + 12, none⟩) hbW).trans j12; go_simp <;> with_reducible rfl)); try simp only [Act.put, pst3])
 refine seg_take (v := .agg (suV G S L D0)) rfl (Or.inl ⟨by rfl, fun w' hw' => ?_⟩) ?_
 focus (exact ex_build rfl #[(0, .int .u32 (G : Int)), (2, .int .i64 (L : Int)), (1, .int .i64 (S : Int))] rfl (by have := build_su0 w' G S L; rwa [HD0.out] at this))
 try simp only [Act.put, pst3]
 refine seg_run rfl (fun K hK => ?_)
 rw [if_pos (by rfl)]
 refine op_new #[.int .u32 0, .int .i64 0, .int .i64 0, .int .u8 0, .int .u8 0, .int .u8 0, .int .u8 0, .int .u8 0, .int .u8 0, .int .u8 0, .int .u8 0, .int .u8 0, .int .u8 0, .int .u8 0, .int .u8 0, .int .u8 0, .int .u8 0, .int .u8 0, .int .u8 0, .int .u8 0, .int .u8 0, .int .u8 0, .int .u8 0, .int .u8 0, .int .u8 0, .int .u8 0, .int .u8 0, .int .u8 0, .int .u8 0, .int .u8 0, .int .u8 0, .int .u8 0, .int .u8 0, .int .u8 0, .int .u8 0] 33 (fun w => by go_simp) ?_
 intro gL wL eL hL HBl hLsz
 have HB0 := HB.size
 have HB := below_then HB HBl
 refine hK.out _ _ (HB) ?_
 clear hK
 try simp only [Act.put, pst3]
 refine seg_run rfl (fun K hK => ?_)
 rw [if_pos (by rfl)]
 have hLW : W.heap.size ≤ gL := by omega
 refine wp_store_row _ _ _ rfl gL (suV G S L D0) rfl rfl _ _ hL (suInfo _ _ _ _ HL0.out) (by rw [suVn, HL0.out]; rfl) (suV_one ..) ?_
 have HB := below_setRow HB hLW (suV G S L D0)
 refine hK.out _ _ (HB) ?_
 clear hK
 try simp only [Act.put, pst3]
 refine seg_done (fun _ => ?_)
 refine wpAnyH_done (by kernel_rfl) ?_ _
 have hrowL := setRow_heap _ gL _ (suV G S L D0) _ _ hL
 obtain ⟨V0, hV⟩ : ∃ V, V = wL.setRow gL (suV G S L D0) := ⟨_, rfl⟩
 rw [← hV] at hrowL HB ⊢
 have xL0 : gL < V0.heap.size := by rw [hV]; simp; omega
 clear hV hL HBl hLsz HB0 q4 q8 j12 eL
 go_wp2_with fail
 go_loopw [5] (RGetI W V0.heap.size gL G S L D) (fun v _ => 32 - (intOf v).toNat)
 case atStart => exact ⟨0, by omega, rfl, by rw [digP_zero, HD0.out]; exact hrowL, HB, Nat.le_refl _⟩
 case round =>
 obtain ⟨k, hk, rfl, hrowL, HB, xL9⟩ := hrel
 obtain ⟨V, rfl⟩ : ∃ V : World, V = wr := ⟨_, rfl⟩
 have xL : gL < V.heap.size := by omega
 by_cases hlt : k < 32
 ·have e1 := (q13.below HB).cellS k (by omega)
  rw [Nat.add_assoc] at e1
  have g1 := (cell_of_row V gL (3 + k) _ _ _ hrowL).trans ((suV3 ..).trans (digP_at D k hlt HD.out))
  have g3 : V.frozen? ⟨gL, 3 + k, none⟩ = false := frozen_of_row _ _ _ _ _ hrowL
  have l1 : (k : Int) < 32 := by omega
  have l2 : (13 : Int) + (k : Int) < 256 := by omega
  have hs := digP_set G S L D k hlt HD.out
  generalize D.getD k 0 = u9 at e1 hs
  have HS := Lib.hid hs
  clear hs
  have HRL := Lib.hid hrowL
  clear hrowL
  go_wp2_with fail
  go_roundw
  case rel => exact ⟨k + 1, by omega, by go_num, by rw [setc_rowT HRL.out, HS.out], HB.setCell hLW _, by simp [World.setCell]; omega⟩
  case measure => simp [intOf]; omega
 obtain rfl : k = 32 := by omega
 rw [digP_all D HD.out] at hrowL
 have bV := below_then bW HB
 have zV := HB.size
 have hrowR := (HB.block _ xW1).trans HROW.out
 have hge := HE.out
 have hgt := HGt.out
 have HRL := Lib.hid hrowL
 have HRR := Lib.hid hrowR
 clear hrowL hrowR q13
 cases hsc : suCheck S L with
 | false =>
  rw [if_neg (by simp [hsc])] at hge
  rw [if_neg (by rw [hge]; decide)] at hgt
  have HGE2 := Lib.hid hge
  have HGT2 := Lib.hid hgt
  have hh := refsuPut_any G S L D V b1 (by omega) HD.out
  unfold suPutE suPutL at hh
  rw [if_neg (by simp [hsc]), if_neg (by simp [hsc])] at hh
  have HH := Lib.hid hh
  clear hge hgt hsc hh
  go_wp2_with (refine wpList_load_row rfl 33 _ rfl gL rfl 33 (suV G S L D) (0, 0) _ HRL.out Tryz.underlying33 rfl (suInfo G S L D HD.out) ?_)
  refine HH.out.mono ?_
  rintro e w5 ⟨A5, n5, c5, rfl, ho5, hb5⟩
  have hrow5 := (hb5.block _ (by omega)).trans HRR.out
  go_wp2_with (refine wpList_store_row rfl 33 _ _ rfl w.heap.size suZ.v rfl rfl 33 suZ.v hrow5 (suZ.info suZ_len) rfl (suV_one ..) ?_)
  refine bodyPost_ret (results_row_tmp Tryz.results117 _ _ w.heap.size 33 suZ.v (0, 0) _ rfl (setRow_heap _ _ _ suZ.v _ _ hrow5) Tryz.underlying33 rfl (suZ.info suZ_len)) rfl ?_
  exact ⟨by rw [HGT2.out, HGE2.out]; rfl, below_setRow (below_then bV hb5) (Nat.le_refl _) _⟩
 | true =>
  have hh := refsuPut_any G S L D V b1 (by omega) HD.out
  unfold suPutE at hh
  rw [if_pos hsc] at hh
  obtain ⟨P, hP⟩ : ∃ P, suPutL G S L D = P := ⟨suPutL G S L D, rfl⟩
  rw [hP] at hh hge
  have HH := Lib.hid hh
  have HP := Lib.hid hP
  by_cases heq : P = xs
  ·rw [if_pos ⟨hsc, heq⟩] at hge
   rw [if_pos hge] at hgt
   have HGE2 := Lib.hid hge
   have HGT2 := Lib.hid hgt
   have HQ := Lib.hid heq
   clear hge hgt hsc hh hP heq
   go_wp2_with (refine wpList_load_row rfl 33 _ rfl gL rfl 33 (suV G S L D) (0, 0) _ HRL.out Tryz.underlying33 rfl (suInfo G S L D HD.out) ?_)
   refine HH.out.mono ?_
   rintro e w5 ⟨A5, n5, c5, rfl, ho5, hb5⟩
   have hrow5 := (hb5.block _ (by omega)).trans HRR.out
   have hrowL5 := (hb5.block _ xL).trans HRL.out
   have B5 := below_then bV hb5
   have HR5 := Lib.hid hrow5
   have HL5 := Lib.hid hrowL5
   clear hrow5 hrowL5
   go_wp2_with fail
   have hh := bytes_any _ _ _ _ _ _ xs P w5 (hr.below B5) ho5.rd
   rw [decide_eq_true HQ.out.symm] at hh
   refine hh.mono ?_
   clear hh
   rintro e w6 ⟨rfl, rfl⟩
   go_wp2_with (first
    | (refine wpList_load_row rfl 33 _ rfl gL rfl 33 (suV G S L D) (0, 0) _ HL5.out Tryz.underlying33 rfl (suInfo G S L D HD.out) ?_)
    | (refine wpList_store_row rfl 33 _ _ rfl w.heap.size (suV G S L D) rfl rfl 33 suZ.v HR5.out (suInfo G S L D HD.out) (by rw [suVn, HD.out]; rfl) (suV_one ..) ?_))
   refine bodyPost_ret (results_row_tmp Tryz.results117 _ _ w.heap.size 33 (suV G S L D) (0, 0) _ rfl (setRow_heap _ _ _ (suV G S L D) _ _ HR5.out) Tryz.underlying33 rfl (suInfo G S L D HD.out)) rfl ?_
   exact ⟨by rw [HGT2.out, HGE2.out]; rfl, below_setRow B5 (Nat.le_refl _) _⟩
  ·rw [if_neg (fun h => heq h.2)] at hge
   rw [if_neg (by rw [hge]; decide)] at hgt
   have HGE2 := Lib.hid hge
   have HGT2 := Lib.hid hgt
   have HQ := Lib.hid heq
   clear hge hgt hsc hh hP heq
   go_wp2_with (refine wpList_load_row rfl 33 _ rfl gL rfl 33 (suV G S L D) (0, 0) _ HRL.out Tryz.underlying33 rfl (suInfo G S L D HD.out) ?_)
   refine HH.out.mono ?_
   rintro e w5 ⟨A5, n5, c5, rfl, ho5, hb5⟩
   have hrow5 := (hb5.block _ (by omega)).trans HRR.out
   have B5 := below_then bV hb5
   have HR5 := Lib.hid hrow5
   clear hrow5
   go_wp2_with fail
   have hh := bytes_any _ _ _ _ _ _ xs P w5 (hr.below B5) ho5.rd
   rw [decide_eq_false (fun h => HQ.out h.symm)] at hh
   refine hh.mono ?_
   clear hh
   rintro e w6 ⟨rfl, rfl⟩
   go_wp2_with (refine wpList_store_row rfl 33 _ _ rfl w.heap.size suZ.v rfl rfl 33 suZ.v HR5.out (suZ.info suZ_len) rfl (suV_one ..) ?_)
   refine bodyPost_ret (results_row_tmp Tryz.results117 _ _ w.heap.size 33 suZ.v (0, 0) _ rfl (setRow_heap _ _ _ suZ.v _ _ HR5.out) Tryz.underlying33 rfl (suZ.info suZ_len)) rfl ?_
   exact ⟨by rw [HGT2.out, HGE2.out]; rfl, below_setRow B5 (Nat.le_refl _) _⟩
theorem refsuGet_any (A : Option Addr) (n c : Nat) (xs : List UInt8) (w : World) (hr : RdB w A n c xs) :
  Calls Tryz.prog 117 #[.slice A n c] w (RetSu w (suGet xs) (suGetE xs)) := by
 by_cases h : n = 256
 ·subst h
  cases hh : crcHolds xs with
  | true => exact refsuGet_main A c xs w hr hh
  | false =>
   have e : suGetE xs = 6 := by unfold suGetE; rw [if_neg (by simp [hr.2.1]), if_pos hh]
   have e2 : suGet xs = suZ := by unfold suGet; rw [if_neg (by rw [e]; decide)]
   rw [e, e2]
   exact refsuGet_sum A c xs w hr hh
 ·have e : suGetE xs = 2 := by unfold suGetE; rw [if_pos (by rw [hr.2.1]; exact h)]
  have e2 : suGet xs = suZ := by unfold suGet; rw [if_neg (by rw [e]; decide)]
  rw [e, e2]
  exact refsuGet_early A n c xs w hr h
end Go.Proofs.YtpahicfnhhhifaaGreat
