/-
 Proved here, for the statement JournalForged:
 Layer 13: Choose of the package.
 Layer 13: the law's words.
-/
import Derived.Laws.CopyRow
import Derived.Laws.IdiomCopy
import Derived.Test.YtpahicfnhhhifaaGreatGf20
set_option linter.unusedVariables false
set_option linter.unusedSimpArgs false
namespace Go.Proofs.YtpahicfnhhhifaaGreat
set_option maxRecDepth 20000
open Go.RowKit
set_option maxHeartbeats 8000000
def chStep (X : List UInt8) (h : Nat) (q : Bool × Su) : Bool × Su := if suGood X h = true ∧ (q.1 = false ∨ q.2.g < (suGet X).g) then (true, suGet X) else q
def chAt (a b : List UInt8) : Nat → Bool × Su
 | 0 => (false, suZ)
 | k + 1 => chStep (if k = 0 then a else b) k (chAt a b k)
theorem chAt_two (a b : List UInt8) : suChE a b = (if (chAt a b 2).1 = true then 0 else 7) ∧ suCh a b = (if (chAt a b 2).1 = true then (chAt a b 2).2 else suZ) := by
 have e : chAt a b 2 = chStep b 1 (chStep a 0 (false, suZ)) := rfl
 rw [e]
 unfold suChE suCh chStep
 cases ha : suGood a 0 <;> cases hb : suGood b 1
 ·simp
 ·simp
 ·simp
 ·have h1 := of_decide_eq_true ha
  have h2 := of_decide_eq_true hb
  by_cases hlt : (suGet a).g < (suGet b).g
  ·have : ¬ (suGet b).g < (suGet a).g := by omega
   simp [hlt, this]
  ·have : (suGet b).g < (suGet a).g := by omega
   simp [hlt, this]
theorem chStep_len (X : List UInt8) (h : Nat) (q : Bool × Su) (hq : q.2.D.length = 32) : (chStep X h q).2.D.length = 32 := by
 unfold chStep; split
 ·exact suGet_len _
 ·exact hq
theorem chStep_g (X : List UInt8) (h : Nat) (q : Bool × Su) (hq : q.2.g < 4294967296) : (chStep X h q).2.g < 4294967296 := by
 unfold chStep; split
 ·exact (suGet_bounds _).1
 ·exact hq
theorem chAt_len (a b : List UInt8) : ∀ k, (chAt a b k).2.D.length = 32
 | 0 => rfl
 | k + 1 => chStep_len _ _ _ (chAt_len a b k)
theorem chAt_g (a b : List UInt8) : ∀ k, (chAt a b k).2.g < 4294967296
 | 0 => by simp [chAt, suZ]
 | k + 1 => chStep_g _ _ _ (chAt_g a b k)
theorem allocZ (w : World) : (w.alloc (.cells zz1 33)).heap[w.heap.size]? = some (.cells suZ.v 33 (0, 0)) := by rw [suZ_v]; exact row1 ..
theorem Su.size (x y : Su) (h : x.D.length = 32) (k : y.D.length = 32) : x.v.size = y.v.size := by unfold Su.v; rw [suVn, suVn, h, k]
theorem Su.cell0 {w : World} {g : Nat} {x : Su} {T : TypeId} {m : Nat × Nat} (h : w.heap[g]? = some (.cells x.v T m)) : w.cell? ⟨g, 0, none⟩ = some (.int .u32 x.g) := (cell_of_row w _ 0 _ _ _ h).trans (suV0 ..)
theorem storedZ {w V : World} (cs : Array Value) (h : V = (w.alloc (.cells zz1 33)).setRow w.heap.size cs) :
  V.heap[w.heap.size]? = some (.cells cs 33 (0, 0)) ∧ Below w.heap.size w V ∧ V.heap.size = w.heap.size + 1 := by
 subst h
 exact ⟨setRow_heap _ _ _ cs _ _ (allocZ w), below_setRow ((below_self w).alloc (Nat.le_refl _) _) (Nat.le_refl _) _, by simp⟩
def ChI (w : World) (g6 : Nat) (a b : List UInt8) (v7 v15 : Value) (wr : World) : Prop :=
 ∃ k : Nat, k ≤ 2 ∧ v15 = .int .i64 k ∧ v7 = .bool (chAt a b k).1 ∧ wr.heap[g6]? = some (.cells (chAt a b k).2.v 33 (0, 0)) ∧ wr.heap[w.heap.size]? = some (.cells suZ.v 33 (0, 0)) ∧ Below w.heap.size w wr ∧ g6 < wr.heap.size
theorem suChoose_any (A : Option Addr) (n c : Nat) (xs : List UInt8) (B : Option Addr) (m d : Nat) (ys : List UInt8) (w : World) (ha : RdB w A n c xs) (hb : RdB w B m d ys) :
  Calls Tryz.prog 70 #[.slice A n c, .slice B m d] w (RetSu w (suCh xs ys) (suChE xs ys)) := by
 have i0 : ∀ W : World, (Instr.index 158 (.agg #[.slice A n c, .slice B m d]) (.int .i64 ((0 : Nat) : Int))).run Tryz.prog W = .ok (.slice A n c) W := fun _ => by kernel_rfl
 have i1 : ∀ W : World, (Instr.index 158 (.agg #[.slice A n c, .slice B m d]) (.int .i64 ((1 : Nat) : Int))).run Tryz.prog W = .ok (.slice B m d) W := fun _ => by kernel_rfl
 have I0 := Lib.hid i0
 have I1 := Lib.hid i1
 clear i0 i1
 go_enter Tryz.func70, Tryz.ntmps70
 go_wp2_with fail
 obtain ⟨W, hW⟩ : ∃ W, W = (w.alloc (.cells zz1 33)).alloc (.cells zz1 33) := ⟨_, rfl⟩
 have bW : Below w.heap.size w W := by rw [hW]; exact ((below_self w).alloc (Nat.le_refl _) _).alloc (by simp) _
 have h4 : W.heap[w.heap.size]? = some (.cells suZ.v 33 (0, 0)) := by rw [hW, suZ_v]; exact row2a ..
 have h6 : W.heap[w.heap.size + 1]? = some (.cells suZ.v 33 (0, 0)) := by rw [hW, suZ_v]; exact row2b ..
 have hz : w.heap.size + 1 < W.heap.size := by rw [hW]; simp
 rw [← hW]
 clear hW
 go_loopw [7, 15] (ChI w (w.heap.size + 1) xs ys) (fun _ i _ => 2 - (intOf i).toNat)
 case atStart => exact ⟨0, by omega, rfl, rfl, h6, h4, bW, hz⟩
 case round =>
  obtain ⟨k, hk, rfl, rfl, hrow6, hrow4, hbr, hzr⟩ := hrel
  have hln := chAt_len xs ys k
  have hg9 := chAt_g xs ys k
  by_cases hlt : k < 2
  ·obtain ⟨X, hX⟩ : ∃ X, (if k = 0 then xs else ys) = X := ⟨_, rfl⟩
   have hx : ∃ AX nX cX, RdB wr AX nX cX X ∧ ∀ W : World, (Instr.index 158 (.agg #[.slice A n c, .slice B m d]) (.int .i64 (k : Int))).run Tryz.prog W = .ok (.slice AX nX cX) W := by
    rcases (by omega : k = 0 ∨ k = 1) with rfl | rfl
    ·exact ⟨A, n, c, hX ▸ ha.below hbr, I0.out⟩
    ·exact ⟨B, m, d, hX ▸ hb.below hbr, I1.out⟩
   obtain ⟨AX, nX, cX, hrX, iX⟩ := hx
   have hnext : chAt xs ys (k + 1) = chStep X k (chAt xs ys k) := by rw [chAt, hX]
   generalize chAt xs ys k = q at *
   obtain ⟨F, Bq⟩ := q
   simp only at hln hg9 hrow6 ⊢
   have HN := Lib.hid hnext
   have HL := Lib.hid hln
   have H6 := Lib.hid hrow6
   have H4 := Lib.hid hrow4
   clear hX hnext hln hrow6 hrow4 h4 h6 hz
   obtain ⟨x, hxx⟩ : ∃ x, suGet X = x := ⟨_, rfl⟩
   obtain ⟨E, hE⟩ : ∃ E, suGetE X = E := ⟨_, rfl⟩
   have hxl := suGet_len X
   have hxg := (suGet_bounds X).1
   rw [hxx] at hxl hxg
   have hgood : suGood X k = decide (E = 0 ∧ x.g % 2 = k) := by unfold suGood; rw [hxx, hE]
   have hh := suGet_any AX nX cX X wr hrX
   rw [hxx, hE] at hh
   have HH := Lib.hid hh
   have HG := Lib.hid hgood
   have HX := Lib.hid hxx
   have HXL := Lib.hid hxl
   clear hh hgood hxx hE hxl
   go_wp2_with fail
   refine HH.out.mono ?_
   rintro e w1 ⟨rfl, hb1⟩
   have z1 := hb1.size
   have r6 := (hb1.block _ hzr).trans H6.out
   have r4 := (hb1.block _ (by omega)).trans H4.out
   have R6 := Lib.hid r6
   have R4 := Lib.hid r4
   have HAZ := Lib.hid (allocZ w1)
   clear r6 r4
   by_cases he : E = 0
   ·subst he
    by_cases hp : x.g % 2 = k
    ·have hgd : suGood X k = true := by rw [HG.out]; exact decide_eq_true ⟨rfl, hp⟩
     have hq : (((x.g % 2 : Nat) : Int) != (k : Int)) = false := by rw [hp]; simp
     have HGD := Lib.hid hgd
     clear hgd hp
     go_wp2_with (refine wpList_store_row rfl 33 _ _ rfl w1.heap.size x.v rfl rfl 33 suZ.v HAZ.out (x.info HXL.out) (Su.size _ _ suZ_len HXL.out) (suV_one ..) ?_; obtain ⟨V, hV⟩ : ∃ V, V = (w1.alloc (.cells zz1 33)).setRow w1.heap.size x.v := ⟨_, rfl⟩; rw [← hV]; obtain ⟨hVr, hVb, hVz⟩ := storedZ _ hV; have cV := Su.cell0 hVr; have HVR := Lib.hid hVr; clear hV hVr)
     refine (suHome_any x.g V hxg).mono ?_
     rintro e w2 ⟨rfl, rfl⟩
     have r6V := (hVb.block _ (by omega)).trans R6.out
     have r4V := (hVb.block _ (by omega)).trans R4.out
     have R6V := Lib.hid r6V
     have R4V := Lib.hid r4V
     have c6V := Su.cell0 r6V
     have BV := below_then hbr (below_then hb1 hVb)
     have hzV : w.heap.size + 1 < V.heap.size := by omega
     clear r6V r4V
     cases F with
     | false =>
      have hst : chStep X k (false, Bq) = (true, x) := by unfold chStep; rw [if_pos ⟨HGD.out, .inl rfl⟩, HX.out]
      have HST := Lib.hid hst
      clear hst
      go_wp2_with (first
       | (refine wpList_load_row rfl 33 _ rfl w1.heap.size rfl 33 x.v (0, 0) _ HVR.out Tryz.underlying33 rfl (x.info HXL.out) ?_)
       | (refine wpList_store_row rfl 33 _ _ rfl (w.heap.size + 1) x.v rfl rfl 33 Bq.v R6V.out (x.info HXL.out) (Su.size _ _ HL.out HXL.out) (suV_one ..) ?_))
      go_roundw
      case rel => exact ⟨k + 1, by omega, by go_num, by rw [HN.out, HST.out], by rw [HN.out, HST.out]; exact setRow_heap _ _ _ x.v _ _ R6V.out, (setRow_other _ _ _ _ (by omega)).trans R4V.out, below_setRow BV (by omega) _, by simp; omega⟩
      case measure => simp [intOf]; omega
     | true =>
      by_cases hgt : Bq.g < x.g
      ·have hst : chStep X k (true, Bq) = (true, x) := by unfold chStep; rw [if_pos ⟨HGD.out, .inr (by rw [HX.out]; exact hgt)⟩, HX.out]
       have HST := Lib.hid hst
       have dg : decide ((Bq.g : Int) < (x.g : Int)) = true := decide_eq_true (by omega)
       have dgn : decide (Bq.g < x.g) = true := decide_eq_true hgt
       clear hst hgt
       go_wp2_with (first
        | (refine wpList_load_row rfl 33 _ rfl w1.heap.size rfl 33 x.v (0, 0) _ HVR.out Tryz.underlying33 rfl (x.info HXL.out) ?_)
        | (refine wpList_store_row rfl 33 _ _ rfl (w.heap.size + 1) x.v rfl rfl 33 Bq.v R6V.out (x.info HXL.out) (Su.size _ _ HL.out HXL.out) (suV_one ..) ?_))
       go_roundw
       case rel => exact ⟨k + 1, by omega, by go_num, by rw [HN.out, HST.out], by rw [HN.out, HST.out]; exact setRow_heap _ _ _ x.v _ _ R6V.out, (setRow_other _ _ _ _ (by omega)).trans R4V.out, below_setRow BV (by omega) _, by simp; omega⟩
       case measure => simp [intOf]; omega
      ·have hst : chStep X k (true, Bq) = (true, Bq) := by unfold chStep; rw [if_neg (fun h => h.2.elim (fun h => by cases h) (fun h => hgt (by rw [HX.out] at h; exact h)))]
       have HST := Lib.hid hst
       have dg : decide ((Bq.g : Int) < (x.g : Int)) = false := decide_eq_false (by omega)
       have dgn : decide (Bq.g < x.g) = false := decide_eq_false hgt
       clear hst hgt
       go_wp2
       go_roundw
       case rel => exact ⟨k + 1, by omega, by go_num, by rw [HN.out, HST.out], by rw [HN.out, HST.out]; exact R6V.out, R4V.out, BV, hzV⟩
       case measure => simp [intOf]; omega
    ·have hgd : suGood X k = false := by rw [HG.out]; exact decide_eq_false (fun h => hp h.2)
     have hq : (((x.g % 2 : Nat) : Int) != (k : Int)) = true := by rw [bne_iff_ne]; omega
     have hst : chStep X k (F, Bq) = (F, Bq) := by unfold chStep; rw [if_neg (fun h => by rw [hgd] at h; cases h.1)]
     have HST := Lib.hid hst
     clear hgd hp hst
     go_wp2_with (refine wpList_store_row rfl 33 _ _ rfl w1.heap.size x.v rfl rfl 33 suZ.v HAZ.out (x.info HXL.out) (Su.size _ _ suZ_len HXL.out) (suV_one ..) ?_; obtain ⟨V, hV⟩ : ∃ V, V = (w1.alloc (.cells zz1 33)).setRow w1.heap.size x.v := ⟨_, rfl⟩; rw [← hV]; obtain ⟨hVr, hVb, hVz⟩ := storedZ _ hV; have cV := Su.cell0 hVr; have HVR := Lib.hid hVr; clear hV hVr)
     refine (suHome_any x.g V hxg).mono ?_
     rintro e w2 ⟨rfl, rfl⟩
     have r6V := (hVb.block _ (by omega)).trans R6.out
     have r4V := (hVb.block _ (by omega)).trans R4.out
     have R6V := Lib.hid r6V
     have R4V := Lib.hid r4V
     have BV := below_then hbr (below_then hb1 hVb)
     have hzV : w.heap.size + 1 < V.heap.size := by omega
     clear r6V r4V
     go_wp2
     go_roundw
     case rel => exact ⟨k + 1, by omega, by go_num, by rw [HN.out, HST.out], by rw [HN.out, HST.out]; exact R6V.out, R4V.out, BV, hzV⟩
     case measure => simp [intOf]; omega
   ·have hgd : suGood X k = false := by rw [HG.out]; exact decide_eq_false (fun h => he h.1)
    have hq : (E != 0) = true := by rw [bne_iff_ne]; exact he
    have hst : chStep X k (F, Bq) = (F, Bq) := by unfold chStep; rw [if_neg (fun h => by rw [hgd] at h; cases h.1)]
    have HST := Lib.hid hst
    clear hgd he hst
    go_wp2_with (refine wpList_store_row rfl 33 _ _ rfl w1.heap.size x.v rfl rfl 33 suZ.v HAZ.out (x.info HXL.out) (Su.size _ _ suZ_len HXL.out) (suV_one ..) ?_; obtain ⟨V, hV⟩ : ∃ V, V = (w1.alloc (.cells zz1 33)).setRow w1.heap.size x.v := ⟨_, rfl⟩; rw [← hV]; obtain ⟨hVr, hVb, hVz⟩ := storedZ _ hV; have cV := Su.cell0 hVr; have HVR := Lib.hid hVr; clear hV hVr)
    go_roundw
    have r6V := (hVb.block _ (by omega)).trans R6.out
    have r4V := (hVb.block _ (by omega)).trans R4.out
    have BV := below_then hbr (below_then hb1 hVb)
    case rel => exact ⟨k + 1, by omega, by go_num, by rw [HN.out, HST.out], by rw [HN.out, HST.out]; exact r6V, r4V, BV, by omega⟩
    case measure => simp [intOf]; omega
  ·obtain rfl : k = 2 := by omega
   obtain ⟨e1, e2⟩ := chAt_two xs ys
   generalize chAt xs ys 2 = q at *
   obtain ⟨F, Bq⟩ := q
   simp only at hln hg9 hrow6 e1 e2 ⊢
   have H6 := Lib.hid hrow6
   have H4 := Lib.hid hrow4
   have HL := Lib.hid hln
   cases F with
   | true =>
    have E1 := Lib.hid (e1.trans (if_pos rfl))
    have E2 := Lib.hid (e2.trans (if_pos rfl))
    clear hln hrow6 hrow4 h4 h6 hz e1 e2
    go_wp2_with (first
     | (refine wpList_load_row rfl 33 _ rfl (w.heap.size + 1) rfl 33 Bq.v (0, 0) _ H6.out Tryz.underlying33 rfl (Bq.info HL.out) ?_)
     | (refine wpList_store_row rfl 33 _ _ rfl w.heap.size Bq.v rfl rfl 33 suZ.v H4.out (Bq.info HL.out) (Su.size _ _ suZ_len HL.out) (suV_one ..) ?_))
    refine bodyPost_ret (results_row_tmp Tryz.results70 _ _ w.heap.size 33 Bq.v (0, 0) _ rfl (setRow_heap _ _ _ Bq.v _ _ H4.out) Tryz.underlying33 rfl (Bq.info HL.out)) rfl ?_
    exact ⟨by rw [E1.out, E2.out]; rfl, below_setRow hbr (Nat.le_refl _) _⟩
   | false =>
    have E1 := Lib.hid (e1.trans (if_neg (by decide)))
    have E2 := Lib.hid (e2.trans (if_neg (by decide)))
    clear hln hrow6 hrow4 h4 h6 hz e1 e2
    go_wp2_with (refine wpList_store_row rfl 33 _ _ rfl w.heap.size suZ.v rfl rfl 33 suZ.v H4.out (suZ.info suZ_len) rfl (suV_one ..) ?_)
    refine bodyPost_ret (results_row_tmp Tryz.results70 _ _ w.heap.size 33 suZ.v (0, 0) _ rfl (setRow_heap _ _ _ suZ.v _ _ H4.out) Tryz.underlying33 rfl (suZ.info suZ_len)) rfl ?_
    exact ⟨by rw [E1.out, E2.out]; rfl, below_setRow hbr (Nat.le_refl _) _⟩
set_option maxHeartbeats 8000000
section
variable {ops : Array Oper} {rest : List Oper} {o : Oper} {a : Act} {w : World} {Q : Exit → Act → World → Prop}
theorem su_load (hgd : o.guard = none) (x : Operand) (ho : o.op = .load 33 x) (h : Nat) (hx : a.eval x = .pointer (some ⟨h, 0, none⟩)) (y : Su) (hrow : w.heap[h]? = some (.cells y.v 33 (0, 0))) (hl : y.D.length = 32)
  (hK : wpList Tryz.prog ops Q rest (a.put o.dst (.agg y.v)) w) : wpList Tryz.prog ops Q (o :: rest) a w :=
 wpList_load_row hgd 33 x ho h hx 33 y.v (0, 0) _ hrow Tryz.underlying33 rfl (y.info hl) hK
theorem su_store (hgd : o.guard = none) (x z : Operand) (ho : o.op = .store 33 x z) (h : Nat) (hx : a.eval x = .pointer (some ⟨h, 0, none⟩)) (y old : Su) (hz : a.eval z = .agg y.v) (hrow : w.heap[h]? = some (.cells old.v 33 (0, 0))) (hl : y.D.length = 32) (ho2 : old.D.length = 32)
  (hK : wpList Tryz.prog ops Q rest (a.put o.dst undef) (w.setRow h y.v)) : wpList Tryz.prog ops Q (o :: rest) a w :=
 wpList_store_row hgd 33 x z ho h y.v hx hz 33 old.v hrow (y.info hl) (Su.size _ _ ho2 hl) (suV_one ..) hK
end
set_option maxHeartbeats 8000000
def RetLd (w : World) (S : Su) (st : List UInt8) (rs : List Rc) (er : Int) (e : Ending) (w' : World) : Prop := ∃ A n c B m d, e = .returned (.tuple #[.agg S.v, .slice A n c, .slice B m d, .int .i64 er]) ∧ OwnB w' w.heap.size A n c st ∧ OwR w' w.heap.size B m d rs ∧ Below w.heap.size w w'
theorem retLd_none {w X : World} (er : Int) (hb : Below w.heap.size w X) : RetLd w suZ [] [] er (.returned (.tuple #[.agg suZ.v, .slice none 0 0, .slice none 0 0, .int .i64 er])) X := ⟨none, 0, 0, none, 0, 0, rfl, OwnB.nilB _ _, owR_nil _ _, hb⟩
theorem dresults1333 {P : Program} {fn : Func} {p q s u : Tmp} {ty : TypeId} (h : fn.results = #[.cell p ty, .tmp q, .tmp s, .tmp u]) (tmps : Array Value) (w : World) (g : Nat) (t : TypeId) (cs : Array Value) (fr : Nat × Nat) (d : TypeDesc)
  (hp : tmps.getD p undef = .pointer (some ⟨g, 0, none⟩)) (hg : w.heap[g]? = some (.cells cs t fr))
  (hu : P.underlying ty = some d) (hd : (match d with | .struct _ | .array _ _ => true | _ => false) = true) (hi : (P.info? ty).map (·.size) = some cs.size) :
  (results fn tmps).run P w = .ok (.tuple #[.agg cs, tmps.getD q undef, tmps.getD s undef, tmps.getD u undef]) w := by
 have hp' : tmps[p]?.getD undef = .pointer (some ⟨g, 0, none⟩) := by simpa using hp
 simp [results, h, hp', asAddr, run_loadVar_row w g t ty cs fr d hg hu hd hi]
theorem suNoneB (w : World) : (Instr.build 33 #[]).run Tryz.prog w = .ok (.agg suZ.v) w := run_build w _ _ _ (by show Tryz.prog.built _ _ = some _; kernel_rfl)
theorem suZ_32 : suZ.D.length = 32 := rfl
set_option maxRecDepth 100000 in
theorem jrnLoad_form (AV : Array Value) (D : Dk) (w : World) (v : DkVal AV w D) (er : Int) (h : (dkOk D = false ∧ er = 3) ∨ (dkOk D = true ∧ D.s.length < 98 ∧ er = 5)) :
  Calls Tryz.prog 31 #[.agg AV] w (RetLd w suZ [] [] er) := by
 obtain ⟨Z0, hZ0⟩ : ∃ Z0 : Array Value, #[.int .u32 0, .int .i64 0, .int .i64 0, .int .u8 0, .int .u8 0, .int .u8 0, .int .u8 0, .int .u8 0, .int .u8 0, .int .u8 0, .int .u8 0, .int .u8 0, .int .u8 0, .int .u8 0, .int .u8 0, .int .u8 0, .int .u8 0, .int .u8 0, .int .u8 0, .int .u8 0, .int .u8 0, .int .u8 0, .int .u8 0, .int .u8 0, .int .u8 0, .int .u8 0, .int .u8 0, .int .u8 0, .int .u8 0, .int .u8 0, .int .u8 0, .int .u8 0, .int .u8 0, .int .u8 0, .int .u8 0] = Z0 := ⟨_, rfl⟩
 have hZe : Z0 = suZ.v := by rw [← hZ0]; rfl
 have HZ0 := Lib.hid hZ0
 obtain ⟨V, hV⟩ : ∃ V, V = (w.alloc (.cells AV 40)).alloc (.cells Z0 33) := ⟨_, rfl⟩
 have bV : Below w.heap.size w V := by rw [hV]; exact ((below_self w).alloc (Nat.le_refl _) _).alloc (by simp) _
 have zV : Hid (V.heap.size = w.heap.size + 2) := by rw [hV]; exact Lib.hid (by simp)
 have qV : Hid (DkV V w.heap.size AV D) := Lib.hid ⟨by rw [hV]; exact drw_old _ (drw_at _ rfl), v.below bV⟩
 have rV : Hid (V.heap[w.heap.size + 1]? = some (.cells suZ.v 33 (0, 0))) := by rw [hV, hZe]; exact Lib.hid (drw_at _ (by simp))
 have HV := Lib.hid hV
 have C1 := Lib.hid (vCheck qV.out.2)
 obtain ⟨NV, hNV⟩ : ∃ z, z = suZ.v := ⟨_, rfl⟩
 have NB := Lib.hid suNoneB
 rw [← hNV] at NB
 have HNV := Lib.hid hNV
 have hs63 : ∃ K0 kc0 vs0, V.cell? ⟨w.heap.size, 0, none⟩ = some (.slice K0 D.s.length kc0) ∧ RdSS V K0 D.s.length kc0 vs0 D.s := qV.out.c0
 have HS := Lib.hid hs63
 clear hV hZ0 hZe v hNV hs63
 rcases h with ⟨h, rfl⟩ | ⟨h, h2, rfl⟩
 ·rw [h] at C1
  clear h
  go_enter Tryz.func31, Tryz.ntmps31
  go_wp2_with (first | (rw [HZ0.out, ← HV.out]) | (refine dk_load rfl _ rfl rfl qV.out ?_))
  refine C1.out.mono ?_
  rintro e w1 ⟨rfl, hb1⟩
  have r1 := Lib.hid (drw_up rV.out hb1)
  go_wp2_with (first | (refine wpList_of_exec rfl (rex_build rfl #[] rfl (NB.out _)) ?_) | (refine su_store rfl _ _ rfl (w.heap.size + 1) rfl suZ suZ (congrArg Value.agg HNV.out) r1.out suZ_32 suZ_32 ?_))
  refine bodyPost_ret (dresults1333 Tryz.results31 _ _ (w.heap.size + 1) 33 suZ.v (0, 0) _ rfl (setRow_heap _ _ _ suZ.v _ _ r1.out) Tryz.underlying33 rfl (suZ.info suZ_32)) rfl ?_
  exact retLd_none _ (below_setRow (below_then bV hb1) (by omega) _)
 ·rw [h] at C1
  clear h
  have d1 : decide ((D.s.length : Int) < 98) = true := decide_eq_true (by omega)
  have d2 : D.s.length < 98 := h2
  go_enter Tryz.func31, Tryz.ntmps31
  go_wp2_with (first | (rw [HZ0.out, ← HV.out]) | (refine dk_load rfl _ rfl rfl qV.out ?_))
  refine C1.out.mono ?_
  rintro e w1 ⟨rfl, hb1⟩
  have r1 := Lib.hid (drw_up rV.out hb1)
  obtain ⟨K0, kc0, vs0, hc0, _⟩ := (qV.out.up hb1).c0
  go_wp2_with (first | (refine wpList_of_exec rfl (rex_build rfl #[] rfl (NB.out _)) ?_) | (refine su_store rfl _ _ rfl (w.heap.size + 1) rfl suZ suZ (congrArg Value.agg HNV.out) r1.out suZ_32 suZ_32 ?_))
  refine bodyPost_ret (dresults1333 Tryz.results31 _ _ (w.heap.size + 1) 33 suZ.v (0, 0) _ rfl (setRow_heap _ _ _ suZ.v _ _ r1.out) Tryz.underlying33 rfl (suZ.info suZ_32)) rfl ?_
  exact retLd_none _ (below_setRow (below_then bV hb1) (by omega) _)
theorem dgs_eq (P Q : List UInt8) (hP : P.length = 32) (hQ : Q.length = 32) (W : World) : (Op.equalIn 10000 30 (.agg (dgA P)) (.agg (dgA Q))).run Tryz.prog W = .ok (decide (P = Q)) W := run_eqIn_digest 9996 W P Q hP hQ
theorem suCh_chk (a b : List UInt8) (h : suChE a b = 0) : suCheck (suCh a b).s (suCh a b).l = true := by
 have hg : ∀ x k, suGood x k = true → suCheck (suGet x).s (suGet x).l = true := fun x k hx => (suGet_ok x (of_decide_eq_true hx).1).2.2.2.1
 unfold suChE at h
 split at h
 ·rename_i hc
  unfold suCh
  split
  ·rename_i h1; exact hg _ _ h1.1
  ·split
   ·rename_i h1; exact hg _ _ h1
   ·rename_i h1 h2
    exfalso
    rcases hc with hc | hc
    ·exact h1 ⟨hc, .inl (by simpa using h2)⟩
    ·exact h2 hc
 ·cases h
set_option maxRecDepth 100000 in
theorem jrnLoad_go (AV : Array Value) (D : Dk) (w : World) (v : DkVal AV w D) (hok : dkOk D = true) (hl : 98 ≤ D.s.length) :
  Calls Tryz.prog 31 #[.agg AV] w (fun e w' =>
   (suChE (dkRead D 0) (dkRead D 1) ≠ 0 → RetLd w suZ [] [] (suChE (dkRead D 0) (dkRead D 1)) e w') ∧
   (suChE (dkRead D 0) (dkRead D 1) = 0 → jnBase (jnHad D (jnLoadS D)) ≠ (jnLoadS D).D → RetLd w suZ [] [] 6 e w') ∧
   (suChE (dkRead D 0) (dkRead D 1) = 0 → jnBase (jnHad D (jnLoadS D)) = (jnLoadS D).D → RetLd w (jnLoadS D) (jnHad D (jnLoadS D)) (jnLoadR D) 0 e w')) := by
 obtain ⟨Z0, hZ0⟩ : ∃ Z0 : Array Value, #[.int .u32 0, .int .i64 0, .int .i64 0, .int .u8 0, .int .u8 0, .int .u8 0, .int .u8 0, .int .u8 0, .int .u8 0, .int .u8 0, .int .u8 0, .int .u8 0, .int .u8 0, .int .u8 0, .int .u8 0, .int .u8 0, .int .u8 0, .int .u8 0, .int .u8 0, .int .u8 0, .int .u8 0, .int .u8 0, .int .u8 0, .int .u8 0, .int .u8 0, .int .u8 0, .int .u8 0, .int .u8 0, .int .u8 0, .int .u8 0, .int .u8 0, .int .u8 0, .int .u8 0, .int .u8 0, .int .u8 0] = Z0 := ⟨_, rfl⟩
 have hZe : Z0 = suZ.v := by rw [← hZ0]; rfl
 have HZ0 := Lib.hid hZ0
 have HZE := Lib.hid hZe
 obtain ⟨V, hV⟩ : ∃ V, V = (w.alloc (.cells AV 40)).alloc (.cells Z0 33) := ⟨_, rfl⟩
 have bV : Below w.heap.size w V := by rw [hV]; exact ((below_self w).alloc (Nat.le_refl _) _).alloc (by simp) _
 have zV : Hid (V.heap.size = w.heap.size + 2) := by rw [hV]; exact Lib.hid (by simp)
 have qV : Hid (DkV V w.heap.size AV D) := Lib.hid ⟨by rw [hV]; exact drw_old _ (drw_at _ rfl), v.below bV⟩
 have rV : Hid (V.heap[w.heap.size + 1]? = some (.cells suZ.v 33 (0, 0))) := by rw [hV, hZe]; exact Lib.hid (drw_at _ (by simp))
 have HV := Lib.hid hV
 have C1 := Lib.hid (vCheck qV.out.2)
 rw [hok] at C1
 have C2 := Lib.hid (fun W (u : DkVal AV W D) => vRead u 0 (by omega))
 have C3 := Lib.hid (fun W (u : DkVal AV W D) => vRead u 1 (by omega))
 rw [show dkAsk D 0 = 0 from dkAsk_in D hok 0 (by omega)] at C2
 rw [show dkAsk D 1 = 0 from dkAsk_in D hok 1 (by omega)] at C3
 obtain ⟨X0, hX0⟩ : ∃ q, dkRead D 0 = q := ⟨_, rfl⟩
 obtain ⟨X1, hX1⟩ : ∃ q, dkRead D 1 = q := ⟨_, rfl⟩
 obtain ⟨SU, hSU⟩ : ∃ q, jnLoadS D = q := ⟨_, rfl⟩
 have hSU2 : suCh X0 X1 = SU := by rw [← hX0, ← hX1]; exact hSU
 rw [hX0] at C2 ⊢
 rw [hX1] at C3 ⊢
 rw [hSU]
 obtain ⟨E, hE⟩ : ∃ q, suChE X0 X1 = q := ⟨_, rfl⟩
 rw [hE]
 have C4 := Lib.hid (fun (A B : Option Addr) (n c m d : Nat) W (a : RdB W A n c X0) (b : RdB W B m d X1) => suChoose_any A n c X0 B m d X1 W a b)
 rw [hSU2, hE] at C4
 obtain ⟨NV, hNV⟩ : ∃ z, z = suZ.v := ⟨_, rfl⟩
 have NB := Lib.hid suNoneB
 rw [← hNV] at NB
 have HNV := Lib.hid hNV
 have d1 : decide ((D.s.length : Int) < 98) = false := decide_eq_false (by omega)
 have d2 : ¬ D.s.length < 98 := by omega
 have hSUl : SU.D.length = 32 ∧ SU.g < 4294967296 := by
  rw [← hSU2]; unfold suCh
  split
  ·exact ⟨suGet_len _, (suGet_bounds _).1⟩
  ·split
   ·exact ⟨suGet_len _, (suGet_bounds _).1⟩
   ·exact ⟨rfl, by decide⟩
 have HSL := Lib.hid hSUl
 have HOK := Lib.hid hok
 have HLN := Lib.hid hl
 have HE := Lib.hid hE
 have HSU := Lib.hid hSU
 have HSU2 := Lib.hid hSU2
 clear hV hZ0 hZe v hNV hX0 hX1 hSU hSU2 hE hSUl hok hl
 go_enter Tryz.func31, Tryz.ntmps31
 go_wp2_with (first | (rw [HZ0.out, ← HV.out]) | (refine dk_load rfl _ rfl rfl qV.out ?_))
 refine C1.out.mono ?_
 rintro e w1 ⟨rfl, hb1⟩
 have q1 := Lib.hid (qV.out.up hb1)
 obtain ⟨K0, kc0, vs0, hc0, hss⟩ := q1.out.c0
 clear hss
 go_wp2_with (refine dk_load rfl _ rfl rfl q1.out ?_)
 refine (C2.out w1 q1.out.2).mono ?_
 rintro e w2 ⟨A2, n2, c2, rfl, o2, b2⟩
 have q2 := Lib.hid (q1.out.up b2)
 have O2 := Lib.hid o2.rd
 clear o2 hc0
 go_wp2_with (refine dk_load rfl _ rfl rfl q2.out ?_)
 refine (C3.out w2 q2.out.2).mono ?_
 rintro e w3 ⟨A3, n3, c3, rfl, o3, b3⟩
 have q3 := Lib.hid (q2.out.up b3)
 have O3 := Lib.hid o3.rd
 clear o3
 go_wp2_with fail
 refine (C4.out A2 A3 n2 c2 n3 c3 w3 (O2.out.below b3) O3.out).mono ?_
 rintro e w4 ⟨rfl, b4⟩
 have r4 := Lib.hid (drw_up (drw_up (drw_up (drw_up rV.out hb1) b2) b3) b4)
 have q4 := Lib.hid (q3.out.up b4)
 have B4 := Lib.hid (below_then bV (below_then hb1 (below_then b2 (below_then b3 b4))))
 obtain ⟨V5, hV5⟩ : ∃ W, W = w4.alloc (.cells Z0 33) := ⟨_, rfl⟩
 have b5 : Below w4.heap.size w4 V5 := by rw [hV5]; exact (below_self w4).alloc (Nat.le_refl _) _
 have r5 : Hid (V5.heap[w4.heap.size]? = some (.cells suZ.v 33 (0, 0))) := by rw [hV5, HZE.out]; exact Lib.hid (drw_at _ rfl)
 have HV5 := Lib.hid hV5
 obtain ⟨V6, hV6⟩ : ∃ W, W = V5.setRow w4.heap.size SU.v := ⟨_, rfl⟩
 have s6 : Hid (V6.heap[w4.heap.size]? = some (.cells SU.v 33 (0, 0))) := by rw [hV6]; exact Lib.hid (setRow_heap _ _ _ _ _ _ r5.out)
 have b6 : Below w4.heap.size w4 V6 := by rw [hV6]; exact below_setRow b5 (Nat.le_refl _) _
 have HV6 := Lib.hid hV6
 have q6 := Lib.hid (q4.out.up b6)
 have r6 := Lib.hid (drw_up r4.out b6)
 have B6 := Lib.hid (below_then B4.out b6)
 clear hV5 hV6
 by_cases hE0 : E = 0
 ·subst hE0
  have hck : suCheck SU.s SU.l = true := by rw [← HSU2.out]; exact suCh_chk _ _ HE.out
  have HCK := Lib.hid hck
  clear hck
  go_wp2_with (first | (rw [HZ0.out, ← HV5.out]; refine su_store rfl _ _ rfl w4.heap.size rfl SU suZ rfl r5.out HSL.out.1 suZ_32 ?_; rw [← HV6.out]) | (refine dk_load rfl _ rfl rfl q6.out ?_) | (refine su_load rfl _ rfl w4.heap.size rfl SU s6.out HSL.out.1 ?_))
  refine (jrnState_any AV D SU V6 q6.out.2 HOK.out HLN.out HCK.out HSL.out.1).mono ?_
  rintro e w7 ⟨A7, n7, c7, rfl, o7, b7⟩
  have q7 := Lib.hid (q6.out.up b7)
  have s7 := Lib.hid (drw_up s6.out b7)
  have r7 := Lib.hid (drw_up r6.out b7)
  have B7 := Lib.hid (below_then B6.out b7)
  obtain ⟨HA, hHA⟩ : ∃ q, jnHad D SU = q := ⟨_, rfl⟩
  rw [hHA] at o7
  have O7 := Lib.hid o7
  have HHA := Lib.hid hHA
  have hn7 : n7 ≤ 12288 := by
   have h1 := o7.len
   have h2 := of_decide_eq_true HCK.out
   rw [← h1, ← hHA]; unfold jnHad; rw [List.length_take]; omega
  obtain ⟨BD, hBD⟩ : ∃ q, jnBase HA = q := ⟨jnBase HA, rfl⟩
  have C8 := Lib.hid (fun W (h : RdB W A7 n7 c7 HA) => jrnBase_any A7 n7 c7 HA W h (by omega))
  rw [hBD] at C8
  have HBD := Lib.hid hBD
  have hBl : BD.length = 32 := by rw [← hBD]; exact shOf_len _
  have HBL := Lib.hid hBl
  clear o7 hHA hBD hBl
  have lo7 : w.heap.size + 1 < w4.heap.size := drw_lt r4.out
  by_cases hd : BD = SU.D
  ·have HD := Lib.hid hd
   have eq1 : ∀ W : World, (Op.equalIn 10000 30 (.agg (dgA BD)) (.agg (dgA SU.D))).run Tryz.prog W = .ok true W := fun W => by have := dgs_eq BD SU.D HBL.out HSL.out.1 W; rw [decide_eq_true hd] at this; exact this
   have EQ := Lib.hid eq1
   clear eq1 hd
   go_wp2_with fail
   refine wp_region_seg (S := fun w' => Below w7.heap.size w7 w') 0 #[true, true, true, true, true] [(0, true), (2, true), (3, true), (1, false), (4, true)] (by kernel_rfl) (by kernel_rfl) (fun _ _ d _ _ h => by first | (cases d <;> exact h) | cases h.1) ((Below.refl w7.heap.size w7).drew) ?_
   have HB := (Below.refl w7.heap.size w7).drew
   iterate 2 (refine seg_take (v := ?_) rfl (Or.inl ⟨by rfl, ?_⟩) ?_; rotate_left; (focus (intro w' hw'; go_simp <;> with_reducible rfl)); try simp only [Act.put, pst3])
   refine seg_take (v := .agg (dgA SU.D)) rfl (Or.inl ⟨by rfl, fun w' hw' => ?_⟩) ?_
   focus (exact rex_load rfl rfl (run_loadVar_mid w' w4.heap.size 3 30 (SU.D.map vB) _ (sup_dig (drw_up s7.out hw')) Tryz.underlying30 rfl (by rw [List.length_map, HSL.out.1]; kernel_rfl)))
   try simp only [Act.put, pst3]
   refine seg_run rfl (fun K hK => ?_)
   go_simp
   refine (C8.out _ (O7.out.rd.below HB)).mono ?_
   rintro e_ wA ⟨rfl, hbA⟩
   have HB := below_then HB hbA
   refine hK.out _ _ (HB) ?_
   clear hK
   try simp only [Act.put, pst3]
   refine seg_take (v := .bool false) rfl (Or.inl ⟨by rfl, fun w' hw' => ?_⟩) ?_
   focus (have hq := EQ.out w'; go_simp)
   try simp only [Act.put, pst3]
   refine seg_done (fun _ => ?_)
   refine wpAnyH_done (by kernel_rfl) ?_ _
   skip
   have BA := Lib.hid HB
   have q8 := Lib.hid (drw_up q7.out.1 HB)
   have v8 := Lib.hid (q7.out.2.below HB)
   have s8 := Lib.hid (drw_up s7.out HB)
   have r8 := Lib.hid (drw_up r7.out HB)
   have O8 := Lib.hid (O7.out.upB HB)
   have C9 := Lib.hid (fun W (u : DkVal AV W D) => jrnRecords_any AV D SU W u HOK.out HLN.out HSL.out.2 HSL.out.1)
   go_wp2_with fail
   refine wp_region_seg (S := fun w' => w'.heap[w.heap.size]? = some (.cells AV 40 (0, 0)) ∧ w'.heap[w4.heap.size]? = some (.cells SU.v 33 (0, 0))) 0 (brw9 9 511) [(0, true), (1, true), (2, true), (3, true), (4, false), (5, false), (6, true), (7, true), (8, true)] (by kernel_rfl) (by kernel_rfl) (fun _ _ d _ _ h => by first | (cases d <;> exact h) | cases h.1) (And.intro q8.out s8.out) ?_
   have HB := And.intro q8.out s8.out
   refine seg_take (v := .agg SU.v) rfl (Or.inl ⟨by rfl, fun w' hw' => ?_⟩) ?_
   focus (exact rex_load rfl rfl (run_loadVar_row w' w4.heap.size 33 33 _ (0, 0) _ hw'.2 Tryz.underlying33 rfl (SU.info HSL.out.1)))
   try simp only [Act.put, pst3]
   iterate 1 (refine seg_take (v := ?_) rfl (Or.inl ⟨by rfl, ?_⟩) ?_; rotate_left; (focus (intro w' hw'; go_simp <;> with_reducible rfl)); try simp only [Act.put, pst3])
   refine seg_take (v := .agg AV) rfl (Or.inl ⟨by rfl, fun w' hw' => ?_⟩) ?_
   focus (exact rex_load rfl rfl (run_loadVar_row w' w.heap.size 40 40 _ (0, 0) _ hw'.1 Tryz.underlying40 rfl v8.out.info))
   try simp only [Act.put, pst3]
   refine seg_take (v := .agg SU.v) rfl (Or.inl ⟨by rfl, fun w' hw' => ?_⟩) ?_
   focus (exact rex_load rfl rfl (run_loadVar_row w' w4.heap.size 33 33 _ (0, 0) _ hw'.2 Tryz.underlying33 rfl (SU.info HSL.out.1)))
   try simp only [Act.put, pst3]
   refine seg_run rfl (fun K hK => ?_)
   go_simp
   refine (C9.out wA.drew (v8.out.below (Below.refl _ wA).drew)).mono ?_
   rintro e_ wB ⟨A9, n9, c9, rfl, o9, b9⟩
   have HB := And.intro ((b9.block _ (drw_lt HB.1)).trans HB.1) ((b9.block _ (drw_lt HB.2)).trans HB.2)
   refine hK.out _ _ (HB) ?_
   clear hK
   try simp only [Act.put, pst3]
   refine seg_run rfl (fun K hK => ?_)
   rw [if_pos (by rfl)]
   refine wp_store_row 33 _ _ rfl (w.heap.size + 1) SU.v rfl rfl 33 suZ.v ((b9.block _ (drw_lt r8.out)).trans r8.out) (SU.info HSL.out.1) (Su.size _ _ suZ_32 HSL.out.1) (suV_one ..) ?_
   have HB := And.intro ((setRow_other wB (w.heap.size + 1) w.heap.size SU.v (by omega)).trans HB.1) ((setRow_other wB (w.heap.size + 1) w4.heap.size SU.v (by omega)).trans HB.2)
   refine hK.out _ _ (HB) ?_
   clear hK
   try simp only [Act.put, pst3]
   iterate 3 (refine seg_take (v := ?_) rfl (Or.inl ⟨by rfl, ?_⟩) ?_; rotate_left; (focus (intro w' hw'; go_simp <;> with_reducible rfl)); try simp only [Act.put, pst3])
   refine seg_done (fun _ => ?_)
   refine wpAnyH_done (by kernel_rfl) ?_ _
   skip
   go_wp2_with fail
   refine bodyPost_ret (dresults1333 Tryz.results31 _ _ (w.heap.size + 1) 33 SU.v (0, 0) _ rfl (setRow_heap _ _ _ SU.v _ _ ((b9.block _ (drw_lt r8.out)).trans r8.out)) Tryz.underlying33 rfl (SU.info HSL.out.1)) rfl ?_
   have hsB : V6.heap.size + 0 ≤ wA.heap.size := by have := b7.size; have := BA.out.size; omega
   have hb0 : w.heap.size + 2 ≤ V6.heap.size := by have := b6.size; omega
   have bX : Below w.heap.size w (wB.setRow (w.heap.size + 1) SU.v) := below_setRow (below_then (below_then B7.out BA.out).drew b9) (by omega) _
   have hag : AgrP (fun j => j = w.heap.size + 1) wB (wB.setRow (w.heap.size + 1) SU.v) := ⟨by simp, fun j _ hn => setRow_other _ _ _ _ hn⟩
   refine ⟨fun h => absurd (by rw [HHA.out, HBD.out]; exact HD.out) h, fun _ => ⟨A7, n7, c7, A9, n9, c9, rfl, ?_, ?_, bX⟩⟩
   ·rw [HHA.out]
    have o1 : OwnB wB V6.heap.size A7 n7 c7 HA := OwnB.upB (w := wA.drew) O8.out b9
    have o2 : OwnB (wB.setRow (w.heap.size + 1) SU.v) V6.heap.size A7 n7 c7 HA := own_agr0 o1 hag (fun j hj => by omega)
    exact own_mono o2 (by omega)
   ·unfold jnLoadR
    rw [HSU.out]
    exact (o9.agr hag (fun j hj => by have : wA.drew.heap.size = wA.heap.size := rfl; omega)).mono (by have : wA.drew.heap.size = wA.heap.size := rfl; omega)
  ·have HD := Lib.hid hd
   have eq1 : ∀ W : World, (Op.equalIn 10000 30 (.agg (dgA BD)) (.agg (dgA SU.D))).run Tryz.prog W = .ok false W := fun W => by have := dgs_eq BD SU.D HBL.out HSL.out.1 W; rw [decide_eq_false hd] at this; exact this
   have EQ := Lib.hid eq1
   clear eq1 hd
   go_wp2_with fail
   refine wp_region_seg (S := fun w' => Below w7.heap.size w7 w') 0 #[true, true, true, true, true] [(0, true), (2, true), (3, true), (1, false), (4, true)] (by kernel_rfl) (by kernel_rfl) (fun _ _ d _ _ h => by first | (cases d <;> exact h) | cases h.1) ((Below.refl w7.heap.size w7).drew) ?_
   have HB := (Below.refl w7.heap.size w7).drew
   iterate 2 (refine seg_take (v := ?_) rfl (Or.inl ⟨by rfl, ?_⟩) ?_; rotate_left; (focus (intro w' hw'; go_simp <;> with_reducible rfl)); try simp only [Act.put, pst3])
   refine seg_take (v := .agg (dgA SU.D)) rfl (Or.inl ⟨by rfl, fun w' hw' => ?_⟩) ?_
   focus (exact rex_load rfl rfl (run_loadVar_mid w' w4.heap.size 3 30 (SU.D.map vB) _ (sup_dig (drw_up s7.out hw')) Tryz.underlying30 rfl (by rw [List.length_map, HSL.out.1]; kernel_rfl)))
   try simp only [Act.put, pst3]
   refine seg_run rfl (fun K hK => ?_)
   go_simp
   refine (C8.out _ (O7.out.rd.below HB)).mono ?_
   rintro e_ wA ⟨rfl, hbA⟩
   have HB := below_then HB hbA
   refine hK.out _ _ (HB) ?_
   clear hK
   try simp only [Act.put, pst3]
   refine seg_take (v := .bool true) rfl (Or.inl ⟨by rfl, fun w' hw' => ?_⟩) ?_
   focus (have hq := EQ.out w'; go_simp)
   try simp only [Act.put, pst3]
   refine seg_done (fun _ => ?_)
   refine wpAnyH_done (by kernel_rfl) ?_ _
   skip
   have BA := Lib.hid HB
   have r8 := Lib.hid (drw_up r7.out HB)
   go_wp2_with (first | (refine wpList_of_exec rfl (rex_build rfl #[] rfl (NB.out _)) ?_) | (refine su_store rfl _ _ rfl (w.heap.size + 1) rfl suZ suZ (congrArg Value.agg HNV.out) r8.out suZ_32 suZ_32 ?_))
   refine bodyPost_ret (dresults1333 Tryz.results31 _ _ (w.heap.size + 1) 33 suZ.v (0, 0) _ rfl (setRow_heap _ _ _ suZ.v _ _ r8.out) Tryz.underlying33 rfl (suZ.info suZ_32)) rfl ?_
   refine ⟨fun _ => retLd_none _ (below_setRow (below_then B7.out BA.out) (by omega) _), fun h => absurd (by rw [← HBD.out, ← HHA.out]; exact h) HD.out⟩
 ·have e5 : (E != 0) = true := by simpa using hE0
  have HE0 := Lib.hid hE0
  clear hE0
  go_wp2_with (first | (rw [HZ0.out, ← HV5.out]; refine su_store rfl _ _ rfl w4.heap.size rfl SU suZ rfl r5.out HSL.out.1 suZ_32 ?_; rw [← HV6.out]) | (refine wpList_of_exec rfl (rex_build rfl #[] rfl (NB.out _)) ?_) | (refine su_store rfl _ _ rfl (w.heap.size + 1) rfl suZ suZ (congrArg Value.agg HNV.out) r6.out suZ_32 suZ_32 ?_))
  refine bodyPost_ret (dresults1333 Tryz.results31 _ _ (w.heap.size + 1) 33 suZ.v (0, 0) _ rfl (setRow_heap _ _ _ suZ.v _ _ r6.out) Tryz.underlying33 rfl (suZ.info suZ_32)) rfl ?_
  exact ⟨fun _ => retLd_none _ (below_setRow B6.out (by omega) _), fun h => absurd h HE0.out, fun h => absurd h HE0.out⟩
theorem jrnLoad_any (AV : Array Value) (D : Dk) (w : World) (v : DkVal AV w D) :
  Calls Tryz.prog 31 #[.agg AV] w (fun e w' => (jnLoadE D = 0 → RetLd w (jnLoadS D) (jnHad D (jnLoadS D)) (jnLoadR D) 0 e w') ∧ (jnLoadE D ≠ 0 → RetLd w suZ [] [] (jnLoadE D) e w')) := by
 cases hok : dkOk D with
 | false =>
  have e : jnLoadE D = 3 := by unfold jnLoadE; rw [if_pos hok]
  rw [e]
  exact (jrnLoad_form AV D w v 3 (.inl ⟨hok, rfl⟩)).mono fun _ _ h => ⟨fun h3 => absurd h3 (by decide), fun _ => h⟩
 | true =>
  by_cases hl : D.s.length < 98
  ·have e : jnLoadE D = 5 := by unfold jnLoadE; rw [if_neg (by simp [hok]), if_pos hl]
   rw [e]
   exact (jrnLoad_form AV D w v 5 (.inr ⟨hok, hl, rfl⟩)).mono fun _ _ h => ⟨fun h3 => absurd h3 (by decide), fun _ => h⟩
  ·refine (jrnLoad_go AV D w v hok (by omega)).mono fun e w' ⟨h1, h2, h3⟩ => ?_
   by_cases hE : suChE (dkRead D 0) (dkRead D 1) = 0
   ·by_cases hB : jnBase (jnHad D (jnLoadS D)) = (jnLoadS D).D
    ·have e : jnLoadE D = 0 := by unfold jnLoadE; rw [if_neg (by simp [hok]), if_neg hl, if_neg (fun h => h hE), if_neg (fun h => h hB)]
     rw [e]
     exact ⟨fun _ => h3 hE hB, fun h => absurd rfl h⟩
    ·have e : jnLoadE D = 6 := by unfold jnLoadE; rw [if_neg (by simp [hok]), if_neg hl, if_neg (fun h => h hE), if_pos hB]
     rw [e]
     exact ⟨fun h => absurd h (by decide), fun _ => h2 hE hB⟩
   ·have e : jnLoadE D = suChE (dkRead D 0) (dkRead D 1) := by unfold jnLoadE; rw [if_neg (by simp [hok]), if_neg hl, if_pos hE]
    rw [e]
    exact ⟨fun h => absurd h hE, fun _ => h1 hE⟩
set_option maxHeartbeats 8000000
def RetDkS (w : World) (S : Option Addr) (sn sc : Nat) (K : Option Addr) (kn kc : Nat) (D D' : Dk) (er : Int) (e : Ending) (w' : World) : Prop :=
 ∃ K2 kn2 kc2, e = .returned (.tuple #[.agg #[.slice S sn sc, .slice K2 kn2 kc2], .int .i64 er]) ∧ D'.s = D.s ∧ Below w.heap.size w w' ∧ ∀ us, RdWs w K kn kc us D.k → ∃ us2, ∀ W, (∀ j, w.heap.size ≤ j → j < w'.heap.size → W.heap[j]? = w'.heap[j]?) → RdWs W K kn kc us D.k → RdWs W K2 kn2 kc2 us2 D'.k
theorem ref_WriteS_any (S : Option Addr) (sn sc : Nat) (K : Option Addr) (kn kc : Nat) (D : Dk) (a : Int) (B : Option Addr) (m d : Nat) (ys : List UInt8) (w : World) (hr : RdDk w S sn sc K kn kc D) (ha : -9223372036854775808 ≤ a ∧ a ≤ 9223372036854775807) (hd : RdB w B m d ys) :
  Calls Tryz.prog 46 #[.agg #[.slice S sn sc, .slice K kn kc], .int .i64 a, .slice B m d] w (RetDkS w S sn sc K kn kc D (dkWrite D a ys) (dkWriteE D a ys)) := by
 obtain ⟨hn1, hn2, _, _, _, _⟩ := hr.n63
 have hsl := hr.sl
 have hkl := hr.kl
 have hm63 := hd.n63
 have hml := hd.2.1
 obtain ⟨V, hV⟩ : ∃ V, V = (w.alloc (.cells #[.slice S sn sc, .slice K kn kc] 40)).alloc (.cells #[.slice none 0 0, .slice none 0 0] 40) := ⟨_, rfl⟩
 have bV : Below w.heap.size w V := by rw [hV]; exact ((below_self w).alloc (Nat.le_refl _) _).alloc (by simp) _
 have qV : Hid (DkAt V w.heap.size S sn sc K kn kc) := by rw [hV]; exact Lib.hid (drw_old _ (drw_at _ rfl))
 have rV : Hid (DkAt V (w.heap.size + 1) none 0 0 none 0 0) := by rw [hV]; exact Lib.hid (drw_at _ (by simp))
 have HV := Lib.hid hV
 have C1 := Lib.hid (refDskCheck_any S sn sc K kn kc D V (hr.below bV))
 have C2 := Lib.hid (fun W => refDskHas_any S sn sc K kn kc a W hn1 ha)
 have hno : ¬ dkWriteE D a ys = 0 → dkWrite D a ys = D := fun h => by unfold dkWrite; rw [if_neg h]
 clear hV
 rcases dkAsk_cases hsl a with ⟨h1, h2⟩ | ⟨h1, h2, h3⟩ | ⟨h1, h0, h2, h3, h4⟩
 ·have e : dkWriteE D a ys = 3 := by unfold dkWriteE; rw [if_pos (by rw [h2]; decide), h2]
  rw [hno (by rw [e]; decide), e]
  rw [h1] at C1
  clear h1 h2 hno e
  go_enter Tryz.func46, Tryz.ntmps46
  go_wp2_with fail
  rw [← HV.out]
  refine C1.out.mono ?_
  rintro e w1 ⟨rfl, hb1⟩
  have B1 := below_then bV hb1
  have q := Lib.hid (qV.out.up hb1)
  have r := Lib.hid (rV.out.up hb1)
  have x0 := q.out.c0
  have x1 := q.out.c1
  have y0 := r.out.c0
  have y1 := r.out.c1
  have f0 := r.out.fr 0
  have f1 := r.out.fr 1
  have QS := Lib.hid (r.out.s01 S sn sc K kn kc)
  go_wp2_with fail
  refine bodyPost_ret (dresults_cell_tmp Tryz.results46 _ _ (w.heap.size + 1) 40 _ (0, 0) _ rfl QS.out Tryz.underlying40 rfl (dkInfo ..)) rfl ?_
  exact ⟨K, kn, kc, rfl, rfl, below2 B1 (by omega) _ _, fun us hus => ⟨us, fun W hag hin2 => hin2⟩⟩
 ·have e : dkWriteE D a ys = 50 := by unfold dkWriteE; rw [if_pos (by rw [h3]; decide), h3]
  rw [hno (by rw [e]; decide), e]
  rw [h1] at C1
  rw [h2] at C2
  clear h1 h2 h3 hno e
  go_enter Tryz.func46, Tryz.ntmps46
  go_wp2_with fail
  rw [← HV.out]
  refine C1.out.mono ?_
  rintro e w1 ⟨rfl, hb1⟩
  have B1 := below_then bV hb1
  have q := Lib.hid (qV.out.up hb1)
  have r := Lib.hid (rV.out.up hb1)
  have x0 := q.out.c0
  have x1 := q.out.c1
  go_wp2_with fail
  refine (C2.out w1).mono ?_
  rintro e w2 ⟨rfl, hb2⟩
  have B2 := below_then B1 hb2
  have q := Lib.hid (q.out.up hb2)
  have r := Lib.hid (r.out.up hb2)
  have x0 := q.out.c0
  have x1 := q.out.c1
  have y0 := r.out.c0
  have y1 := r.out.c1
  have f0 := r.out.fr 0
  have f1 := r.out.fr 1
  have QS := Lib.hid (r.out.s01 S sn sc K kn kc)
  go_wp2_with fail
  refine bodyPost_ret (dresults_cell_tmp Tryz.results46 _ _ (w.heap.size + 1) 40 _ (0, 0) _ rfl QS.out Tryz.underlying40 rfl (dkInfo ..)) rfl ?_
  exact ⟨K, kn, kc, rfl, rfl, below2 B2 (by omega) _ _, fun us hus => ⟨us, fun W hag hin2 => hin2⟩⟩
 ·have hok := h1
  rw [h1] at C1
  rw [h3] at C2
  have hk5 : kn ≤ 512 := by rw [← hkl]; exact ((dkOk_iff D).1 hok).2.1
  have hs5 : sn ≤ 256 := by rw [← hsl]; exact ((dkOk_iff D).1 hok).1
  clear h1 h3 hok
  by_cases hm : m = 256
  ·have d1 : ((m : Int) != 256) = false := by simp [hm]
   by_cases hk : kn = 512
   ·have e : dkWriteE D a ys = 4 := by unfold dkWriteE; rw [if_neg (by simp [h4]), if_neg (by simp [hml, hm]), if_pos (by omega)]
    rw [hno (by rw [e]; decide), e]
    have d2 : decide (512 ≤ (kn : Int)) = true := decide_eq_true (by omega)
    clear hno e hk hm h4
    go_enter Tryz.func46, Tryz.ntmps46
    go_wp2_with fail
    rw [← HV.out]
    refine C1.out.mono ?_
    rintro e w1 ⟨rfl, hb1⟩
    have B1 := below_then bV hb1
    have q := Lib.hid (qV.out.up hb1)
    have r := Lib.hid (rV.out.up hb1)
    have x0 := q.out.c0
    have x1 := q.out.c1
    go_wp2_with fail
    refine (C2.out w1).mono ?_
    rintro e w2 ⟨rfl, hb2⟩
    have B2 := below_then B1 hb2
    have q := Lib.hid (q.out.up hb2)
    have r := Lib.hid (r.out.up hb2)
    have x0 := q.out.c0
    have x1 := q.out.c1
    have y0 := r.out.c0
    have y1 := r.out.c1
    have f0 := r.out.fr 0
    have f1 := r.out.fr 1
    have QS := Lib.hid (r.out.s01 S sn sc K kn kc)
    go_wp2_with fail
    refine bodyPost_ret (dresults_cell_tmp Tryz.results46 _ _ (w.heap.size + 1) 40 _ (0, 0) _ rfl QS.out Tryz.underlying40 rfl (dkInfo ..)) rfl ?_
    exact ⟨K, kn, kc, rfl, rfl, below2 B2 (by omega) _ _, fun us hus => ⟨us, fun W hag hin2 => hin2⟩⟩
   ·have e : dkWriteE D a ys = 0 := by unfold dkWriteE; rw [if_neg (by simp [h4]), if_neg (by simp [hml, hm]), if_neg (by omega)]
    rw [e, show dkWrite D a ys = ⟨D.s, D.k ++ [(a, ys)]⟩ by unfold dkWrite; rw [if_pos e]]
    have d2 : decide (512 ≤ (kn : Int)) = false := decide_eq_false (by omega)
    obtain ⟨⟨vs, hs⟩, us, hus⟩ := id hr
    have HUS := Lib.hid hus
    have HS := Lib.hid hs
    have HM := Lib.hid hm
    clear hno e h4 hus hs hm
    go_enter Tryz.func46, Tryz.ntmps46
    go_wp2_with fail
    rw [← HV.out]
    refine C1.out.mono ?_
    rintro e w1 ⟨rfl, hb1⟩
    have B1 := below_then bV hb1
    have q := Lib.hid (qV.out.up hb1)
    have r := Lib.hid (rV.out.up hb1)
    have x0 := q.out.c0
    have x1 := q.out.c1
    go_wp2_with fail
    refine (C2.out w1).mono ?_
    rintro e w2 ⟨rfl, hb2⟩
    have B2 := below_then B1 hb2
    have q := Lib.hid (q.out.up hb2)
    have r := Lib.hid (r.out.up hb2)
    have x0 := q.out.c0
    have x1 := q.out.c1
    have hown := World.ownsRow_lit (size := 2) (e := 119) w2 #[] 0 (Nat.le_refl _) (by simp [maxLen]) rfl
    have HO := Lib.hid hown
    clear hown
    have x1a : (w2.alloc (.cells #[] 119)).cell? ⟨w.heap.size, 1, none⟩ = some (.slice K kn kc) := (q.out.up ((below_self w2).alloc (Nat.le_refl _) _)).c1
    have q2 := q
    have r2 := r
    go_wp2_with (first | (at_builtin; refine wp_appW rfl _ _ rfl w2.heap.size _ 0 _ rfl HO.out K kn kc us rfl ((HUS.out.below B2).1.alloc _) (HUS.out.2.1) (wcells_one HUS.out.2.2.2.2) (by omega) (by simp) kn us (by omega) rfl ?_; intro A3 c3 w3 ho3 hg3; have hb3 : Below w2.heap.size w2 w3 := ((Below.refl _ _).alloc (Nat.le_refl _) _).grown hg3 (by simp) (fun q hq => by have := (HO.out.lt q hq).1; omega); have B3 := below_then B2 hb3; have q := Lib.hid (q.out.up hb3); have r := Lib.hid (r.out.up hb3); have HO3 := Lib.hid ho3; have HO2 := Lib.hid (OwnB.lit w3 #[] [] 0 rfl rfl (by simp [maxLen])); clear ho3 hg3 x0 x1 x1a) | (at_builtin; refine wp_appB rfl _ _ rfl ((below_self w3).alloc (Nat.le_refl _) _) (Nat.le_refl _) (by simp) (some ⟨w3.heap.size, 0, none⟩) 0 0 [] rfl HO2.out B m d ys rfl ((hd.below B3).alloc _) (by have := HM.out; omega) m ys (by omega) rfl ?_; intro A5 c5 w5 ho5 hb5 hg5; have B5 := below_then B3 hb5; obtain ⟨X, hX⟩ : ∃ X, X = w5.alloc (.cells #[.int .i64 a, .slice A5 m c5] 119) := ⟨_, rfl⟩; have bX : Below w5.heap.size w5 X := (by rw [hX]; exact (below_self w5).alloc (Nat.le_refl _) _); have rX : Rd X (some ⟨w5.heap.size, 0, none⟩) [.int .i64 a, .slice A5 m c5] := (by rw [hX]; exact Rd.new w5 #[.int .i64 a, .slice A5 m c5] _); have q := Lib.hid ((q.out.up hb5).up bX); have r := Lib.hid ((r.out.up hb5).up bX); have O3 := Lib.hid (down_keep (down_keep HO3.out hb5) bX); have O5 := Lib.hid (ho5.below bX); have BX := below_then B5 bX; have HX := Lib.hid hX; have RX := Lib.hid rX; have hl2 : w2.heap.size ≤ X.heap.size := (by have := hb3.size; have := hb5.size; have := bX.size; omega); clear hX rX ho5 hg5 HO2 HO3) | (at_builtin; rw [← HX.out]; refine wp_appW rfl _ _ rfl w2.heap.size _ kn us rfl O3.out (some ⟨w5.heap.size, 0, none⟩) 1 1 _ rfl RX.out rfl (by intro u hu; simp at hu; rcases hu with rfl | rfl <;> rfl) (by omega) hl2 (kn + 1) _ rfl rfl ?_; intro A7 c7 w7 ho7 hg7; have hb7 : Below w2.heap.size w2 w7 := (below_then (below_then hb3 hb5) bX).grown hg7 hl2 (fun q hq => (O3.out.lt q hq).1); have Q7 := Lib.hid (q2.out.up hb7); have R7 := Lib.hid (r2.out.up hb7); have D7 := Lib.hid (own_grown O3.out O5.out (by decide) hg7); have HO7 := Lib.hid ho7; have z0 := Q7.out.c0; have z1 := Q7.out.c1; have g0 := Q7.out.fr 0; have g1 := Q7.out.fr 1; have y0 := R7.out.c0; have y1 := R7.out.c1; have f0 := R7.out.fr 0; have f1 := R7.out.fr 1; clear ho7 hg7))
    have r8 : DkAt (w7.setCell ⟨w.heap.size, 1, none⟩ (.slice A7 (kn + 1) c7)) (w.heap.size + 1) none 0 0 none 0 0 := (heap_setCell_other _ _ _ _ (by show w.heap.size + 1 ≠ w.heap.size; omega)).trans R7.out
    have QS := Lib.hid (r8.s01 S sn sc A7 (kn + 1) c7)
    have BF := below2 ((below_then B2 hb7).setCell (p := ⟨w.heap.size, 1, none⟩) (Nat.le_refl w.heap.size) (.slice A7 (kn + 1) c7)) (q := w.heap.size + 1) (by omega) (.slice S sn sc) (.slice A7 (kn + 1) c7)
    have oF := own_far (own_far (own_far HO7.out Q7.out (by decide) 1 (.slice A7 (kn + 1) c7)) r8 (by decide) 0 (.slice S sn sc)) (r8.s0 S sn sc) (by decide) 1 (.slice A7 (kn + 1) c7)
    have dF : OwnB _ _ A5 m c5 ys := own_far (own_far (own_far D7.out Q7.out (by decide) 1 (.slice A7 (kn + 1) c7)) r8 (by decide) 0 (.slice S sn sc)) (r8.s0 S sn sc) (by decide) 1 (.slice A7 (kn + 1) c7)
    obtain ⟨e1, e2, e3, e4⟩ := own2_rd oF
    refine bodyPost_ret (dresults_cell_tmp Tryz.results46 _ _ (w.heap.size + 1) 40 _ (0, 0) _ rfl QS.out Tryz.underlying40 rfl (dkInfo ..)) rfl ?_
    refine ⟨A7, kn + 1, c7, rfl, rfl, BF, fun us' hus' => ⟨us ++ [.int .i64 a, .slice A5 m c5], fun W hag hin2 => ?_⟩⟩
    have hz2 := B2.size
    have hz3 := B3.size
    have oQ := own_agr oF (fun j hj hj2 => hag j (by omega) hj2)
    have dQ : OwnB _ _ A5 m c5 ys := own_agr dF (fun j hj hj2 => hag j (by omega) hj2)
    obtain ⟨f1, f2, f3, f4⟩ := own2_rd oQ
    have eu := ws_one hus' HUS.out
    subst eu
    exact ⟨f1, f2, f3, f4, WParts.snoc ha dQ.rd hin2.2.2.2.2⟩
  ·have e : dkWriteE D a ys = 2 := by unfold dkWriteE; rw [if_neg (by simp [h4]), if_pos (by omega)]
   rw [hno (by rw [e]; decide), e]
   have d1 : ((m : Int) != 256) = true := by rw [bne_iff_ne]; omega
   clear hno e hm h4
   go_enter Tryz.func46, Tryz.ntmps46
   go_wp2_with fail
   rw [← HV.out]
   refine C1.out.mono ?_
   rintro e w1 ⟨rfl, hb1⟩
   have B1 := below_then bV hb1
   have q := Lib.hid (qV.out.up hb1)
   have r := Lib.hid (rV.out.up hb1)
   have x0 := q.out.c0
   have x1 := q.out.c1
   go_wp2_with fail
   refine (C2.out w1).mono ?_
   rintro e w2 ⟨rfl, hb2⟩
   have B2 := below_then B1 hb2
   have q := Lib.hid (q.out.up hb2)
   have r := Lib.hid (r.out.up hb2)
   have x0 := q.out.c0
   have x1 := q.out.c1
   have y0 := r.out.c0
   have y1 := r.out.c1
   have f0 := r.out.fr 0
   have f1 := r.out.fr 1
   have QS := Lib.hid (r.out.s01 S sn sc K kn kc)
   go_wp2_with fail
   refine bodyPost_ret (dresults_cell_tmp Tryz.results46 _ _ (w.heap.size + 1) 40 _ (0, 0) _ rfl QS.out Tryz.underlying40 rfl (dkInfo ..)) rfl ?_
   exact ⟨K, kn, kc, rfl, rfl, below2 B2 (by omega) _ _, fun us hus => ⟨us, fun W hag hin2 => hin2⟩⟩
def DkS (P : Nat → Prop) (w : World) (AV : Array Value) (D : Dk) : Prop := ∃ S sn sc K kn kc vs us, AV = #[.slice S sn sc, .slice K kn kc] ∧ ∀ W, Agr P w W → RdSS W S sn sc vs D.s ∧ RdWs W K kn kc us D.k
theorem DkS.val {P : Nat → Prop} {w : World} {AV : Array Value} {D : Dk} (h : DkS P w AV D) : DkVal AV w D := by
 obtain ⟨S, sn, sc, K, kn, kc, vs, us, e, f⟩ := h
 obtain ⟨f1, f2⟩ := f w ⟨rfl, rfl, rfl, Nat.le_refl _, fun _ _ _ => rfl⟩
 exact ⟨S, sn, sc, K, kn, kc, e, ⟨vs, f1⟩, us, f2⟩
theorem DkVal.ins {P : Nat → Prop} {w w' : World} {AV : Array Value} {D : Dk} (v : DkVal AV w D) (hb : Below w.heap.size w w') (hs : ∀ j, P j → w.heap.size ≤ j) : DkS P w' AV D := by
 obtain ⟨S, sn, sc, K, kn, kc, e, ⟨vs, r1⟩, us, r2⟩ := v
 refine ⟨S, sn, sc, K, kn, kc, vs, us, e, fun W hW => ?_⟩
 have hB : Below w.heap.size w W := ⟨hW.1.trans hb.os, hW.2.1.trans hb.tape, hW.2.2.1.trans hb.output, Nat.le_trans hb.size hW.2.2.2.1, fun j hj => (hW.2.2.2.2 j (Nat.lt_of_lt_of_le hj hb.size) (fun hp => by have := hs j hp; omega)).trans (hb.block j hj)⟩
 exact ⟨r1.below hB, r2.below hB⟩
theorem vRWriteS {P : Nat → Prop} {w : World} {AV : Array Value} {D : Dk} (v : DkS P w AV D) (hP : ∀ j, P j → j < w.heap.size) (a : Int) (B : Option Addr) (m d : Nat) (ys : List UInt8) (ha : -9223372036854775808 ≤ a ∧ a ≤ 9223372036854775807) (hd : RdB w B m d ys) : Calls Tryz.prog 46 #[.agg AV, .int .i64 a, .slice B m d] w (fun e w' => ∃ AV', e = .returned (.tuple #[.agg AV', .int .i64 (dkWriteE D a ys)]) ∧ DkS P w' AV' (dkWrite D a ys) ∧ Below w.heap.size w w') := by
 obtain ⟨_, _, _, _, _, _, _, r0⟩ := v.val
 obtain ⟨S, sn, sc, K, kn, kc, vs, us, rfl, f⟩ := v
 obtain ⟨f1, f2⟩ := f w ⟨rfl, rfl, rfl, Nat.le_refl _, fun _ _ _ => rfl⟩
 refine (ref_WriteS_any S sn sc K kn kc D a B m d ys w ⟨⟨vs, f1⟩, us, f2⟩ ha hd).mono ?_
 rintro e w' ⟨K2, kn2, kc2, h1, hs, h3, h4⟩
 obtain ⟨us2, h5⟩ := h4 us f2
 refine ⟨_, h1, ⟨S, sn, sc, K2, kn2, kc2, vs, us2, rfl, fun W hW => ?_⟩, h3⟩
 have hW2 := hW.of h3
 rw [hs]
 exact ⟨(f W hW2).1, h5 W (fun j hj hj2 => hW.2.2.2.2 j hj2 (fun hp => by have := hP j hp; omega)) (f W hW2).2⟩
set_option maxHeartbeats 4000000
section
variable {P P' : Nat → Prop} {w w' W : World}
theorem AgrP.comp (h : AgrP P w w') (h' : AgrP P' w' W) (hs : ∀ j, P' j → P j ∨ w.heap.size ≤ j) : AgrP P w W :=
 ⟨Nat.le_trans h.1 h'.1, fun j hj hn => (h'.2 j (Nat.lt_of_lt_of_le hj h.1) (fun hp => by rcases hs j hp with q | q; exact hn q; omega)).trans (h.2 j hj hn)⟩
theorem Agr.p (h : Agr P w w') : AgrP P w w' := ⟨h.2.2.2.1, h.2.2.2.2⟩
theorem Agr.comp (h : Agr P w w') (h' : Agr P' w' W) (hs : ∀ j, P' j → P j ∨ w.heap.size ≤ j) : Agr P w W :=
 ⟨h'.1.trans h.1, h'.2.1.trans h.2.1, h'.2.2.1.trans h.2.2.1, (h.p.comp h'.p hs).1, (h.p.comp h'.p hs).2⟩
theorem DkS.to {AV : Array Value} {D : Dk} (h : DkS P w AV D) (ha : Agr P w w') (hs : ∀ j, P' j → P j ∨ w.heap.size ≤ j) : DkS P' w' AV D := by
 obtain ⟨S, sn, sc, K, kn, kc, vs, us, e, f⟩ := h
 exact ⟨S, sn, sc, K, kn, kc, vs, us, e, fun W hW => f W (ha.comp hW hs)⟩
end
section
variable {α : Type} {K : Nat} {E E' : List Value → α → Prop}
def Rows (K : Nat) (E : List Value → α → Prop) : List Value → List α → Prop
 | us, [] => us = []
 | us, x :: l => ∃ c r, us = c ++ r ∧ c.length = K ∧ (∀ v ∈ c, v.oneCell' = true) ∧ E c x ∧ Rows K E r l
end
end Go.Proofs.YtpahicfnhhhifaaGreat
