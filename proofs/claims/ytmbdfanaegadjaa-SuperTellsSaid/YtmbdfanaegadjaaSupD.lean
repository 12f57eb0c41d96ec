/-
  Layer 13: Choose of the package.
-/
import Derived.Test.YtmbdfanaegadjaaSupC
namespace Go.Proofs.Ytmbdfanaegadjaa
set_option maxRecDepth 20000
open Go.RowKit
set_option linter.unusedVariables false
set_option linter.unusedSimpArgs false
set_option maxHeartbeats 8000000

def chStep (X : List UInt8) (h : Nat) (q : Bool × Su) : Bool × Su := if suGood X h = true ∧ (q.1 = false ∨ q.2.g < (suGet X).g) then (true, suGet X) else q
def chAt (a b : List UInt8) : Nat → Bool × Su
  | 0 => (false, suZ)
  | k + 1 => chStep (if k = 0 then a else b) k (chAt a b k)
theorem chAt_two (a b : List UInt8) : suChE a b = (if (chAt a b 2).1 = true then 0 else 7) ∧ suCh a b = (if (chAt a b 2).1 = true then (chAt a b 2).2 else suZ) := by
  have e : chAt a b 2 = chStep b 1 (chStep a 0 (false, suZ)) := rfl
  rw [e]
  unfold suChE suCh chStep
  cases ha : suGood a 0 <;> cases hb : suGood b 1
  · simp
  · simp
  · simp
  · have h1 := of_decide_eq_true ha
    have h2 := of_decide_eq_true hb
    by_cases hlt : (suGet a).g < (suGet b).g
    · have : ¬ (suGet b).g < (suGet a).g := by omega
      simp [hlt, this]
    · have : (suGet b).g < (suGet a).g := by omega
      simp [hlt, this]
theorem chStep_len (X : List UInt8) (h : Nat) (q : Bool × Su) (hq : q.2.D.length = 32) : (chStep X h q).2.D.length = 32 := by
  unfold chStep; split
  · exact suGet_len _
  · exact hq
theorem chStep_g (X : List UInt8) (h : Nat) (q : Bool × Su) (hq : q.2.g < 4294967296) : (chStep X h q).2.g < 4294967296 := by
  unfold chStep; split
  · exact (suGet_bounds _).1
  · exact hq
theorem chAt_len (a b : List UInt8) : ∀ k, (chAt a b k).2.D.length = 32
  | 0 => rfl
  | k + 1 => chStep_len _ _ _ (chAt_len a b k)
theorem chAt_g (a b : List UInt8) : ∀ k, (chAt a b k).2.g < 4294967296
  | 0 => by simp [chAt, suZ]
  | k + 1 => chStep_g _ _ _ (chAt_g a b k)
/-- A variable of the kind, just laid. -/
theorem allocZ (w : World) : (w.alloc (.cells #[.int .u32 0, .int .i64 0, .int .i64 0, .int .u8 0, .int .u8 0, .int .u8 0, .int .u8 0, .int .u8 0, .int .u8 0, .int .u8 0, .int .u8 0, .int .u8 0, .int .u8 0, .int .u8 0, .int .u8 0, .int .u8 0, .int .u8 0, .int .u8 0, .int .u8 0, .int .u8 0, .int .u8 0, .int .u8 0, .int .u8 0, .int .u8 0, .int .u8 0, .int .u8 0, .int .u8 0, .int .u8 0, .int .u8 0, .int .u8 0, .int .u8 0, .int .u8 0, .int .u8 0, .int .u8 0, .int .u8 0] 26)).heap[w.heap.size]? = some (.cells suZ.v 26 (0, 0)) := by rw [suZ_v]; exact row1 ..
theorem Su.size (x y : Su) (h : x.D.length = 32) (k : y.D.length = 32) : x.v.size = y.v.size := by unfold Su.v; rw [suVn, suVn, h, k]
theorem Su.cell0 {w : World} {g : Nat} {x : Su} {T : TypeId} {m : Nat × Nat} (h : w.heap[g]? = some (.cells x.v T m)) : w.cell? ⟨g, 0, none⟩ = some (.int .u32 x.g) := (cell_of_row w _ 0 _ _ _ h).trans (suV0 ..)
theorem storedZ {w V : World} (cs : Array Value) (h : V = (w.alloc (.cells #[.int .u32 0, .int .i64 0, .int .i64 0, .int .u8 0, .int .u8 0, .int .u8 0, .int .u8 0, .int .u8 0, .int .u8 0, .int .u8 0, .int .u8 0, .int .u8 0, .int .u8 0, .int .u8 0, .int .u8 0, .int .u8 0, .int .u8 0, .int .u8 0, .int .u8 0, .int .u8 0, .int .u8 0, .int .u8 0, .int .u8 0, .int .u8 0, .int .u8 0, .int .u8 0, .int .u8 0, .int .u8 0, .int .u8 0, .int .u8 0, .int .u8 0, .int .u8 0, .int .u8 0, .int .u8 0, .int .u8 0] 26)).setRow w.heap.size cs) :
    V.heap[w.heap.size]? = some (.cells cs 26 (0, 0)) ∧ Below w.heap.size w V ∧ V.heap.size = w.heap.size + 1 := by
  subst h
  exact ⟨setRow_heap _ _ _ cs _ _ (allocZ w), below_setRow ((below_self w).alloc (Nat.le_refl _) _) (Nat.le_refl _) _, by simp⟩
def ChI (w : World) (g6 : Nat) (a b : List UInt8) (v7 v15 : Value) (wr : World) : Prop :=
  ∃ k : Nat, k ≤ 2 ∧ v15 = .int .i64 k ∧ v7 = .bool (chAt a b k).1 ∧ wr.heap[g6]? = some (.cells (chAt a b k).2.v 26 (0, 0)) ∧ wr.heap[w.heap.size]? = some (.cells suZ.v 26 (0, 0)) ∧ Below w.heap.size w wr ∧ g6 < wr.heap.size
theorem suChoose_any (A : Option Addr) (n c : Nat) (xs : List UInt8) (B : Option Addr) (m d : Nat) (ys : List UInt8) (w : World) (ha : RdB w A n c xs) (hb : RdB w B m d ys) :
    Calls Try.prog 17 #[.slice A n c, .slice B m d] w (RetSu w (suCh xs ys) (suChE xs ys)) := by
  have i0 : ∀ W : World, (Instr.index 63 (.agg #[.slice A n c, .slice B m d]) (.int .i64 ((0 : Nat) : Int))).run Try.prog W = .ok (.slice A n c) W := fun _ => by kernel_rfl
  have i1 : ∀ W : World, (Instr.index 63 (.agg #[.slice A n c, .slice B m d]) (.int .i64 ((1 : Nat) : Int))).run Try.prog W = .ok (.slice B m d) W := fun _ => by kernel_rfl
  have I0 := Lib.hid i0
  have I1 := Lib.hid i1
  clear i0 i1
  go_enter Try.func17, Try.ntmps17
  go_wp2_with fail
  obtain ⟨W, hW⟩ : ∃ W, W = (w.alloc (.cells #[.int .u32 0, .int .i64 0, .int .i64 0, .int .u8 0, .int .u8 0, .int .u8 0, .int .u8 0, .int .u8 0, .int .u8 0, .int .u8 0, .int .u8 0, .int .u8 0, .int .u8 0, .int .u8 0, .int .u8 0, .int .u8 0, .int .u8 0, .int .u8 0, .int .u8 0, .int .u8 0, .int .u8 0, .int .u8 0, .int .u8 0, .int .u8 0, .int .u8 0, .int .u8 0, .int .u8 0, .int .u8 0, .int .u8 0, .int .u8 0, .int .u8 0, .int .u8 0, .int .u8 0, .int .u8 0, .int .u8 0] 26)).alloc (.cells #[.int .u32 0, .int .i64 0, .int .i64 0, .int .u8 0, .int .u8 0, .int .u8 0, .int .u8 0, .int .u8 0, .int .u8 0, .int .u8 0, .int .u8 0, .int .u8 0, .int .u8 0, .int .u8 0, .int .u8 0, .int .u8 0, .int .u8 0, .int .u8 0, .int .u8 0, .int .u8 0, .int .u8 0, .int .u8 0, .int .u8 0, .int .u8 0, .int .u8 0, .int .u8 0, .int .u8 0, .int .u8 0, .int .u8 0, .int .u8 0, .int .u8 0, .int .u8 0, .int .u8 0, .int .u8 0, .int .u8 0] 26) := ⟨_, rfl⟩
  have bW : Below w.heap.size w W := by rw [hW]; exact ((below_self w).alloc (Nat.le_refl _) _).alloc (by simp) _
  have h4 : W.heap[w.heap.size]? = some (.cells suZ.v 26 (0, 0)) := by rw [hW, suZ_v]; exact row2a ..
  have h6 : W.heap[w.heap.size + 1]? = some (.cells suZ.v 26 (0, 0)) := by rw [hW, suZ_v]; exact row2b ..
  have hz : w.heap.size + 1 < W.heap.size := by rw [hW]; simp
  rw [← hW]
  clear hW
  go_loopw [7, 15] (ChI w (w.heap.size + 1) xs ys) (fun _ i _ => 2 - (intOf i).toNat)
  case atStart => exact ⟨0, by omega, rfl, rfl, h6, h4, bW, hz⟩
  case round =>
    obtain ⟨k, hk, rfl, rfl, hrow6, hrow4, hbr, hzr⟩ := hrel
    have hln := chAt_len xs ys k
    have hg9 := chAt_g xs ys k
    by_cases hlt : k < 2
    · obtain ⟨X, hX⟩ : ∃ X, (if k = 0 then xs else ys) = X := ⟨_, rfl⟩
      have hx : ∃ AX nX cX, RdB wr AX nX cX X ∧ ∀ W : World, (Instr.index 63 (.agg #[.slice A n c, .slice B m d]) (.int .i64 (k : Int))).run Try.prog W = .ok (.slice AX nX cX) W := by
        rcases (by omega : k = 0 ∨ k = 1) with rfl | rfl
        · exact ⟨A, n, c, hX ▸ ha.below hbr, I0.out⟩
        · exact ⟨B, m, d, hX ▸ hb.below hbr, I1.out⟩
      obtain ⟨AX, nX, cX, hrX, iX⟩ := hx
      have hnext : chAt xs ys (k + 1) = chStep X k (chAt xs ys k) := by rw [chAt, hX]
      generalize chAt xs ys k = q at *
      obtain ⟨F, Bq⟩ := q
      simp only at hln hg9 hrow6 ⊢
      have HN := Lib.hid hnext
      have HL := Lib.hid hln
      have H6 := Lib.hid hrow6
      have H4 := Lib.hid hrow4
      clear hX hnext hln hrow6 hrow4 h4 h6 hz
      obtain ⟨x, hxx⟩ : ∃ x, suGet X = x := ⟨_, rfl⟩
      obtain ⟨E, hE⟩ : ∃ E, suGetE X = E := ⟨_, rfl⟩
      have hxl := suGet_len X
      have hxg := (suGet_bounds X).1
      rw [hxx] at hxl hxg
      have hgood : suGood X k = decide (E = 0 ∧ x.g % 2 = k) := by unfold suGood; rw [hxx, hE]
      have hh := suGet_any AX nX cX X wr hrX
      rw [hxx, hE] at hh
      have HH := Lib.hid hh
      have HG := Lib.hid hgood
      have HX := Lib.hid hxx
      have HXL := Lib.hid hxl
      clear hh hgood hxx hE hxl
      go_wp2_with fail
      refine HH.out.mono ?_
      rintro e w1 ⟨rfl, hb1⟩
      have z1 := hb1.size
      have r6 := (hb1.block _ hzr).trans H6.out
      have r4 := (hb1.block _ (by omega)).trans H4.out
      have R6 := Lib.hid r6
      have R4 := Lib.hid r4
      have HAZ := Lib.hid (allocZ w1)
      clear r6 r4
      by_cases he : E = 0
      · subst he
        by_cases hp : x.g % 2 = k
        · have hgd : suGood X k = true := by rw [HG.out]; exact decide_eq_true ⟨rfl, hp⟩
          have hq : (((x.g % 2 : Nat) : Int) != (k : Int)) = false := by rw [hp]; simp
          have HGD := Lib.hid hgd
          clear hgd hp
          go_wp2_with (refine wpList_store_row rfl 26 _ _ rfl w1.heap.size x.v rfl rfl 26 suZ.v HAZ.out (x.info HXL.out) (Su.size _ _ suZ_len HXL.out) (suV_one ..) ?_; obtain ⟨V, hV⟩ : ∃ V, V = (w1.alloc (.cells #[.int .u32 0, .int .i64 0, .int .i64 0, .int .u8 0, .int .u8 0, .int .u8 0, .int .u8 0, .int .u8 0, .int .u8 0, .int .u8 0, .int .u8 0, .int .u8 0, .int .u8 0, .int .u8 0, .int .u8 0, .int .u8 0, .int .u8 0, .int .u8 0, .int .u8 0, .int .u8 0, .int .u8 0, .int .u8 0, .int .u8 0, .int .u8 0, .int .u8 0, .int .u8 0, .int .u8 0, .int .u8 0, .int .u8 0, .int .u8 0, .int .u8 0, .int .u8 0, .int .u8 0, .int .u8 0, .int .u8 0] 26)).setRow w1.heap.size x.v := ⟨_, rfl⟩; rw [← hV]; obtain ⟨hVr, hVb, hVz⟩ := storedZ _ hV; have cV := Su.cell0 hVr; have HVR := Lib.hid hVr; clear hV hVr)
          refine (suHome_any x.g V hxg).mono ?_
          rintro e w2 ⟨rfl, rfl⟩
          have r6V := (hVb.block _ (by omega)).trans R6.out
          have r4V := (hVb.block _ (by omega)).trans R4.out
          have R6V := Lib.hid r6V
          have R4V := Lib.hid r4V
          have c6V := Su.cell0 r6V
          have BV := below_then hbr (below_then hb1 hVb)
          have hzV : w.heap.size + 1 < V.heap.size := by omega
          clear r6V r4V
          cases F with
          | false =>
            have hst : chStep X k (false, Bq) = (true, x) := by unfold chStep; rw [if_pos ⟨HGD.out, .inl rfl⟩, HX.out]
            have HST := Lib.hid hst
            clear hst
            go_wp2_with (first
              | (refine wpList_load_row rfl 26 _ rfl w1.heap.size rfl 26 x.v (0, 0) _ HVR.out Try.underlying26 rfl (x.info HXL.out) ?_)
              | (refine wpList_store_row rfl 26 _ _ rfl (w.heap.size + 1) x.v rfl rfl 26 Bq.v R6V.out (x.info HXL.out) (Su.size _ _ HL.out HXL.out) (suV_one ..) ?_))
            go_roundw
            case rel => exact ⟨k + 1, by omega, by go_num, by rw [HN.out, HST.out], by rw [HN.out, HST.out]; exact setRow_heap _ _ _ x.v _ _ R6V.out, (setRow_other _ _ _ _ (by omega)).trans R4V.out, below_setRow BV (by omega) _, by simp; omega⟩
            case measure => simp [intOf]; omega
          | true =>
            by_cases hgt : Bq.g < x.g
            · have hst : chStep X k (true, Bq) = (true, x) := by unfold chStep; rw [if_pos ⟨HGD.out, .inr (by rw [HX.out]; exact hgt)⟩, HX.out]
              have HST := Lib.hid hst
              have dg : decide ((Bq.g : Int) < (x.g : Int)) = true := decide_eq_true (by omega)
              have dgn : decide (Bq.g < x.g) = true := decide_eq_true hgt
              clear hst hgt
              go_wp2_with (first
                | (refine wpList_load_row rfl 26 _ rfl w1.heap.size rfl 26 x.v (0, 0) _ HVR.out Try.underlying26 rfl (x.info HXL.out) ?_)
                | (refine wpList_store_row rfl 26 _ _ rfl (w.heap.size + 1) x.v rfl rfl 26 Bq.v R6V.out (x.info HXL.out) (Su.size _ _ HL.out HXL.out) (suV_one ..) ?_))
              go_roundw
              case rel => exact ⟨k + 1, by omega, by go_num, by rw [HN.out, HST.out], by rw [HN.out, HST.out]; exact setRow_heap _ _ _ x.v _ _ R6V.out, (setRow_other _ _ _ _ (by omega)).trans R4V.out, below_setRow BV (by omega) _, by simp; omega⟩
              case measure => simp [intOf]; omega
            · have hst : chStep X k (true, Bq) = (true, Bq) := by unfold chStep; rw [if_neg (fun h => h.2.elim (fun h => by cases h) (fun h => hgt (by rw [HX.out] at h; exact h)))]
              have HST := Lib.hid hst
              have dg : decide ((Bq.g : Int) < (x.g : Int)) = false := decide_eq_false (by omega)
              have dgn : decide (Bq.g < x.g) = false := decide_eq_false hgt
              clear hst hgt
              go_wp2
              go_roundw
              case rel => exact ⟨k + 1, by omega, by go_num, by rw [HN.out, HST.out], by rw [HN.out, HST.out]; exact R6V.out, R4V.out, BV, hzV⟩
              case measure => simp [intOf]; omega
        · have hgd : suGood X k = false := by rw [HG.out]; exact decide_eq_false (fun h => hp h.2)
          have hq : (((x.g % 2 : Nat) : Int) != (k : Int)) = true := by rw [bne_iff_ne]; omega
          have hst : chStep X k (F, Bq) = (F, Bq) := by unfold chStep; rw [if_neg (fun h => by rw [hgd] at h; cases h.1)]
          have HST := Lib.hid hst
          clear hgd hp hst
          go_wp2_with (refine wpList_store_row rfl 26 _ _ rfl w1.heap.size x.v rfl rfl 26 suZ.v HAZ.out (x.info HXL.out) (Su.size _ _ suZ_len HXL.out) (suV_one ..) ?_; obtain ⟨V, hV⟩ : ∃ V, V = (w1.alloc (.cells #[.int .u32 0, .int .i64 0, .int .i64 0, .int .u8 0, .int .u8 0, .int .u8 0, .int .u8 0, .int .u8 0, .int .u8 0, .int .u8 0, .int .u8 0, .int .u8 0, .int .u8 0, .int .u8 0, .int .u8 0, .int .u8 0, .int .u8 0, .int .u8 0, .int .u8 0, .int .u8 0, .int .u8 0, .int .u8 0, .int .u8 0, .int .u8 0, .int .u8 0, .int .u8 0, .int .u8 0, .int .u8 0, .int .u8 0, .int .u8 0, .int .u8 0, .int .u8 0, .int .u8 0, .int .u8 0, .int .u8 0] 26)).setRow w1.heap.size x.v := ⟨_, rfl⟩; rw [← hV]; obtain ⟨hVr, hVb, hVz⟩ := storedZ _ hV; have cV := Su.cell0 hVr; have HVR := Lib.hid hVr; clear hV hVr)
          refine (suHome_any x.g V hxg).mono ?_
          rintro e w2 ⟨rfl, rfl⟩
          have r6V := (hVb.block _ (by omega)).trans R6.out
          have r4V := (hVb.block _ (by omega)).trans R4.out
          have R6V := Lib.hid r6V
          have R4V := Lib.hid r4V
          have BV := below_then hbr (below_then hb1 hVb)
          have hzV : w.heap.size + 1 < V.heap.size := by omega
          clear r6V r4V
          go_wp2
          go_roundw
          case rel => exact ⟨k + 1, by omega, by go_num, by rw [HN.out, HST.out], by rw [HN.out, HST.out]; exact R6V.out, R4V.out, BV, hzV⟩
          case measure => simp [intOf]; omega
      · have hgd : suGood X k = false := by rw [HG.out]; exact decide_eq_false (fun h => he h.1)
        have hq : (E != 0) = true := by rw [bne_iff_ne]; exact he
        have hst : chStep X k (F, Bq) = (F, Bq) := by unfold chStep; rw [if_neg (fun h => by rw [hgd] at h; cases h.1)]
        have HST := Lib.hid hst
        clear hgd he hst
        go_wp2_with (refine wpList_store_row rfl 26 _ _ rfl w1.heap.size x.v rfl rfl 26 suZ.v HAZ.out (x.info HXL.out) (Su.size _ _ suZ_len HXL.out) (suV_one ..) ?_; obtain ⟨V, hV⟩ : ∃ V, V = (w1.alloc (.cells #[.int .u32 0, .int .i64 0, .int .i64 0, .int .u8 0, .int .u8 0, .int .u8 0, .int .u8 0, .int .u8 0, .int .u8 0, .int .u8 0, .int .u8 0, .int .u8 0, .int .u8 0, .int .u8 0, .int .u8 0, .int .u8 0, .int .u8 0, .int .u8 0, .int .u8 0, .int .u8 0, .int .u8 0, .int .u8 0, .int .u8 0, .int .u8 0, .int .u8 0, .int .u8 0, .int .u8 0, .int .u8 0, .int .u8 0, .int .u8 0, .int .u8 0, .int .u8 0, .int .u8 0, .int .u8 0, .int .u8 0] 26)).setRow w1.heap.size x.v := ⟨_, rfl⟩; rw [← hV]; obtain ⟨hVr, hVb, hVz⟩ := storedZ _ hV; have cV := Su.cell0 hVr; have HVR := Lib.hid hVr; clear hV hVr)
        go_roundw
        have r6V := (hVb.block _ (by omega)).trans R6.out
        have r4V := (hVb.block _ (by omega)).trans R4.out
        have BV := below_then hbr (below_then hb1 hVb)
        case rel => exact ⟨k + 1, by omega, by go_num, by rw [HN.out, HST.out], by rw [HN.out, HST.out]; exact r6V, r4V, BV, by omega⟩
        case measure => simp [intOf]; omega
    · obtain rfl : k = 2 := by omega
      obtain ⟨e1, e2⟩ := chAt_two xs ys
      generalize chAt xs ys 2 = q at *
      obtain ⟨F, Bq⟩ := q
      simp only at hln hg9 hrow6 e1 e2 ⊢
      have H6 := Lib.hid hrow6
      have H4 := Lib.hid hrow4
      have HL := Lib.hid hln
      cases F with
      | true =>
        have E1 := Lib.hid (e1.trans (if_pos rfl))
        have E2 := Lib.hid (e2.trans (if_pos rfl))
        clear hln hrow6 hrow4 h4 h6 hz e1 e2
        go_wp2_with (first
          | (refine wpList_load_row rfl 26 _ rfl (w.heap.size + 1) rfl 26 Bq.v (0, 0) _ H6.out Try.underlying26 rfl (Bq.info HL.out) ?_)
          | (refine wpList_store_row rfl 26 _ _ rfl w.heap.size Bq.v rfl rfl 26 suZ.v H4.out (Bq.info HL.out) (Su.size _ _ suZ_len HL.out) (suV_one ..) ?_))
        refine bodyPost_ret (results_row_tmp Try.results17 _ _ w.heap.size 26 Bq.v (0, 0) _ rfl (setRow_heap _ _ _ Bq.v _ _ H4.out) Try.underlying26 rfl (Bq.info HL.out)) rfl ?_
        exact ⟨by rw [E1.out, E2.out]; rfl, below_setRow hbr (Nat.le_refl _) _⟩
      | false =>
        have E1 := Lib.hid (e1.trans (if_neg (by decide)))
        have E2 := Lib.hid (e2.trans (if_neg (by decide)))
        clear hln hrow6 hrow4 h4 h6 hz e1 e2
        go_wp2_with (refine wpList_store_row rfl 26 _ _ rfl w.heap.size suZ.v rfl rfl 26 suZ.v H4.out (suZ.info suZ_len) rfl (suV_one ..) ?_)
        refine bodyPost_ret (results_row_tmp Try.results17 _ _ w.heap.size 26 suZ.v (0, 0) _ rfl (setRow_heap _ _ _ suZ.v _ _ H4.out) Try.underlying26 rfl (suZ.info suZ_len)) rfl ?_
        exact ⟨by rw [E1.out, E2.out]; rfl, below_setRow hbr (Nat.le_refl _) _⟩
end Go.Proofs.Ytmbdfanaegadjaa
