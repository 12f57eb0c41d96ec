/-
  Layer 13: the law SuperTells.
-/
import Derived.Test.YtmbdfanaegadjaaSupK
namespace Go.Proofs.Ytmbdfanaegadjaa
set_option maxRecDepth 20000
open Go.RowKit
set_option linter.unusedVariables false
set_option linter.unusedSimpArgs false
set_option maxHeartbeats 8000000

theorem suGet_ok' (b : List UInt8) : (suGet b).ok := by
  have := suGet_bounds b
  exact ⟨this.1, by omega, by omega, suGet_len b⟩
theorem suCh_ok' (a b : List UInt8) : (suCh a b).ok := by
  have hz : suZ.ok := ⟨by decide, by decide, by decide, rfl⟩
  unfold suCh
  split
  · exact suGet_ok' a
  · split
    · exact suGet_ok' b
    · exact hz
theorem rowCell {w : World} {g : Nat} {vs : List Value} (h : Rd w (some ⟨g, 0, none⟩) vs) (k : Nat) (v : Value) (hk : vs[k]? = some v) : w.cell? ⟨g, k, none⟩ = some v := by
  obtain ⟨hl, hv⟩ := List.getElem?_eq_some_iff.1 hk
  obtain ⟨b, o, he, _, hc⟩ := h.at_ k hl
  injection he with he
  injection he with e1 e2
  subst e1 e2
  rw [Nat.zero_add] at hc
  rw [hc, hv]
theorem suGet_as (A : Option Addr) (n c : Nat) (xs : List UInt8) (w : World) (x : Su) (E : Int) (hx : suGet xs = x) (hE : suGetE xs = E) (hr : RdB w A n c xs) : Calls Try.prog 25 #[.slice A n c] w (RetSu w x E) := by subst hx hE; exact suGet_any A n c xs w hr
theorem refsuGet_as (A : Option Addr) (n c : Nat) (xs : List UInt8) (w : World) (x : Su) (E : Int) (hx : suGet xs = x) (hE : suGetE xs = E) (hr : RdB w A n c xs) : Calls Try.prog 26 #[.slice A n c] w (RetSu w x E) := by subst hx hE; exact refsuGet_any A n c xs w hr
theorem suChoose_as (A : Option Addr) (n c : Nat) (xs : List UInt8) (B : Option Addr) (m d : Nat) (ys : List UInt8) (w : World) (x : Su) (E : Int) (hx : suCh xs ys = x) (hE : suChE xs ys = E) (ha : RdB w A n c xs) (hb : RdB w B m d ys) : Calls Try.prog 17 #[.slice A n c, .slice B m d] w (RetSu w x E) := by subst hx hE; exact suChoose_any A n c xs B m d ys w ha hb
theorem refsuChoose_as (A : Option Addr) (n c : Nat) (xs : List UInt8) (B : Option Addr) (m d : Nat) (ys : List UInt8) (w : World) (x : Su) (E : Int) (hx : suCh xs ys = x) (hE : suChE xs ys = E) (ha : RdB w A n c xs) (hb : RdB w B m d ys) : Calls Try.prog 27 #[.slice A n c, .slice B m d] w (RetSu w x E) := by subst hx hE; exact refsuChoose_any A n c xs B m d ys w ha hb
def TlI (W : World) (v : Value) (wr : World) : Prop := ∃ k : Nat, k ≤ 5 ∧ v = .int .i64 k ∧ Below W.heap.size W wr

theorem supTells_early (s : Su) (A : Option Addr) (n c : Nat) (xs : List UInt8) (B : Option Addr) (m d : Nat) (ys : List UInt8) (z : Int) (w : World) (hr : RdB w A n c xs) (hq : RdB w B m d ys) (h : 300 < n ∨ (n ≤ 300 ∧ 300 < m)) :
    Calls Try.prog 4 #[.agg s.v, .slice A n c, .slice B m d, .int .i64 z] w (RetV w (.bool true)) := by
  have hn := hr.n63
  have hm := hq.n63
  rcases h with h | ⟨h1, h2⟩
  · have d1 : decide ((300 : Int) < (n : Int)) = true := decide_eq_true (by omega)
    clear h
    go_enter Try.func4, Try.ntmps4
    go_wp2_with fail
    refine (heads13 _).mono ?_
    rintro e w9 ⟨rfl, hb9⟩
    go_wp2
    go_ret
    exact ⟨rfl, bstep (below_self w) hb9⟩
  · have d1 : decide ((300 : Int) < (n : Int)) = false := decide_eq_false (by omega)
    have d2 : decide ((300 : Int) < (m : Int)) = true := decide_eq_true (by omega)
    clear h1 h2
    go_enter Try.func4, Try.ntmps4
    go_wp2_with fail
    refine (heads13 _).mono ?_
    rintro e w9 ⟨rfl, hb9⟩
    go_wp2
    go_ret
    exact ⟨rfl, bstep (below_self w) hb9⟩

theorem supTells_main (s : Su) (A : Option Addr) (n c : Nat) (xs : List UInt8) (B : Option Addr) (m d : Nat) (ys : List UInt8) (z : Int) (w : World) (hs : s.ok) (hr : RdB w A n c xs) (hq : RdB w B m d ys) (h1 : n ≤ 300) (h2 : m ≤ 300) :
    Calls Try.prog 4 #[.agg s.v, .slice A n c, .slice B m d, .int .i64 z] w (RetV w (.bool true)) := by
  have d1 : decide ((300 : Int) < (n : Int)) = false := decide_eq_false (by omega)
  have d2 : decide ((300 : Int) < (m : Int)) = false := decide_eq_false (by omega)
  have HS0 := Lib.hid (suRow1 w s)
  have HSL := Lib.hid hs.2.2.2
  obtain ⟨P, hP⟩ : ∃ P, suPutL s.g s.s s.l s.D = P := ⟨_, rfl⟩
  obtain ⟨E, hE⟩ : ∃ P, suPutE s.s s.l = P := ⟨_, rfl⟩
  obtain ⟨C, hC⟩ : ∃ P, closed13 xs = P := ⟨_, rfl⟩
  obtain ⟨D, hD⟩ : ∃ P, closed13 ys = P := ⟨_, rfl⟩
  obtain ⟨T, hT⟩ : ∃ P, suCheck s.s s.l = P := ⟨_, rfl⟩
  obtain ⟨L, hL⟩ : ∃ P : Int, (if z = 0 then 2 else 50) = P := ⟨_, rfl⟩
  obtain ⟨M, hM⟩ : ∃ P, s.g % 2 = P := ⟨_, rfl⟩
  have HP := Lib.hid hP
  have HE := Lib.hid hE
  have HC := Lib.hid hC
  have HD := Lib.hid hD
  have HT := Lib.hid hT
  have HL := Lib.hid hL
  have HM := Lib.hid hM
  have e1 : (E != E) = false := by simp
  have e2 : (T != T) = false := by simp
  have e3 : (L != L) = false := by simp
  have e4 : ((M : Int) != (M : Int)) = false := by simp
  clear hP hE hC hD hT hL hM
  go_enter Try.func4, Try.ntmps4
  go_wp2_with (refine su_load rfl _ rfl w.heap.size rfl s HS0.out HSL.out ?_)
  refine named ?_
  intro W hW
  have bW : Below w.heap.size w W := by rw [hW]; repeat' (first | exact Below.refl _ _ | (refine Below.alloc ?_ ?_ _; rotate_left; (simp <;> omega)) | refine Below.drew ?_)
  have zW := bW.size
  have HW := Lib.hid hW
  clear hW
  have xW : w.heap.size < W.heap.size := by rw [HW.out]; simp
  have hsW : W.heap[w.heap.size]? = some (.cells s.v 26 (0, 0)) := by rw [HW.out]; exact HS0.out
  have HSW := Lib.hid hsW
  clear hsW
  have hh := suPut_any s.g s.s s.l s.D W hs.1 hs.2.1 HSL.out
  rw [HP.out, HE.out] at hh
  refine hh.mono ?_
  clear hh
  rintro e w1 ⟨A1, n1, c1, rfl, ho1, hb1⟩
  have z1 := hb1.size
  have HS1 := Lib.hid ((hb1.block _ xW).trans HSW.out)
  go_wp2_with (refine su_load rfl _ rfl w.heap.size rfl s HS1.out HSL.out ?_)
  have hh := refsuPut_any s.g s.s s.l s.D w1 hs.1 hs.2.1 HSL.out
  rw [HP.out, HE.out] at hh
  refine hh.mono ?_
  clear hh
  rintro e V ⟨A2, n2, c2, rfl, ho2, hb2⟩
  have z2 := hb2.size
  have HSV := Lib.hid ((hb2.block _ (by omega)).trans HS1.out)
  have xV : w.heap.size < V.heap.size := by omega
  have r1 := ho1.rd.below hb2
  have r2 := ho2.rd
  have BV := below_then bW (below_then hb1 hb2)
  have rV := hr.below BV
  have qV := hq.below BV
  have cV := Su.cell0 HSV.out
  clear ho1 ho2
  go_wp2_with fail
  refine wp_region_seg (S := fun w' => Below V.heap.size V w') 0 #[true, true, true, true, true, true, true, true, true, true, true, true, true, true, true, true, true, true, true, true, true, true, true, true, true, true, true, true, true, true, true, true] [(0, true), (1, true), (2, false), (3, true), (4, true), (5, true), (6, true), (7, true), (8, true), (9, true), (10, true), (12, true), (11, false), (13, false), (14, true), (15, true), (16, true), (17, true), (18, true), (20, true), (21, true), (19, false), (22, false), (23, true), (24, true), (25, true), (26, true), (28, true), (27, false), (29, false), (30, true), (31, true)] (by kernel_rfl) (by kernel_rfl) (fun _ _ d _ _ h => by cases d <;> exact h) ((Below.refl V.heap.size V).drew) ?_
  have HB := (Below.refl V.heap.size V).drew
  iterate 2 (refine seg_take (v := ?_) rfl (Or.inl ⟨by rfl, ?_⟩) ?_; rotate_left; (focus (intro w' hw'; have jj := (hw'.cell (p := ⟨w.heap.size, 0, none⟩) xV).trans cV; go_simp <;> with_reducible rfl)); try simp only [Act.put, List.setIfInBounds_toArray, List.set_cons_zero, List.set_cons_succ])
  refine seg_run rfl (fun K hK => ?_)
  go_simp
  refine (bytes_any A1 A2 n1 c1 n2 c2 P P _ r1.drew r2.drew).mono ?_
  rintro e w3 ⟨rfl, rfl⟩
  rw [decide_eq_true rfl]
  refine hK.out _ _ (HB) ?_
  clear hK
  try simp only [Act.put, List.setIfInBounds_toArray, List.set_cons_zero, List.set_cons_succ]
  iterate 2 (refine seg_take (v := ?_) rfl (Or.inl ⟨by rfl, ?_⟩) ?_; rotate_left; (focus (intro w' hw'; have jj := (hw'.cell (p := ⟨w.heap.size, 0, none⟩) xV).trans cV; go_simp <;> with_reducible rfl)); try simp only [Act.put, List.setIfInBounds_toArray, List.set_cons_zero, List.set_cons_succ])
  iterate 3 ((first | refine seg_take (v := undef) rfl (Or.inr ⟨by rfl, rfl⟩) ?_ | (refine seg_take (v := ?_) rfl (Or.inl ⟨by rfl, ?_⟩) ?_; rotate_left; (focus (intro w' hw'; have jj := (hw'.cell (p := ⟨w.heap.size, 0, none⟩) xV).trans cV; go_simp <;> with_reducible rfl)))); try simp only [Act.put, List.setIfInBounds_toArray, List.set_cons_zero, List.set_cons_succ])
  iterate 2 (refine seg_take (v := ?_) rfl (Or.inl ⟨by rfl, ?_⟩) ?_; rotate_left; (focus (intro w' hw'; have jj := (hw'.cell (p := ⟨w.heap.size, 0, none⟩) xV).trans cV; go_simp <;> with_reducible rfl)); try simp only [Act.put, List.setIfInBounds_toArray, List.set_cons_zero, List.set_cons_succ])
  refine seg_take (v := .agg s.v) rfl (Or.inl ⟨by rfl, fun w' hw' => ?_⟩) ?_
  focus (exact ex_load rfl rfl (run_loadVar_row w' w.heap.size 26 26 s.v (0, 0) _ ((hw'.block _ xV).trans HSV.out) Try.underlying26 rfl (s.info HSL.out)))
  try simp only [Act.put, List.setIfInBounds_toArray, List.set_cons_zero, List.set_cons_succ]
  refine seg_take (v := .agg s.v) rfl (Or.inl ⟨by rfl, fun w' hw' => ?_⟩) ?_
  focus (exact ex_load rfl rfl (run_loadVar_row w' w.heap.size 26 26 s.v (0, 0) _ ((hw'.block _ xV).trans HSV.out) Try.underlying26 rfl (s.info HSL.out)))
  try simp only [Act.put, List.setIfInBounds_toArray, List.set_cons_zero, List.set_cons_succ]
  refine seg_run rfl (fun K hK => ?_)
  go_simp
  have hh := suCheck_any s.g s.s s.l s.D V.drew hs.2.1 HSL.out
  rw [HT.out] at hh
  refine hh.mono ?_
  clear hh
  rintro e w4 ⟨rfl, hb4⟩
  have HB := below_then HB hb4
  refine hK.out _ _ (HB) ?_
  clear hK
  try simp only [Act.put, List.setIfInBounds_toArray, List.set_cons_zero, List.set_cons_succ]
  refine seg_run rfl (fun K hK => ?_)
  go_simp
  have hh := refsuCheck_any s.g s.s s.l s.D w4 hs.2.1 HSL.out
  rw [HT.out] at hh
  refine hh.mono ?_
  clear hh
  rintro e w5 ⟨rfl, hb5⟩
  have HB := below_then HB hb5
  refine hK.out _ _ (HB) ?_
  clear hK
  try simp only [Act.put, List.setIfInBounds_toArray, List.set_cons_zero, List.set_cons_succ]
  iterate 1 ((first | refine seg_take (v := undef) rfl (Or.inr ⟨by rfl, rfl⟩) ?_ | (refine seg_take (v := ?_) rfl (Or.inl ⟨by rfl, ?_⟩) ?_; rotate_left; (focus (intro w' hw'; have jj := (hw'.cell (p := ⟨w.heap.size, 0, none⟩) xV).trans cV; go_simp <;> with_reducible rfl)))); try simp only [Act.put, List.setIfInBounds_toArray, List.set_cons_zero, List.set_cons_succ])
  iterate 2 (refine seg_take (v := ?_) rfl (Or.inl ⟨by rfl, ?_⟩) ?_; rotate_left; (focus (intro w' hw'; have jj := (hw'.cell (p := ⟨w.heap.size, 0, none⟩) xV).trans cV; go_simp <;> with_reducible rfl)); try simp only [Act.put, List.setIfInBounds_toArray, List.set_cons_zero, List.set_cons_succ])
  iterate 4 ((first | refine seg_take (v := undef) rfl (Or.inr ⟨by rfl, rfl⟩) ?_ | (refine seg_take (v := ?_) rfl (Or.inl ⟨by rfl, ?_⟩) ?_; rotate_left; (focus (intro w' hw'; have jj := (hw'.cell (p := ⟨w.heap.size, 0, none⟩) xV).trans cV; go_simp <;> with_reducible rfl)))); try simp only [Act.put, List.setIfInBounds_toArray, List.set_cons_zero, List.set_cons_succ])
  refine seg_run rfl (fun K hK => ?_)
  go_simp
  have hh := suHome_any s.g w5 hs.1
  rw [HM.out] at hh
  refine hh.mono ?_
  clear hh
  rintro e w6 ⟨rfl, rfl⟩
  refine hK.out _ _ (HB) ?_
  clear hK
  try simp only [Act.put, List.setIfInBounds_toArray, List.set_cons_zero, List.set_cons_succ]
  refine seg_run rfl (fun K hK => ?_)
  go_simp
  have hh := refsuHome_any s.g w5 hs.1
  rw [HM.out] at hh
  refine hh.mono ?_
  clear hh
  rintro e w6 ⟨rfl, rfl⟩
  refine hK.out _ _ (HB) ?_
  clear hK
  try simp only [Act.put, List.setIfInBounds_toArray, List.set_cons_zero, List.set_cons_succ]
  iterate 1 ((first | refine seg_take (v := undef) rfl (Or.inr ⟨by rfl, rfl⟩) ?_ | (refine seg_take (v := ?_) rfl (Or.inl ⟨by rfl, ?_⟩) ?_; rotate_left; (focus (intro w' hw'; have jj := (hw'.cell (p := ⟨w.heap.size, 0, none⟩) xV).trans cV; go_simp <;> with_reducible rfl)))); try simp only [Act.put, List.setIfInBounds_toArray, List.set_cons_zero, List.set_cons_succ])
  iterate 2 (refine seg_take (v := ?_) rfl (Or.inl ⟨by rfl, ?_⟩) ?_; rotate_left; (focus (intro w' hw'; have jj := (hw'.cell (p := ⟨w.heap.size, 0, none⟩) xV).trans cV; go_simp <;> with_reducible rfl)); try simp only [Act.put, List.setIfInBounds_toArray, List.set_cons_zero, List.set_cons_succ])
  iterate 2 ((first | refine seg_take (v := undef) rfl (Or.inr ⟨by rfl, rfl⟩) ?_ | (refine seg_take (v := ?_) rfl (Or.inl ⟨by rfl, ?_⟩) ?_; rotate_left; (focus (intro w' hw'; have jj := (hw'.cell (p := ⟨w.heap.size, 0, none⟩) xV).trans cV; go_simp <;> with_reducible rfl)))); try simp only [Act.put, List.setIfInBounds_toArray, List.set_cons_zero, List.set_cons_succ])
  refine seg_run rfl (fun K hK => ?_)
  go_simp
  have hh := suPlace_any z w5
  rw [HL.out] at hh
  refine hh.mono ?_
  clear hh
  rintro e w6 ⟨rfl, rfl⟩
  refine hK.out _ _ (HB) ?_
  clear hK
  try simp only [Act.put, List.setIfInBounds_toArray, List.set_cons_zero, List.set_cons_succ]
  refine seg_run rfl (fun K hK => ?_)
  go_simp
  have hh := refsuPlace_any z w5
  rw [HL.out] at hh
  refine hh.mono ?_
  clear hh
  rintro e w6 ⟨rfl, rfl⟩
  refine hK.out _ _ (HB) ?_
  clear hK
  try simp only [Act.put, List.setIfInBounds_toArray, List.set_cons_zero, List.set_cons_succ]
  iterate 1 ((first | refine seg_take (v := undef) rfl (Or.inr ⟨by rfl, rfl⟩) ?_ | (refine seg_take (v := ?_) rfl (Or.inl ⟨by rfl, ?_⟩) ?_; rotate_left; (focus (intro w' hw'; have jj := (hw'.cell (p := ⟨w.heap.size, 0, none⟩) xV).trans cV; go_simp <;> with_reducible rfl)))); try simp only [Act.put, List.setIfInBounds_toArray, List.set_cons_zero, List.set_cons_succ])
  iterate 1 (refine seg_take (v := ?_) rfl (Or.inl ⟨by rfl, ?_⟩) ?_; rotate_left; (focus (intro w' hw'; have jj := (hw'.cell (p := ⟨w.heap.size, 0, none⟩) xV).trans cV; go_simp <;> with_reducible rfl)); try simp only [Act.put, List.setIfInBounds_toArray, List.set_cons_zero, List.set_cons_succ])
  refine seg_done (fun _ => ?_)
  refine wpAnyH_done (by kernel_rfl) ?_ _
  go_wp2_with fail
  have B5 := below_then BV HB
  have hh := closed13_any A n c xs w5 (hr.below B5) (by omega)
  rw [HC.out] at hh
  refine hh.mono ?_
  clear hh
  rintro e w6 ⟨A6, n6, c6, rfl, ho6, hb6⟩
  have B6 := below_then B5 hb6
  go_wp2_with fail
  have hh := closed13_any B m d ys w6 (hq.below B6) (by omega)
  rw [HD.out] at hh
  refine hh.mono ?_
  clear hh
  rintro e w7 ⟨A7, n7, c7, rfl, ho7, hb7⟩
  have B7 := below_then B6 hb7
  go_wp2_with fail
  obtain ⟨X, hX⟩ : ∃ X, X = w7.alloc (.cells #[.slice A n c, .slice B m d, .slice A1 n1 c1, .slice A6 n6 c6, .slice A7 n7 c7] 30) := ⟨_, rfl⟩
  rw [← hX]
  have bX : Below w7.heap.size w7 X := by rw [hX]; exact (below_self w7).alloc (Nat.le_refl _) _
  have BX := below_then B7 bX
  have rX : Rd X (some ⟨w7.heap.size, 0, none⟩) [.slice A n c, .slice B m d, .slice A1 n1 c1, .slice A6 n6 c6, .slice A7 n7 c7] := by rw [hX]; exact Rd.new w7 #[.slice A n c, .slice B m d, .slice A1 n1 c1, .slice A6 n6 c6, .slice A7 n7 c7] _
  have pX : Parts X [.slice A n c, .slice B m d, .slice A1 n1 c1, .slice A6 n6 c6, .slice A7 n7 c7] [xs, ys, P, C, D] := ⟨⟨_, _, _, rfl, hr.below BX⟩, ⟨_, _, _, rfl, hq.below BX⟩, ⟨_, _, _, rfl, r1.below (below_then HB (below_then hb6 (below_then hb7 bX)))⟩, ⟨_, _, _, rfl, ho6.rd.below (below_then hb7 bX)⟩, ⟨_, _, _, rfl, ho7.rd.below bX⟩, trivial⟩
  clear hX
  have hv5 : ([Value.slice A n c, .slice B m d, .slice A1 n1 c1, .slice A6 n6 c6, .slice A7 n7 c7]).length = 5 := rfl
  have hy5 : ([xs, ys, P, C, D] : List (List UInt8)).length = 5 := rfl
  generalize [Value.slice A n c, .slice B m d, .slice A1 n1 c1, .slice A6 n6 c6, .slice A7 n7 c7] = vs at rX pX hv5
  generalize [xs, ys, P, C, D] = yss at pX hy5
  clear hb4 hb5 hb6 hb7 ho6 ho7 r1 r2 rV qV
  have xX : w7.heap.size < X.heap.size := by
    rcases rX with h | ⟨b, o, he, hb, _⟩
    · rw [h] at hv5; simp at hv5
    · injection he with he; injection he with e _; omega
  have HV5 := Lib.hid hv5
  have HY5 := Lib.hid hy5
  clear hv5 hy5
  go_loopw [14] (TlI X) (fun v _ => 5 - (intOf v).toNat)
  case atStart => exact ⟨0, by omega, rfl, Below.refl _ _⟩
  case round =>
  obtain ⟨i, hi, rfl, HI⟩ := hrel
  obtain ⟨wo, rfl⟩ : ∃ wo : World, wo = wr := ⟨_, rfl⟩
  by_cases hlt : i < 5
  · have hiv : i < vs.length := by rw [HV5.out]; exact hlt
    have hiy : i < yss.length := by rw [HY5.out]; exact hlt
    obtain ⟨Ai, ni, ci, hvi, ri⟩ := (pX.below HI).at_ i hiv hiy
    have cXi := rowCell rX i _ (by rw [List.getElem?_eq_getElem hiv, hvi])
    obtain ⟨Y, hY⟩ : ∃ Y, yss[i] = Y := ⟨_, rfl⟩
    rw [hY] at ri
    have CXI := Lib.hid cXi
    have ci0 := (HI.cell (p := ⟨w7.heap.size, i, none⟩) xX).trans CXI.out
    clear hvi hY hiv hiy cXi
    obtain ⟨x, hx⟩ : ∃ x, suGet Y = x := ⟨_, rfl⟩
    obtain ⟨E8, hE8⟩ : ∃ x, suGetE Y = x := ⟨_, rfl⟩
    have hxok : x.ok := by rw [← hx]; exact suGet_ok' Y
    have HXL := Lib.hid hxok.2.2.2
    have HX := Lib.hid hx
    have HE8 := Lib.hid hE8
    clear hx hE8
    have l5 : (i : Int) < 5 := by omega
    have e8 : (E8 != E8) = false := by simp
    have q := fun V : World => (run_neq_su V x x hxok hxok).trans (by rw [decide_eq_true rfl])
    have Q9 := Lib.hid q
    clear q
    go_wp2_with fail
    refine (suGet_as Ai ni ci Y wo x E8 HX.out HE8.out ri).mono ?_
    rintro e u1 ⟨rfl, hu1⟩
    have HA1 := Lib.hid (allocZ u1)
    clear ci0
    go_wp2_with (refine su_store rfl _ _ rfl u1.heap.size rfl x suZ rfl HA1.out HXL.out suZ_len ?_; obtain ⟨V1, hV⟩ : ∃ V, V = (u1.alloc (.cells #[.int .u32 0, .int .i64 0, .int .i64 0, .int .u8 0, .int .u8 0, .int .u8 0, .int .u8 0, .int .u8 0, .int .u8 0, .int .u8 0, .int .u8 0, .int .u8 0, .int .u8 0, .int .u8 0, .int .u8 0, .int .u8 0, .int .u8 0, .int .u8 0, .int .u8 0, .int .u8 0, .int .u8 0, .int .u8 0, .int .u8 0, .int .u8 0, .int .u8 0, .int .u8 0, .int .u8 0, .int .u8 0, .int .u8 0, .int .u8 0, .int .u8 0, .int .u8 0, .int .u8 0, .int .u8 0, .int .u8 0] 26)).setRow u1.heap.size x.v := ⟨_, rfl⟩; rw [← hV]; obtain ⟨hrV1, hbV1, hzV1⟩ := storedZ _ hV; have hlV1 := Nat.le_of_eq hzV1; have hgV1 := Nat.le_of_eq hzV1.symm; have HRV1 := Lib.hid hrV1; have BI1 := below_then HI (below_then hu1 hbV1); have ci1 := (BI1.cell (p := ⟨w7.heap.size, i, none⟩) xX).trans CXI.out; clear hV hzV1 hrV1)
    refine (refsuGet_as Ai ni ci Y V1 x E8 HX.out HE8.out (ri.below (below_then hu1 hbV1))).mono ?_
    rintro e u2 ⟨rfl, hu2⟩
    have HA2 := Lib.hid (allocZ u2)
    have zu2 := hu2.size
    clear ci1
    go_wp2_with (first
      | (refine su_store rfl _ _ rfl u2.heap.size rfl x suZ rfl HA2.out HXL.out suZ_len ?_; obtain ⟨V2, hV⟩ : ∃ V, V = (u2.alloc (.cells #[.int .u32 0, .int .i64 0, .int .i64 0, .int .u8 0, .int .u8 0, .int .u8 0, .int .u8 0, .int .u8 0, .int .u8 0, .int .u8 0, .int .u8 0, .int .u8 0, .int .u8 0, .int .u8 0, .int .u8 0, .int .u8 0, .int .u8 0, .int .u8 0, .int .u8 0, .int .u8 0, .int .u8 0, .int .u8 0, .int .u8 0, .int .u8 0, .int .u8 0, .int .u8 0, .int .u8 0, .int .u8 0, .int .u8 0, .int .u8 0, .int .u8 0, .int .u8 0, .int .u8 0, .int .u8 0, .int .u8 0] 26)).setRow u2.heap.size x.v := ⟨_, rfl⟩; rw [← hV]; obtain ⟨hrV2, hbV2, hzV2⟩ := storedZ _ hV; have hlV2 := Nat.le_of_eq hzV2; have hgV2 := Nat.le_of_eq hzV2.symm; have HRV2 := Lib.hid hrV2; have HRX := Lib.hid (((below_then hu2 hbV2).block u1.heap.size (by omega)).trans HRV1.out); have BI2 := below_then BI1 (below_then hu2 hbV2); have qq := Q9.out; clear hV hzV2 hrV2)
      | (refine su_load rfl _ rfl u1.heap.size rfl x HRX.out HXL.out ?_)
      | (refine su_load rfl _ rfl u2.heap.size rfl x HRV2.out HXL.out ?_))
    have rV2 := ri.below (below_then hu1 (below_then hbV1 (below_then hu2 hbV2)))
    obtain ⟨hi9, HI9⟩ : ∃ h : Below X.heap.size X V2, True := ⟨BI2, trivial⟩
    clear ri qq HI9
    have ri := rV2
    clear rV2
    go_loopw [19] (TlI V2) (fun v _ => 5 - (intOf v).toNat)
    case atStart => exact ⟨0, by omega, rfl, Below.refl _ _⟩
    case round =>
    obtain ⟨k, hk, rfl, HJ⟩ := hrel
    obtain ⟨wk, rfl⟩ : ∃ wk : World, wk = wr := ⟨_, rfl⟩
    by_cases hkl : k < 5
    · have hkv : k < vs.length := by rw [HV5.out]; exact hkl
      have hky : k < yss.length := by rw [HY5.out]; exact hkl
      obtain ⟨Ak, nk, ck, hvk, rk⟩ := (pX.below (below_then BI2 HJ)).at_ k hkv hky
      have cXk := rowCell rX k _ (by rw [List.getElem?_eq_getElem hkv, hvk])
      obtain ⟨Z, hZ⟩ : ∃ Y, yss[k] = Y := ⟨_, rfl⟩
      rw [hZ] at rk
      have CXK := Lib.hid cXk
      clear hvk hZ hkv hky cXk
      have BK := below_then BI2 HJ
      have j1 := (BK.cell (p := ⟨w7.heap.size, i, none⟩) xX).trans CXI.out
      have j2 := (BK.cell (p := ⟨w7.heap.size, k, none⟩) xX).trans CXK.out
      have xK : w7.heap.size < wk.heap.size := Nat.lt_of_lt_of_le xX BK.size
      obtain ⟨x9, hx9⟩ : ∃ x, suCh Y Z = x := ⟨_, rfl⟩
      obtain ⟨E9, hE9⟩ : ∃ x, suChE Y Z = x := ⟨_, rfl⟩
      have hx9ok : x9.ok := by rw [← hx9]; exact suCh_ok' Y Z
      have HX9L := Lib.hid hx9ok.2.2.2
      have HX9 := Lib.hid hx9
      have HE9 := Lib.hid hE9
      have e9 : (E9 != E9) = false := by simp
      have q := fun V : World => (run_neq_su V x9 x9 hx9ok hx9ok).trans (by rw [decide_eq_true rfl])
      have Q10 := Lib.hid q
      clear q hx9 hE9
      have l6 : (k : Int) < 5 := by omega
      go_wp2_with fail
      refine wp_region_seg (S := fun w' => Below wk.heap.size wk w') 7 #[true, true, true, true, true, true, true, true, false, false, false, false, false, false, false] [(0, true), (1, true), (2, true), (3, true), (4, true), (5, true), (6, true), (7, true)] (by kernel_rfl) (by kernel_rfl) (fun _ _ d _ _ h => by cases d <;> exact h) ((Below.refl wk.heap.size wk).drew) ?_
      have HB := (Below.refl wk.heap.size wk).drew
      iterate 8 (refine seg_take (v := ?_) rfl (Or.inl ⟨by rfl, ?_⟩) ?_; rotate_left; (focus (intro w' hw'; have k1 := (hw'.cell (p := ⟨w7.heap.size, i, none⟩) xK).trans j1; have k2 := (hw'.cell (p := ⟨w7.heap.size, k, none⟩) xK).trans j2; go_simp <;> with_reducible rfl)); try simp only [Act.put, List.setIfInBounds_toArray, List.set_cons_zero, List.set_cons_succ])
      refine seg_done (fun _ => ?_)
      refine wpAnyH_two (i := 8) (j := 12) (f := 6) (by kernel_rfl) ?_ ?_
      · skip
        refine op_run rfl (fun K hK => ?_)
        go_simp
        refine (suChoose_as Ai ni ci Y Ak nk ck Z _ x9 E9 HX9.out HE9.out (ri.below (below_then HJ HB)) (rk.below (HB))).mono ?_
        rintro e wC ⟨rfl, hbC⟩
        try have hL := (hbC.block _ (by omega)).trans hL
        try have hLlt := Nat.lt_of_lt_of_le hLlt hbC.size
        have HB := below_then HB hbC
        refine hK.out _ _ (HB) ?_
        clear hK
        try simp only [Act.put, List.setIfInBounds_toArray, List.set_cons_zero, List.set_cons_succ]
        refine wpAnyH_seg (by kernel_rfl) (fun _ _ d _ _ h => by cases d <;> exact h) 0 #[true, true, true, true, true, true, true, true, true, true, true, true, true, true, true] [(9, true), (10, true), (11, true), (12, false), (13, false), (14, true)] _ _ _ (by kernel_rfl) (HB) ?_
        iterate 3 (refine seg_take (v := ?_) rfl (Or.inl ⟨by rfl, ?_⟩) ?_; rotate_left; (focus (intro w' hw'; have k1 := (hw'.cell (p := ⟨w7.heap.size, i, none⟩) xK).trans j1; have k2 := (hw'.cell (p := ⟨w7.heap.size, k, none⟩) xK).trans j2; go_simp <;> with_reducible rfl)); try simp only [Act.put, List.setIfInBounds_toArray, List.set_cons_zero, List.set_cons_succ])
        refine seg_run rfl (fun K hK => ?_)
        rw [if_pos (by rfl)]
        refine op_new #[.int .u32 0, .int .i64 0, .int .i64 0, .int .u8 0, .int .u8 0, .int .u8 0, .int .u8 0, .int .u8 0, .int .u8 0, .int .u8 0, .int .u8 0, .int .u8 0, .int .u8 0, .int .u8 0, .int .u8 0, .int .u8 0, .int .u8 0, .int .u8 0, .int .u8 0, .int .u8 0, .int .u8 0, .int .u8 0, .int .u8 0, .int .u8 0, .int .u8 0, .int .u8 0, .int .u8 0, .int .u8 0, .int .u8 0, .int .u8 0, .int .u8 0, .int .u8 0, .int .u8 0, .int .u8 0, .int .u8 0] 26 (fun w => by go_simp) ?_
        intro gA wL eL hL HBl hLsz
        have HBz := HB.size
        have hgle : wk.heap.size ≤ gA := by omega
        have hLlt : gA < wL.heap.size := by omega
        have HB := below_then HB HBl
        clear eL hLsz HBz
        refine hK.out _ _ (HB) ?_
        clear hK
        try simp only [Act.put, List.setIfInBounds_toArray, List.set_cons_zero, List.set_cons_succ]
        refine seg_run rfl (fun K hK => ?_)
        rw [if_pos (by rfl)]
        refine wp_store_row _ _ _ rfl gA x9.v rfl rfl _ _ hL (x9.info HX9L.out) (Su.size suZ x9 suZ_len HX9L.out) (suV_one ..) ?_
        have HB := below_setRow HB hgle x9.v
        refine hK.out _ _ (HB) ?_
        clear hK
        try simp only [Act.put, List.setIfInBounds_toArray, List.set_cons_zero, List.set_cons_succ]
        iterate 1 (refine seg_take (v := ?_) rfl (Or.inl ⟨by rfl, ?_⟩) ?_; rotate_left; (focus (intro w' hw'; have k1 := (hw'.cell (p := ⟨w7.heap.size, i, none⟩) xK).trans j1; have k2 := (hw'.cell (p := ⟨w7.heap.size, k, none⟩) xK).trans j2; go_simp <;> with_reducible rfl)); try simp only [Act.put, List.setIfInBounds_toArray, List.set_cons_zero, List.set_cons_succ])
        refine seg_done (fun _ => ?_)
        refine wpAnyH_done (by kernel_rfl) ?_ _
        have hrw := setRow_heap _ gA _ x9.v _ _ hL
        obtain ⟨U1, hU⟩ : ∃ U, U = wL.setRow gA x9.v := ⟨_, rfl⟩
        first
          | (rw [← hU] at hrw HB ⊢)
          | (clear hU; obtain ⟨U1, hU⟩ : ∃ U, U = wC.setRow gA x9.v := ⟨_, rfl⟩; rw [← hU] at hrw HB ⊢)
        have hglU1 : gA < U1.heap.size := by rw [hU]; simp; omega
        have HRU1 := Lib.hid hrw
        have HBU1 := HB
        clear hU hrw hL
        go_wp2_with fail
        refine wp_region_seg (S := fun w' => Below U1.heap.size U1 w') 7 #[true, true, true, true, true, true, true, true, false, false, false, false, false, false, false] [(0, true), (1, true), (2, true), (3, true), (4, true), (5, true), (6, true), (7, true)] (by kernel_rfl) (by kernel_rfl) (fun _ _ d _ _ h => by cases d <;> exact h) ((Below.refl U1.heap.size U1).drew) ?_
        have HB := (Below.refl U1.heap.size U1).drew
        iterate 8 (refine seg_take (v := ?_) rfl (Or.inl ⟨by rfl, ?_⟩) ?_; rotate_left; (focus (intro w' hw'; have k1 := (hw'.cell (p := ⟨w7.heap.size, i, none⟩) (Nat.lt_of_lt_of_le xK HBU1.size)).trans ((HBU1.cell (p := ⟨w7.heap.size, i, none⟩) xK).trans j1); have k2 := (hw'.cell (p := ⟨w7.heap.size, k, none⟩) (Nat.lt_of_lt_of_le xK HBU1.size)).trans ((HBU1.cell (p := ⟨w7.heap.size, k, none⟩) xK).trans j2); go_simp <;> with_reducible rfl)); try simp only [Act.put, List.setIfInBounds_toArray, List.set_cons_zero, List.set_cons_succ])
        refine seg_done (fun _ => ?_)
        refine wpAnyH_two (i := 8) (j := 12) (f := 6) (by kernel_rfl) ?_ ?_
        · skip
          refine op_run rfl (fun K hK => ?_)
          go_simp
          refine (refsuChoose_as Ai ni ci Y Ak nk ck Z _ x9 E9 HX9.out HE9.out (ri.below (below_then (below_then HJ HBU1) HB)) (rk.below (below_then HBU1 HB))).mono ?_
          rintro e wC ⟨rfl, hbC⟩
          try have hL := (hbC.block _ (by omega)).trans hL
          try have hLlt := Nat.lt_of_lt_of_le hLlt hbC.size
          have HB := below_then HB hbC
          refine hK.out _ _ (HB) ?_
          clear hK
          try simp only [Act.put, List.setIfInBounds_toArray, List.set_cons_zero, List.set_cons_succ]
          refine wpAnyH_seg (by kernel_rfl) (fun _ _ d _ _ h => by cases d <;> exact h) 0 #[true, true, true, true, true, true, true, true, true, true, true, true, true, true, true] [(9, true), (10, true), (11, true), (12, false), (13, false), (14, true)] _ _ _ (by kernel_rfl) (HB) ?_
          iterate 3 (refine seg_take (v := ?_) rfl (Or.inl ⟨by rfl, ?_⟩) ?_; rotate_left; (focus (intro w' hw'; have k1 := (hw'.cell (p := ⟨w7.heap.size, i, none⟩) (Nat.lt_of_lt_of_le xK HBU1.size)).trans ((HBU1.cell (p := ⟨w7.heap.size, i, none⟩) xK).trans j1); have k2 := (hw'.cell (p := ⟨w7.heap.size, k, none⟩) (Nat.lt_of_lt_of_le xK HBU1.size)).trans ((HBU1.cell (p := ⟨w7.heap.size, k, none⟩) xK).trans j2); go_simp <;> with_reducible rfl)); try simp only [Act.put, List.setIfInBounds_toArray, List.set_cons_zero, List.set_cons_succ])
          refine seg_run rfl (fun K hK => ?_)
          rw [if_pos (by rfl)]
          refine op_new #[.int .u32 0, .int .i64 0, .int .i64 0, .int .u8 0, .int .u8 0, .int .u8 0, .int .u8 0, .int .u8 0, .int .u8 0, .int .u8 0, .int .u8 0, .int .u8 0, .int .u8 0, .int .u8 0, .int .u8 0, .int .u8 0, .int .u8 0, .int .u8 0, .int .u8 0, .int .u8 0, .int .u8 0, .int .u8 0, .int .u8 0, .int .u8 0, .int .u8 0, .int .u8 0, .int .u8 0, .int .u8 0, .int .u8 0, .int .u8 0, .int .u8 0, .int .u8 0, .int .u8 0, .int .u8 0, .int .u8 0] 26 (fun w => by go_simp) ?_
          intro gB wL eL hL HBl hLsz
          have HBz := HB.size
          have hgle : U1.heap.size ≤ gB := by omega
          have hLlt : gB < wL.heap.size := by omega
          have HB := below_then HB HBl
          clear eL hLsz HBz
          refine hK.out _ _ (HB) ?_
          clear hK
          try simp only [Act.put, List.setIfInBounds_toArray, List.set_cons_zero, List.set_cons_succ]
          refine seg_run rfl (fun K hK => ?_)
          rw [if_pos (by rfl)]
          refine wp_store_row _ _ _ rfl gB x9.v rfl rfl _ _ hL (x9.info HX9L.out) (Su.size suZ x9 suZ_len HX9L.out) (suV_one ..) ?_
          have HB := below_setRow HB hgle x9.v
          refine hK.out _ _ (HB) ?_
          clear hK
          try simp only [Act.put, List.setIfInBounds_toArray, List.set_cons_zero, List.set_cons_succ]
          iterate 1 (refine seg_take (v := ?_) rfl (Or.inl ⟨by rfl, ?_⟩) ?_; rotate_left; (focus (intro w' hw'; have k1 := (hw'.cell (p := ⟨w7.heap.size, i, none⟩) (Nat.lt_of_lt_of_le xK HBU1.size)).trans ((HBU1.cell (p := ⟨w7.heap.size, i, none⟩) xK).trans j1); have k2 := (hw'.cell (p := ⟨w7.heap.size, k, none⟩) (Nat.lt_of_lt_of_le xK HBU1.size)).trans ((HBU1.cell (p := ⟨w7.heap.size, k, none⟩) xK).trans j2); go_simp <;> with_reducible rfl)); try simp only [Act.put, List.setIfInBounds_toArray, List.set_cons_zero, List.set_cons_succ])
          refine seg_done (fun _ => ?_)
          refine wpAnyH_done (by kernel_rfl) ?_ _
          have hrw := setRow_heap _ gB _ x9.v _ _ hL
          obtain ⟨U2, hU⟩ : ∃ U, U = wL.setRow gB x9.v := ⟨_, rfl⟩
          first
            | (rw [← hU] at hrw HB ⊢)
            | (clear hU; obtain ⟨U2, hU⟩ : ∃ U, U = wC.setRow gB x9.v := ⟨_, rfl⟩; rw [← hU] at hrw HB ⊢)
          have hglU2 : gB < U2.heap.size := by rw [hU]; simp; omega
          have HRU2 := Lib.hid hrw
          have HBU2 := HB
          clear hU hrw hL
          have HB2 := below_then HBU1 HBU2
          have HRA := Lib.hid ((HBU2.block gA (by omega)).trans HRU1.out)
          have qq := Q10.out
          go_wp2_with (first
            | (refine su_load rfl _ rfl gA rfl x9 HRA.out HX9L.out ?_)
            | (refine su_load rfl _ rfl gB rfl x9 HRU2.out HX9L.out ?_))
          go_roundw
          case rel => exact ⟨k + 1, by omega, by go_num, below_then HJ HB2⟩
          case measure => simp [intOf]; omega
        · skip
          refine op_run rfl (fun K hK => ?_)
          rw [if_pos (by rfl)]
          refine op_new #[.int .u32 0, .int .i64 0, .int .i64 0, .int .u8 0, .int .u8 0, .int .u8 0, .int .u8 0, .int .u8 0, .int .u8 0, .int .u8 0, .int .u8 0, .int .u8 0, .int .u8 0, .int .u8 0, .int .u8 0, .int .u8 0, .int .u8 0, .int .u8 0, .int .u8 0, .int .u8 0, .int .u8 0, .int .u8 0, .int .u8 0, .int .u8 0, .int .u8 0, .int .u8 0, .int .u8 0, .int .u8 0, .int .u8 0, .int .u8 0, .int .u8 0, .int .u8 0, .int .u8 0, .int .u8 0, .int .u8 0] 26 (fun w => by go_simp) ?_
          intro gB wL eL hL HBl hLsz
          have HBz := HB.size
          have hgle : U1.heap.size ≤ gB := by omega
          have hLlt : gB < wL.heap.size := by omega
          have HB := below_then HB HBl
          clear eL hLsz HBz
          refine hK.out _ _ (HB) ?_
          clear hK
          try simp only [Act.put, List.setIfInBounds_toArray, List.set_cons_zero, List.set_cons_succ]
          refine wpAnyH_seg (by kernel_rfl) (fun _ _ d _ _ h => by cases d <;> exact h) 0 #[true, true, true, true, true, true, true, true, true, true, true, true, true, true, true] [(8, false), (9, true), (10, true), (11, true), (13, false), (14, true)] _ _ _ (by kernel_rfl) (HB) ?_
          refine seg_run rfl (fun K hK => ?_)
          go_simp
          refine (refsuChoose_as Ai ni ci Y Ak nk ck Z _ x9 E9 HX9.out HE9.out (ri.below (below_then (below_then HJ HBU1) HB)) (rk.below (below_then HBU1 HB))).mono ?_
          rintro e wC ⟨rfl, hbC⟩
          try have hL := (hbC.block _ (by omega)).trans hL
          try have hLlt := Nat.lt_of_lt_of_le hLlt hbC.size
          have HB := below_then HB hbC
          refine hK.out _ _ (HB) ?_
          clear hK
          try simp only [Act.put, List.setIfInBounds_toArray, List.set_cons_zero, List.set_cons_succ]
          iterate 3 (refine seg_take (v := ?_) rfl (Or.inl ⟨by rfl, ?_⟩) ?_; rotate_left; (focus (intro w' hw'; have k1 := (hw'.cell (p := ⟨w7.heap.size, i, none⟩) (Nat.lt_of_lt_of_le xK HBU1.size)).trans ((HBU1.cell (p := ⟨w7.heap.size, i, none⟩) xK).trans j1); have k2 := (hw'.cell (p := ⟨w7.heap.size, k, none⟩) (Nat.lt_of_lt_of_le xK HBU1.size)).trans ((HBU1.cell (p := ⟨w7.heap.size, k, none⟩) xK).trans j2); go_simp <;> with_reducible rfl)); try simp only [Act.put, List.setIfInBounds_toArray, List.set_cons_zero, List.set_cons_succ])
          refine seg_run rfl (fun K hK => ?_)
          rw [if_pos (by rfl)]
          refine wp_store_row _ _ _ rfl gB x9.v rfl rfl _ _ hL (x9.info HX9L.out) (Su.size suZ x9 suZ_len HX9L.out) (suV_one ..) ?_
          have HB := below_setRow HB hgle x9.v
          refine hK.out _ _ (HB) ?_
          clear hK
          try simp only [Act.put, List.setIfInBounds_toArray, List.set_cons_zero, List.set_cons_succ]
          iterate 1 (refine seg_take (v := ?_) rfl (Or.inl ⟨by rfl, ?_⟩) ?_; rotate_left; (focus (intro w' hw'; have k1 := (hw'.cell (p := ⟨w7.heap.size, i, none⟩) (Nat.lt_of_lt_of_le xK HBU1.size)).trans ((HBU1.cell (p := ⟨w7.heap.size, i, none⟩) xK).trans j1); have k2 := (hw'.cell (p := ⟨w7.heap.size, k, none⟩) (Nat.lt_of_lt_of_le xK HBU1.size)).trans ((HBU1.cell (p := ⟨w7.heap.size, k, none⟩) xK).trans j2); go_simp <;> with_reducible rfl)); try simp only [Act.put, List.setIfInBounds_toArray, List.set_cons_zero, List.set_cons_succ])
          refine seg_done (fun _ => ?_)
          refine wpAnyH_done (by kernel_rfl) ?_ _
          have hrw := setRow_heap _ gB _ x9.v _ _ hL
          obtain ⟨U2, hU⟩ : ∃ U, U = wL.setRow gB x9.v := ⟨_, rfl⟩
          first
            | (rw [← hU] at hrw HB ⊢)
            | (clear hU; obtain ⟨U2, hU⟩ : ∃ U, U = wC.setRow gB x9.v := ⟨_, rfl⟩; rw [← hU] at hrw HB ⊢)
          have hglU2 : gB < U2.heap.size := by rw [hU]; simp; omega
          have HRU2 := Lib.hid hrw
          have HBU2 := HB
          clear hU hrw hL
          have HB2 := below_then HBU1 HBU2
          have HRA := Lib.hid ((HBU2.block gA (by omega)).trans HRU1.out)
          have qq := Q10.out
          go_wp2_with (first
            | (refine su_load rfl _ rfl gA rfl x9 HRA.out HX9L.out ?_)
            | (refine su_load rfl _ rfl gB rfl x9 HRU2.out HX9L.out ?_))
          go_roundw
          case rel => exact ⟨k + 1, by omega, by go_num, below_then HJ HB2⟩
          case measure => simp [intOf]; omega
      · skip
        refine op_run rfl (fun K hK => ?_)
        rw [if_pos (by rfl)]
        refine op_new #[.int .u32 0, .int .i64 0, .int .i64 0, .int .u8 0, .int .u8 0, .int .u8 0, .int .u8 0, .int .u8 0, .int .u8 0, .int .u8 0, .int .u8 0, .int .u8 0, .int .u8 0, .int .u8 0, .int .u8 0, .int .u8 0, .int .u8 0, .int .u8 0, .int .u8 0, .int .u8 0, .int .u8 0, .int .u8 0, .int .u8 0, .int .u8 0, .int .u8 0, .int .u8 0, .int .u8 0, .int .u8 0, .int .u8 0, .int .u8 0, .int .u8 0, .int .u8 0, .int .u8 0, .int .u8 0, .int .u8 0] 26 (fun w => by go_simp) ?_
        intro gA wL eL hL HBl hLsz
        have HBz := HB.size
        have hgle : wk.heap.size ≤ gA := by omega
        have hLlt : gA < wL.heap.size := by omega
        have HB := below_then HB HBl
        clear eL hLsz HBz
        refine hK.out _ _ (HB) ?_
        clear hK
        try simp only [Act.put, List.setIfInBounds_toArray, List.set_cons_zero, List.set_cons_succ]
        refine wpAnyH_seg (by kernel_rfl) (fun _ _ d _ _ h => by cases d <;> exact h) 0 #[true, true, true, true, true, true, true, true, true, true, true, true, true, true, true] [(8, false), (9, true), (10, true), (11, true), (13, false), (14, true)] _ _ _ (by kernel_rfl) (HB) ?_
        refine seg_run rfl (fun K hK => ?_)
        go_simp
        refine (suChoose_as Ai ni ci Y Ak nk ck Z _ x9 E9 HX9.out HE9.out (ri.below (below_then HJ HB)) (rk.below (HB))).mono ?_
        rintro e wC ⟨rfl, hbC⟩
        try have hL := (hbC.block _ (by omega)).trans hL
        try have hLlt := Nat.lt_of_lt_of_le hLlt hbC.size
        have HB := below_then HB hbC
        refine hK.out _ _ (HB) ?_
        clear hK
        try simp only [Act.put, List.setIfInBounds_toArray, List.set_cons_zero, List.set_cons_succ]
        iterate 3 (refine seg_take (v := ?_) rfl (Or.inl ⟨by rfl, ?_⟩) ?_; rotate_left; (focus (intro w' hw'; have k1 := (hw'.cell (p := ⟨w7.heap.size, i, none⟩) xK).trans j1; have k2 := (hw'.cell (p := ⟨w7.heap.size, k, none⟩) xK).trans j2; go_simp <;> with_reducible rfl)); try simp only [Act.put, List.setIfInBounds_toArray, List.set_cons_zero, List.set_cons_succ])
        refine seg_run rfl (fun K hK => ?_)
        rw [if_pos (by rfl)]
        refine wp_store_row _ _ _ rfl gA x9.v rfl rfl _ _ hL (x9.info HX9L.out) (Su.size suZ x9 suZ_len HX9L.out) (suV_one ..) ?_
        have HB := below_setRow HB hgle x9.v
        refine hK.out _ _ (HB) ?_
        clear hK
        try simp only [Act.put, List.setIfInBounds_toArray, List.set_cons_zero, List.set_cons_succ]
        iterate 1 (refine seg_take (v := ?_) rfl (Or.inl ⟨by rfl, ?_⟩) ?_; rotate_left; (focus (intro w' hw'; have k1 := (hw'.cell (p := ⟨w7.heap.size, i, none⟩) xK).trans j1; have k2 := (hw'.cell (p := ⟨w7.heap.size, k, none⟩) xK).trans j2; go_simp <;> with_reducible rfl)); try simp only [Act.put, List.setIfInBounds_toArray, List.set_cons_zero, List.set_cons_succ])
        refine seg_done (fun _ => ?_)
        refine wpAnyH_done (by kernel_rfl) ?_ _
        have hrw := setRow_heap _ gA _ x9.v _ _ hL
        obtain ⟨U1, hU⟩ : ∃ U, U = wL.setRow gA x9.v := ⟨_, rfl⟩
        first
          | (rw [← hU] at hrw HB ⊢)
          | (clear hU; obtain ⟨U1, hU⟩ : ∃ U, U = wC.setRow gA x9.v := ⟨_, rfl⟩; rw [← hU] at hrw HB ⊢)
        have hglU1 : gA < U1.heap.size := by rw [hU]; simp; omega
        have HRU1 := Lib.hid hrw
        have HBU1 := HB
        clear hU hrw hL
        go_wp2_with fail
        refine wp_region_seg (S := fun w' => Below U1.heap.size U1 w') 7 #[true, true, true, true, true, true, true, true, false, false, false, false, false, false, false] [(0, true), (1, true), (2, true), (3, true), (4, true), (5, true), (6, true), (7, true)] (by kernel_rfl) (by kernel_rfl) (fun _ _ d _ _ h => by cases d <;> exact h) ((Below.refl U1.heap.size U1).drew) ?_
        have HB := (Below.refl U1.heap.size U1).drew
        iterate 8 (refine seg_take (v := ?_) rfl (Or.inl ⟨by rfl, ?_⟩) ?_; rotate_left; (focus (intro w' hw'; have k1 := (hw'.cell (p := ⟨w7.heap.size, i, none⟩) (Nat.lt_of_lt_of_le xK HBU1.size)).trans ((HBU1.cell (p := ⟨w7.heap.size, i, none⟩) xK).trans j1); have k2 := (hw'.cell (p := ⟨w7.heap.size, k, none⟩) (Nat.lt_of_lt_of_le xK HBU1.size)).trans ((HBU1.cell (p := ⟨w7.heap.size, k, none⟩) xK).trans j2); go_simp <;> with_reducible rfl)); try simp only [Act.put, List.setIfInBounds_toArray, List.set_cons_zero, List.set_cons_succ])
        refine seg_done (fun _ => ?_)
        refine wpAnyH_two (i := 8) (j := 12) (f := 6) (by kernel_rfl) ?_ ?_
        · skip
          refine op_run rfl (fun K hK => ?_)
          go_simp
          refine (refsuChoose_as Ai ni ci Y Ak nk ck Z _ x9 E9 HX9.out HE9.out (ri.below (below_then (below_then HJ HBU1) HB)) (rk.below (below_then HBU1 HB))).mono ?_
          rintro e wC ⟨rfl, hbC⟩
          try have hL := (hbC.block _ (by omega)).trans hL
          try have hLlt := Nat.lt_of_lt_of_le hLlt hbC.size
          have HB := below_then HB hbC
          refine hK.out _ _ (HB) ?_
          clear hK
          try simp only [Act.put, List.setIfInBounds_toArray, List.set_cons_zero, List.set_cons_succ]
          refine wpAnyH_seg (by kernel_rfl) (fun _ _ d _ _ h => by cases d <;> exact h) 0 #[true, true, true, true, true, true, true, true, true, true, true, true, true, true, true] [(9, true), (10, true), (11, true), (12, false), (13, false), (14, true)] _ _ _ (by kernel_rfl) (HB) ?_
          iterate 3 (refine seg_take (v := ?_) rfl (Or.inl ⟨by rfl, ?_⟩) ?_; rotate_left; (focus (intro w' hw'; have k1 := (hw'.cell (p := ⟨w7.heap.size, i, none⟩) (Nat.lt_of_lt_of_le xK HBU1.size)).trans ((HBU1.cell (p := ⟨w7.heap.size, i, none⟩) xK).trans j1); have k2 := (hw'.cell (p := ⟨w7.heap.size, k, none⟩) (Nat.lt_of_lt_of_le xK HBU1.size)).trans ((HBU1.cell (p := ⟨w7.heap.size, k, none⟩) xK).trans j2); go_simp <;> with_reducible rfl)); try simp only [Act.put, List.setIfInBounds_toArray, List.set_cons_zero, List.set_cons_succ])
          refine seg_run rfl (fun K hK => ?_)
          rw [if_pos (by rfl)]
          refine op_new #[.int .u32 0, .int .i64 0, .int .i64 0, .int .u8 0, .int .u8 0, .int .u8 0, .int .u8 0, .int .u8 0, .int .u8 0, .int .u8 0, .int .u8 0, .int .u8 0, .int .u8 0, .int .u8 0, .int .u8 0, .int .u8 0, .int .u8 0, .int .u8 0, .int .u8 0, .int .u8 0, .int .u8 0, .int .u8 0, .int .u8 0, .int .u8 0, .int .u8 0, .int .u8 0, .int .u8 0, .int .u8 0, .int .u8 0, .int .u8 0, .int .u8 0, .int .u8 0, .int .u8 0, .int .u8 0, .int .u8 0] 26 (fun w => by go_simp) ?_
          intro gB wL eL hL HBl hLsz
          have HBz := HB.size
          have hgle : U1.heap.size ≤ gB := by omega
          have hLlt : gB < wL.heap.size := by omega
          have HB := below_then HB HBl
          clear eL hLsz HBz
          refine hK.out _ _ (HB) ?_
          clear hK
          try simp only [Act.put, List.setIfInBounds_toArray, List.set_cons_zero, List.set_cons_succ]
          refine seg_run rfl (fun K hK => ?_)
          rw [if_pos (by rfl)]
          refine wp_store_row _ _ _ rfl gB x9.v rfl rfl _ _ hL (x9.info HX9L.out) (Su.size suZ x9 suZ_len HX9L.out) (suV_one ..) ?_
          have HB := below_setRow HB hgle x9.v
          refine hK.out _ _ (HB) ?_
          clear hK
          try simp only [Act.put, List.setIfInBounds_toArray, List.set_cons_zero, List.set_cons_succ]
          iterate 1 (refine seg_take (v := ?_) rfl (Or.inl ⟨by rfl, ?_⟩) ?_; rotate_left; (focus (intro w' hw'; have k1 := (hw'.cell (p := ⟨w7.heap.size, i, none⟩) (Nat.lt_of_lt_of_le xK HBU1.size)).trans ((HBU1.cell (p := ⟨w7.heap.size, i, none⟩) xK).trans j1); have k2 := (hw'.cell (p := ⟨w7.heap.size, k, none⟩) (Nat.lt_of_lt_of_le xK HBU1.size)).trans ((HBU1.cell (p := ⟨w7.heap.size, k, none⟩) xK).trans j2); go_simp <;> with_reducible rfl)); try simp only [Act.put, List.setIfInBounds_toArray, List.set_cons_zero, List.set_cons_succ])
          refine seg_done (fun _ => ?_)
          refine wpAnyH_done (by kernel_rfl) ?_ _
          have hrw := setRow_heap _ gB _ x9.v _ _ hL
          obtain ⟨U2, hU⟩ : ∃ U, U = wL.setRow gB x9.v := ⟨_, rfl⟩
          first
            | (rw [← hU] at hrw HB ⊢)
            | (clear hU; obtain ⟨U2, hU⟩ : ∃ U, U = wC.setRow gB x9.v := ⟨_, rfl⟩; rw [← hU] at hrw HB ⊢)
          have hglU2 : gB < U2.heap.size := by rw [hU]; simp; omega
          have HRU2 := Lib.hid hrw
          have HBU2 := HB
          clear hU hrw hL
          have HB2 := below_then HBU1 HBU2
          have HRA := Lib.hid ((HBU2.block gA (by omega)).trans HRU1.out)
          have qq := Q10.out
          go_wp2_with (first
            | (refine su_load rfl _ rfl gA rfl x9 HRA.out HX9L.out ?_)
            | (refine su_load rfl _ rfl gB rfl x9 HRU2.out HX9L.out ?_))
          go_roundw
          case rel => exact ⟨k + 1, by omega, by go_num, below_then HJ HB2⟩
          case measure => simp [intOf]; omega
        · skip
          refine op_run rfl (fun K hK => ?_)
          rw [if_pos (by rfl)]
          refine op_new #[.int .u32 0, .int .i64 0, .int .i64 0, .int .u8 0, .int .u8 0, .int .u8 0, .int .u8 0, .int .u8 0, .int .u8 0, .int .u8 0, .int .u8 0, .int .u8 0, .int .u8 0, .int .u8 0, .int .u8 0, .int .u8 0, .int .u8 0, .int .u8 0, .int .u8 0, .int .u8 0, .int .u8 0, .int .u8 0, .int .u8 0, .int .u8 0, .int .u8 0, .int .u8 0, .int .u8 0, .int .u8 0, .int .u8 0, .int .u8 0, .int .u8 0, .int .u8 0, .int .u8 0, .int .u8 0, .int .u8 0] 26 (fun w => by go_simp) ?_
          intro gB wL eL hL HBl hLsz
          have HBz := HB.size
          have hgle : U1.heap.size ≤ gB := by omega
          have hLlt : gB < wL.heap.size := by omega
          have HB := below_then HB HBl
          clear eL hLsz HBz
          refine hK.out _ _ (HB) ?_
          clear hK
          try simp only [Act.put, List.setIfInBounds_toArray, List.set_cons_zero, List.set_cons_succ]
          refine wpAnyH_seg (by kernel_rfl) (fun _ _ d _ _ h => by cases d <;> exact h) 0 #[true, true, true, true, true, true, true, true, true, true, true, true, true, true, true] [(8, false), (9, true), (10, true), (11, true), (13, false), (14, true)] _ _ _ (by kernel_rfl) (HB) ?_
          refine seg_run rfl (fun K hK => ?_)
          go_simp
          refine (refsuChoose_as Ai ni ci Y Ak nk ck Z _ x9 E9 HX9.out HE9.out (ri.below (below_then (below_then HJ HBU1) HB)) (rk.below (below_then HBU1 HB))).mono ?_
          rintro e wC ⟨rfl, hbC⟩
          try have hL := (hbC.block _ (by omega)).trans hL
          try have hLlt := Nat.lt_of_lt_of_le hLlt hbC.size
          have HB := below_then HB hbC
          refine hK.out _ _ (HB) ?_
          clear hK
          try simp only [Act.put, List.setIfInBounds_toArray, List.set_cons_zero, List.set_cons_succ]
          iterate 3 (refine seg_take (v := ?_) rfl (Or.inl ⟨by rfl, ?_⟩) ?_; rotate_left; (focus (intro w' hw'; have k1 := (hw'.cell (p := ⟨w7.heap.size, i, none⟩) (Nat.lt_of_lt_of_le xK HBU1.size)).trans ((HBU1.cell (p := ⟨w7.heap.size, i, none⟩) xK).trans j1); have k2 := (hw'.cell (p := ⟨w7.heap.size, k, none⟩) (Nat.lt_of_lt_of_le xK HBU1.size)).trans ((HBU1.cell (p := ⟨w7.heap.size, k, none⟩) xK).trans j2); go_simp <;> with_reducible rfl)); try simp only [Act.put, List.setIfInBounds_toArray, List.set_cons_zero, List.set_cons_succ])
          refine seg_run rfl (fun K hK => ?_)
          rw [if_pos (by rfl)]
          refine wp_store_row _ _ _ rfl gB x9.v rfl rfl _ _ hL (x9.info HX9L.out) (Su.size suZ x9 suZ_len HX9L.out) (suV_one ..) ?_
          have HB := below_setRow HB hgle x9.v
          refine hK.out _ _ (HB) ?_
          clear hK
          try simp only [Act.put, List.setIfInBounds_toArray, List.set_cons_zero, List.set_cons_succ]
          iterate 1 (refine seg_take (v := ?_) rfl (Or.inl ⟨by rfl, ?_⟩) ?_; rotate_left; (focus (intro w' hw'; have k1 := (hw'.cell (p := ⟨w7.heap.size, i, none⟩) (Nat.lt_of_lt_of_le xK HBU1.size)).trans ((HBU1.cell (p := ⟨w7.heap.size, i, none⟩) xK).trans j1); have k2 := (hw'.cell (p := ⟨w7.heap.size, k, none⟩) (Nat.lt_of_lt_of_le xK HBU1.size)).trans ((HBU1.cell (p := ⟨w7.heap.size, k, none⟩) xK).trans j2); go_simp <;> with_reducible rfl)); try simp only [Act.put, List.setIfInBounds_toArray, List.set_cons_zero, List.set_cons_succ])
          refine seg_done (fun _ => ?_)
          refine wpAnyH_done (by kernel_rfl) ?_ _
          have hrw := setRow_heap _ gB _ x9.v _ _ hL
          obtain ⟨U2, hU⟩ : ∃ U, U = wL.setRow gB x9.v := ⟨_, rfl⟩
          first
            | (rw [← hU] at hrw HB ⊢)
            | (clear hU; obtain ⟨U2, hU⟩ : ∃ U, U = wC.setRow gB x9.v := ⟨_, rfl⟩; rw [← hU] at hrw HB ⊢)
          have hglU2 : gB < U2.heap.size := by rw [hU]; simp; omega
          have HRU2 := Lib.hid hrw
          have HBU2 := HB
          clear hU hrw hL
          have HB2 := below_then HBU1 HBU2
          have HRA := Lib.hid ((HBU2.block gA (by omega)).trans HRU1.out)
          have qq := Q10.out
          go_wp2_with (first
            | (refine su_load rfl _ rfl gA rfl x9 HRA.out HX9L.out ?_)
            | (refine su_load rfl _ rfl gB rfl x9 HRU2.out HX9L.out ?_))
          go_roundw
          case rel => exact ⟨k + 1, by omega, by go_num, below_then HJ HB2⟩
          case measure => simp [intOf]; omega
    · obtain rfl : k = 5 := by omega
      go_wp2
      go_roundw
      case rel => exact ⟨i + 1, by omega, by go_num, below_then BI2 HJ⟩
      case measure => simp [intOf]; omega
  · obtain rfl : i = 5 := by omega
    go_wp2_with fail
    refine (heads13 _).mono ?_
    rintro e w9 ⟨rfl, hb9⟩
    go_wp2
    go_ret
    exact ⟨rfl, below_then BX (below_then HI hb9)⟩
theorem superTells_law (g : Nat) (sl l : Int) (D : List UInt8) (A : Option Addr) (n c : Nat) (xs : List UInt8) (B : Option Addr) (m d : Nat) (ys : List UInt8) (z : Int) (w : World) (hg : g < 4294967296) (hsl : -9223372036854775808 ≤ sl ∧ sl ≤ 9223372036854775807) (hl : -9223372036854775808 ≤ l ∧ l ≤ 9223372036854775807) (hD : D.length = 32) (hr : RdB w A n c xs) (hq : RdB w B m d ys) (hz : -9223372036854775808 ≤ z ∧ z ≤ 9223372036854775807) :
    Calls Try.prog 4 #[.agg (suV g sl l D), .slice A n c, .slice B m d, .int .i64 z] w (RetV w (.bool true)) := by
  by_cases h : 300 < n
  · exact supTells_early ⟨g, sl, l, D⟩ A n c xs B m d ys z w hr hq (.inl h)
  · by_cases h2 : 300 < m
    · exact supTells_early ⟨g, sl, l, D⟩ A n c xs B m d ys z w hr hq (.inr ⟨by omega, h2⟩)
    · exact supTells_main ⟨g, sl, l, D⟩ A n c xs B m d ys z w ⟨hg, hsl, hl, hD⟩ hr hq (by omega) (by omega)
end Go.Proofs.Ytmbdfanaegadjaa
