/-
  The walks of package mem, second part: Num, PutNum, New.
-/
import Derived.Test.YtnfepikgbdeomaaMem
namespace Go.Proofs.Ytnfepikgbdeomaa
set_option maxRecDepth 20000
open Go.RowKit
set_option linter.unusedVariables false
set_option linter.unusedSimpArgs false

def memSz (n : Nat) (s : Int) : Int := if n ≤ 8192 then (if s < 1 then 2 else if 8 < s then 2 else 0) else 3
theorem memSz_ok {n : Nat} {s : Int} (h : memSz n s = 0) : n ≤ 8192 ∧ 1 ≤ s ∧ s ≤ 8 := by
  unfold memSz at h
  split at h
  · split at h
    · cases h
    · split at h
      · cases h
      · omega
  · cases h

theorem sized_any (A : Option Addr) (n c : Nat) (s : Int) (w : World) (hn : n ≤ 9223372036854775807) (hs : -9223372036854775808 ≤ s ∧ s ≤ 9223372036854775807) :
    Calls Try.prog 145 #[.agg #[.slice A n c], .int .i64 s] w (RetV w (.int .i64 (memSz n s))) := by
  obtain ⟨r, hr⟩ : ∃ r, r = memSz n s := ⟨_, rfl⟩
  rw [← hr]
  unfold memSz at hr
  by_cases h : n ≤ 8192
  · rw [if_pos h] at hr
    have d0 : decide (n ≤ 8192) = true := decide_eq_true h
    by_cases h1 : s < 1
    · rw [if_pos h1] at hr
      have d1 : decide (s < 1) = true := decide_eq_true h1
      subst hr
      clear h h1
      go_enter Try.func145, Try.ntmps145
      go_wp2_with (go_at_call 80; refine (memCheck_any A n c _ hn).mono ?_; rintro e w1 ⟨rfl, hb1⟩; rw [d0])
      go_ret
      exact ⟨rfl, bstep (below_self w) hb1⟩
    · rw [if_neg h1] at hr
      have d1 : decide (s < 1) = false := decide_eq_false h1
      by_cases h2 : 8 < s
      · rw [if_pos h2] at hr
        have d2 : decide (8 < s) = true := decide_eq_true h2
        subst hr
        clear h h1 h2
        go_enter Try.func145, Try.ntmps145
        go_wp2_with (go_at_call 80; refine (memCheck_any A n c _ hn).mono ?_; rintro e w1 ⟨rfl, hb1⟩; rw [d0])
        go_ret
        exact ⟨rfl, bstep (below_self w) hb1⟩
      · rw [if_neg h2] at hr
        have d2 : decide (8 < s) = false := decide_eq_false h2
        subst hr
        clear h h1 h2
        go_enter Try.func145, Try.ntmps145
        go_wp2_with (go_at_call 80; refine (memCheck_any A n c _ hn).mono ?_; rintro e w1 ⟨rfl, hb1⟩; rw [d0])
        go_ret
        exact ⟨rfl, bstep (below_self w) hb1⟩
  · rw [if_neg h] at hr
    subst hr
    have d0 : decide (n ≤ 8192) = false := decide_eq_false h
    go_enter Try.func145, Try.ntmps145
    go_wp2_with (go_at_call 80; refine (memCheck_any A n c _ hn).mono ?_; rintro e w1 ⟨rfl, hb1⟩; rw [d0])
    go_ret
    exact ⟨rfl, bstep (below_self w) hb1⟩

def memNum (xs : List UInt8) (a s : Int) : Nat := if memSz xs.length s = 0 then fromLe (memGet xs a s) else 0
def memNumE (n : Nat) (a s : Int) : Int := if memSz n s = 0 then memAsk n a s else memSz n s
theorem memNum_any (A : Option Addr) (n c : Nat) (xs : List UInt8) (a s : Int) (w : World) (hr : RdB w A n c xs) (ha : -9223372036854775808 ≤ a ∧ a ≤ 9223372036854775807) (hs : -9223372036854775808 ≤ s ∧ s ≤ 9223372036854775807) :
    Calls Try.prog 117 #[.agg #[.slice A n c], .int .i64 a, .int .i64 s] w (RetT w (.int .u64 (memNum xs a s)) (.int .i64 (memNumE n a s))) := by
  have hn63 := hr.n63
  obtain ⟨r, hr'⟩ : ∃ r, r = memNumE n a s := ⟨_, rfl⟩
  obtain ⟨v, hv'⟩ : ∃ v, v = memNum xs a s := ⟨_, rfl⟩
  rw [← hr', ← hv']
  unfold memNumE at hr'
  unfold memNum at hv'
  rw [hr.2.1] at hv'
  by_cases h : memSz n s = 0
  · rw [if_pos h] at hr' hv'
    have H := Lib.hid h
    have HR := Lib.hid hr'
    have HV := Lib.hid hv'
    clear h hr' hv'
    go_enter Try.func117, Try.ntmps117
    go_wp2_with (first
      | (go_at_call 145; refine (sized_any A n c s _ hn63 hs).mono ?_; rintro e w1 ⟨rfl, hb1⟩; rw [H.out]; have hc1 := boxed hb1 0)
      | (go_at_call 149; refine (fromLe_any A2 n2 c2 _ _ ho2.rd).mono ?_; rintro e w3 ⟨rfl, rfl⟩)
      | (go_at_call 148; refine (get_any A n c xs a s _ (hr.below (bstep (below_self w) hb1)) ha hs).mono ?_; rintro e w2 ⟨A2, n2, c2, rfl, ho2, hb2⟩))
    go_ret2
    rw [HV.out, HR.out]
    exact ⟨rfl, below_then (bstep (below_self w) hb1) hb2⟩
  · rw [if_neg h] at hr' hv'
    subst hr' hv'
    obtain ⟨r, hr'⟩ : ∃ r, memSz n s = r := ⟨_, rfl⟩
    have hz : (r != 0) = true := by rw [bne_iff_ne, ← hr']; exact h
    rw [hr']
    have hR := Lib.hid hr'
    clear h hr'
    go_enter Try.func117, Try.ntmps117
    go_wp2_with (go_at_call 145; refine (sized_any A n c s _ hn63 hs).mono ?_; rintro e w1 ⟨rfl, hb1⟩; rw [hR.out])
    go_ret2
    exact ⟨rfl, bstep (below_self w) hb1⟩

def memPutN (xs : List UInt8) (a s : Int) (x : Nat) : List UInt8 := if memSz xs.length s = 0 then memPut xs a (leB x (clamp s)) else xs
theorem putNum_any (A : Option Addr) (n c : Nat) (xs : List UInt8) (a s : Int) (x : Nat) (w : World) (hr : RdB w A n c xs) (ha : -9223372036854775808 ≤ a ∧ a ≤ 9223372036854775807) (hs : -9223372036854775808 ≤ s ∧ s ≤ 9223372036854775807) (hx : x < 18446744073709551616) :
    Calls Try.prog 116 #[.agg #[.slice A n c], .int .i64 a, .int .i64 s, .int .u64 x] w (RetME w A n (memPutN xs a s x) (memNumE n a s)) := by
  have hn63 := hr.n63
  unfold memNumE memPutN
  rw [hr.2.1]
  by_cases h : memSz n s = 0
  · rw [if_pos h, if_pos h]
    have hcl : ((clamp s : Nat) : Int) = s := by obtain ⟨_, _, _⟩ := memSz_ok h; unfold clamp; split <;> (try split) <;> omega
    have H := Lib.hid h
    have HC := Lib.hid hcl
    clear h hcl
    go_enter Try.func116, Try.ntmps116
    go_wp2_with (go_at_call 145; refine (sized_any A n c s _ hn63 hs).mono ?_; rintro e w1 ⟨rfl, hb1⟩; rw [H.out]; obtain ⟨cA, cB, fB, hz, B1⟩ := boxed2 hb1; have cA0 := cA 0; clear cA; have cB0 := cB 0; have fB0 := fB 0; clear cB fB)
    have cA1 : w1.cell? ⟨w.heap.size, 0, none⟩ = some (.slice A n c) := cA0
    refine wp_region_plan (S := fun w' => Below w.heap.size w w' ∧ w'.cell? ⟨w.heap.size, 0, none⟩ = some (.slice A n c)) [(0, true), (1, true), (2, true), (3, true), (4, false), (5, false), (6, true), (7, true), (8, false), (9, true)] (by kernel_rfl) (by kernel_rfl) (fun _ _ d _ _ h => by cases d <;> exact h) ⟨B1.drew, cA1⟩ ?_
    iterate 4 (refine plan_take (v := ?_) rfl (Or.inl ⟨by rfl, ?_⟩) ?_; rotate_left; (focus (intro w' hw'; have ks' := hw'.2; go_simp <;> with_reducible rfl)); try simp only [Act.put, List.setIfInBounds_toArray, List.set_cons_zero, List.set_cons_succ])
    refine plan_run rfl (fun K hK => ?_)
    go_simp
    refine (le_any x s _ hx).mono ?_
    rintro e w2 ⟨A2, n2, c2, rfl, ho2, hb2⟩
    obtain rfl : n2 = clamp s := by rw [← ho2.len, leB_length]
    have hb2' : Below w1.heap.size w1 w2 := undrew hb2
    have cA2 := keepc hb2' (by omega) cA1
    have cB2 := keepc hb2' (by omega) cB0
    have fB2 := keepf hb2' (by omega) fB0
    refine hK.out _ _ ⟨below_then B1 hb2', cA2⟩ ?_
    clear hK
    try simp only [Act.put, List.setIfInBounds_toArray, List.set_cons_zero, List.set_cons_succ]
    refine plan_run rfl (fun K hK => ?_)
    go_simp
    have B2 := below_then B1 hb2'
    have hz2 := hb2'.size
    refine (put_any A n c xs a A2 _ c2 _ w2 (hr.below B2) ha ho2.rd).mono ?_
    rintro e w3 ⟨A3, n3, c3, rfl, ho3, hq3, hb3⟩
    have cA3 := keepc hb3 (by omega) cA2
    have cB3 := keepc hb3 (by omega) cB2
    have fB3 := keepf hb3 (by omega) fB2
    have B3 := below_then B2 hb3
    have hfar : 0 < n3 → ∀ x, A3 = some x → x.block ≠ w.heap.size + 1 := far_of hq3 hr (by omega) (by omega)
    refine hK.out _ _ ⟨B3, cA3⟩ ?_
    clear hK
    try simp only [Act.put, List.setIfInBounds_toArray, List.set_cons_zero, List.set_cons_succ]
    iterate 2 (refine plan_take (v := ?_) rfl (Or.inl ⟨by rfl, ?_⟩) ?_; rotate_left; (focus (intro w' hw'; go_simp <;> with_reducible rfl)); try simp only [Act.put, List.setIfInBounds_toArray, List.set_cons_zero, List.set_cons_succ])
    refine plan_run rfl (fun K hK => ?_)
    go_simp
    refine hK.out _ _ ⟨B3.setCell (by simp) _, by rw [World.cell?_setCell_other _ _ _ _ (by simp)]; exact cA3⟩ ?_
    clear hK
    try simp only [Act.put, List.setIfInBounds_toArray, List.set_cons_zero, List.set_cons_succ]
    iterate 1 (refine plan_take (v := ?_) rfl (Or.inl ⟨by rfl, ?_⟩) ?_; rotate_left; (focus (intro w' hw'; go_simp <;> with_reducible rfl)); try simp only [Act.put, List.setIfInBounds_toArray, List.set_cons_zero, List.set_cons_succ])
    refine plan_done ?_
    go_wp2
    rw [HC.out]
    exact bodyPost_ret (v := .tuple #[.agg #[.slice A3 n3 c3], .int .i64 (memAsk n a s)]) (by simp [results, Try.results116, go_sem, cB3, fB3]) rfl
      ⟨_, _, _, rfl, rd_far ho3 _ _ hfar, hq3.imp id (fun h a ha => by have := h a ha; omega), B3.setCell (by simp) _⟩
  · rw [if_neg h, if_neg h]
    obtain ⟨r, hr'⟩ : ∃ r, memSz n s = r := ⟨_, rfl⟩
    have hz : (r != 0) = true := by rw [bne_iff_ne, ← hr']; exact h
    rw [hr']
    have hR := Lib.hid hr'
    clear h hr'
    go_enter Try.func116, Try.ntmps116
    go_wp2_with (go_at_call 145; refine (sized_any A n c s _ hn63 hs).mono ?_; rintro e w1 ⟨rfl, hb1⟩; rw [hR.out]; obtain ⟨cA, cB, fB, hz1, B1⟩ := boxed2 hb1; have cA0 := cA 0; clear cA; have cB0 := cB 0; have fB0 := fB 0; clear cB fB)
    exact bodyPost_ret (v := .tuple #[.agg #[.slice A n c], .int .i64 r]) (by simp [results, Try.results116, go_sem, cB0, fB0]) rfl
      ⟨_, _, _, rfl, rd_far (hr.below B1) _ _ (fun hn x hx => by have := hr.lt hn x hx; simp; omega), .inl ⟨rfl, rfl⟩, B1.setCell (by simp) _⟩
end Go.Proofs.Ytnfepikgbdeomaa
