/-
  The document's answer for package mem: Check, Inside, Get, Put, Num, PutNum; New of both.
-/
import Derived.Test.YtnfepikgbdeomaaMemC
namespace Go.Proofs.Ytnfepikgbdeomaa
set_option maxRecDepth 20000
open Go.RowKit
set_option linter.unusedVariables false
set_option linter.unusedSimpArgs false

theorem refMemCheck_any (A : Option Addr) (n c : Nat) (w : World) (hn : n ≤ 9223372036854775807) : Calls Try.prog 81 #[.agg #[.slice A n c]] w (RetV w (.bool (decide (n ≤ 8192)))) := by
  by_cases h : n ≤ 8192
  · have d : decide ((n : Int) ≤ 8192) = true := decide_eq_true (by omega)
    rw [decide_eq_true h]
    go_enter Try.func81, Try.ntmps81
    go_wp2
    go_ret
    exact ⟨rfl, (below_self w).alloc (Nat.le_refl _) _⟩
  · have d : decide ((n : Int) ≤ 8192) = false := decide_eq_false (by omega)
    rw [decide_eq_false h]
    go_enter Try.func81, Try.ntmps81
    go_wp2
    go_ret
    exact ⟨rfl, (below_self w).alloc (Nat.le_refl _) _⟩

theorem refInside_any (A : Option Addr) (n c : Nat) (a k : Int) (w : World) (hn : n ≤ 9223372036854775807) (ha : -9223372036854775808 ≤ a ∧ a ≤ 9223372036854775807) (hk : -9223372036854775808 ≤ k ∧ k ≤ 9223372036854775807) :
    Calls Try.prog 82 #[.agg #[.slice A n c], .int .i64 a, .int .i64 k] w (RetV w (.bool (memIn n a k))) := by
  obtain ⟨r, hr⟩ : ∃ r, r = memIn n a k := ⟨_, rfl⟩
  rw [← hr]
  unfold memIn at hr
  by_cases h1 : 0 ≤ a
  · have d1 : decide ((0 : Int) ≤ a) = true := decide_eq_true h1
    by_cases h2 : 0 ≤ k
    · have d2 : decide ((0 : Int) ≤ k) = true := decide_eq_true h2
      by_cases h3 : k ≤ (n : Int)
      · have d3 : decide (k ≤ (n : Int)) = true := decide_eq_true h3
        by_cases h4 : a ≤ (n : Int) - k
        · have d4 : decide (a ≤ (n : Int) - k) = true := decide_eq_true h4
          rw [d1, d2, d3, d4] at hr
          subst hr
          go_enter Try.func82, Try.ntmps82
          go_wp2
          go_ret
          exact ⟨rfl, (below_self w).alloc (Nat.le_refl _) _⟩
        · have d4 : decide (a ≤ (n : Int) - k) = false := decide_eq_false h4
          rw [d1, d2, d3, d4] at hr
          subst hr
          go_enter Try.func82, Try.ntmps82
          go_wp2
          go_ret
          exact ⟨rfl, (below_self w).alloc (Nat.le_refl _) _⟩
      · have d3 : decide (k ≤ (n : Int)) = false := decide_eq_false h3
        rw [d1, d2, d3] at hr
        subst hr
        go_enter Try.func82, Try.ntmps82
        go_wp2
        go_ret
        exact ⟨rfl, (below_self w).alloc (Nat.le_refl _) _⟩
    · have d2 : decide ((0 : Int) ≤ k) = false := decide_eq_false h2
      rw [d1, d2] at hr
      subst hr
      go_enter Try.func82, Try.ntmps82
      go_wp2
      go_ret
      exact ⟨rfl, (below_self w).alloc (Nat.le_refl _) _⟩
  · have d1 : decide ((0 : Int) ≤ a) = false := decide_eq_false h1
    rw [d1] at hr
    subst hr
    go_enter Try.func82, Try.ntmps82
    go_wp2
    go_ret
    exact ⟨rfl, (below_self w).alloc (Nat.le_refl _) _⟩

theorem memAsk_small {n : Nat} {a k : Int} (h : n ≤ 8192) : (memIn n a k = true ∧ memAsk n a k = 0) ∨ (memIn n a k = false ∧ memAsk n a k = 40) := by
  unfold memAsk
  rw [if_pos h]
  cases hm : memIn n a k with
  | true => exact .inl ⟨rfl, if_pos rfl⟩
  | false => exact .inr ⟨rfl, if_neg (by simp)⟩

theorem refGet_any (A : Option Addr) (n c : Nat) (xs : List UInt8) (a k : Int) (w : World) (hr : RdB w A n c xs) (ha : -9223372036854775808 ≤ a ∧ a ≤ 9223372036854775807) (hk : -9223372036854775808 ≤ k ∧ k ≤ 9223372036854775807) :
    Calls Try.prog 150 #[.agg #[.slice A n c], .int .i64 a, .int .i64 k] w (RetBE w (memGet xs a k) (memAsk n a k)) := by
  have hn63 := hr.n63
  unfold memGet
  rw [hr.2.1]
  by_cases h : n ≤ 8192
  · have D0 : decide (n ≤ 8192) = true := decide_eq_true h
    rcases memAsk_small (a := a) (k := k) h with ⟨hi, h0⟩ | ⟨hi, h0⟩
    · rw [if_pos h0, h0]
      obtain ⟨h1, h2, h3, h4, h5⟩ := memAsk_ok h0
      obtain ⟨a, rfl⟩ : ∃ x : Nat, a = x := ⟨a.toNat, by omega⟩
      obtain ⟨k, rfl⟩ : ∃ x : Nat, k = x := ⟨k.toNat, by omega⟩
      have HI := Lib.hid hi
      clear hi h0
      have hnc := hr.2.2.1
      have hc63 := hr.c63
      have k1 : (a : Int) ≤ (a : Int) + (k : Int) := by omega
      have k2 : (a : Int) + (k : Int) ≤ (c : Int) := by omega
      have k3 : (0 : Int) ≤ (a : Int) := by omega
      have kw : IntKind.i64.wrap ((a : Int) + (k : Int)) = (a : Int) + (k : Int) := IntWalk.i64_in _ (by omega)
      by_cases hca : c = a
      · obtain rfl : k = 0 := by omega
        subst hca
        have hr3 : ∀ W : World, RdB W A 0 0 [] := fun W => ⟨.inl rfl, rfl, Nat.le_refl _, by simp [maxLen]⟩
        go_enter Try.func150, Try.ntmps150
        go_wp2_with fail
        refine (refMemCheck_any A n c _ hn63).mono ?_
        rintro e w1 ⟨rfl, hb1⟩
        rw [D0]
        have cm1 : w1.cell? ⟨w.heap.size, 0, none⟩ = some (.slice A n c) := boxed hb1 0
        have hz1 := hb1.size
        simp at hz1
        have B1 := bstep (below_self w) hb1
        go_wp2_with fail
        refine (refInside_any A n c _ _ _ hn63 ha hk).mono ?_
        rintro e w2 ⟨rfl, hb2⟩
        rw [HI.out]
        have cm2 := keepc hb2 (by omega) cm1
        have hz2 := hb2.size
        have B2 := below_then B1 hb2
        have ka := alc (o := .cells #[] 5) (by omega) cm2
        go_wp2_with (at_builtin; refine wp_appB rfl _ _ rfl ((below_self w2).alloc (Nat.le_refl _) _) (Nat.le_refl _) (by simp) _ _ _ _ rfl (own0 w2) _ _ _ _ rfl (hr3 _) (by omega) 0 ((xs.drop c).take 0) (by omega) (by simp) ?_; intro A4 c4 w4 ho4 hb4 hg4)
        go_ret2
        exact ⟨_, _, _, rfl, by simpa using ho4.mono B2.size, below_then B2 hb4⟩
      · have hr2 := (hr.cut a (n - a) (by omega) (by omega)).take k (by omega)
        go_enter Try.func150, Try.ntmps150
        go_wp2_with fail
        refine (refMemCheck_any A n c _ hn63).mono ?_
        rintro e w1 ⟨rfl, hb1⟩
        rw [D0]
        have cm1 : w1.cell? ⟨w.heap.size, 0, none⟩ = some (.slice A n c) := boxed hb1 0
        have hz1 := hb1.size
        simp at hz1
        have B1 := bstep (below_self w) hb1
        go_wp2_with fail
        refine (refInside_any A n c _ _ _ hn63 ha hk).mono ?_
        rintro e w2 ⟨rfl, hb2⟩
        rw [HI.out]
        have cm2 := keepc hb2 (by omega) cm1
        have hz2 := hb2.size
        have B2 := below_then B1 hb2
        have ka := alc (o := .cells #[] 5) (by omega) cm2
        go_wp2_with (at_builtin; refine wp_appB rfl _ _ rfl ((below_self w2).alloc (Nat.le_refl _) _) (Nat.le_refl _) (by simp) _ _ _ _ rfl (own0 w2) _ _ _ _ rfl (by rw [Nat.add_sub_cancel_left]; exact (hr2.below B2).alloc _) (by omega) k ((xs.drop a).take k) (by omega) (by simp) ?_; intro A4 c4 w4 ho4 hb4 hg4)
        go_ret2
        exact ⟨_, _, _, rfl, by simpa using ho4.mono B2.size, below_then B2 hb4⟩
    · rw [if_neg (by rw [h0]; decide), h0]
      have HI := Lib.hid hi
      clear hi h0
      go_enter Try.func150, Try.ntmps150
      go_wp2_with fail
      refine (refMemCheck_any A n c _ hn63).mono ?_
      rintro e w1 ⟨rfl, hb1⟩
      rw [D0]
      have cm1 : w1.cell? ⟨w.heap.size, 0, none⟩ = some (.slice A n c) := boxed hb1 0
      have B1 := bstep (below_self w) hb1
      go_wp2_with fail
      refine (refInside_any A n c _ _ _ hn63 ha hk).mono ?_
      rintro e w2 ⟨rfl, hb2⟩
      rw [HI.out]
      go_wp2
      go_ret2
      exact ⟨_, _, _, rfl, OwnB.nilB _ _, below_then B1 hb2⟩
  · have D0 : decide (n ≤ 8192) = false := decide_eq_false h
    have h0 : memAsk n a k = 3 := by unfold memAsk; rw [if_neg h]
    rw [if_neg (by rw [h0]; decide), h0]
    clear h0
    go_enter Try.func150, Try.ntmps150
    go_wp2_with fail
    refine (refMemCheck_any A n c _ hn63).mono ?_
    rintro e w1 ⟨rfl, hb1⟩
    rw [D0]
    go_wp2
    go_ret2
    exact ⟨_, _, _, rfl, OwnB.nilB _ _, bstep (below_self w) hb1⟩
/-- The loop of Put: so many bytes are put. -/
def putF (xs ys : List UInt8) (a k : Nat) : List UInt8 := xs.take a ++ (ys.take k ++ xs.drop (a + k))
theorem putF_zero (xs ys : List UInt8) (a : Nat) : putF xs ys a 0 = xs := by simp [putF]
theorem putF_set (xs ys : List UInt8) (a k : Nat) (u : UInt8) (hu : ys[k]? = some u) (h : a + k < xs.length) : (putF xs ys a k).set (a + k) u = putF xs ys a (k + 1) := by
  obtain ⟨hk, hu'⟩ := List.getElem?_eq_some_iff.mp hu
  unfold putF
  rw [List.set_append_right _ _ (by simp; omega), List.set_append_right _ _ (by simp; omega), List.length_take, List.length_take, show a + k - min a xs.length - min k ys.length = 0 by omega,
    List.drop_eq_getElem_cons h, List.set_cons_zero, List.take_succ_eq_append_getElem hk, hu', List.append_assoc, List.singleton_append, Nat.add_assoc]
def RefPutI (w : World) (A : Option Addr) (n c : Nat) (m : Nat) (f : Nat → List UInt8) (i : Value) (wr : World) : Prop :=
  ∃ k, k ≤ m ∧ i = .int .i64 (k : Nat) ∧ OwnB wr w.heap.size A n c (f k) ∧ Below w.heap.size w wr

theorem refPut_any (A : Option Addr) (n c : Nat) (xs : List UInt8) (a : Int) (B : Option Addr) (m d : Nat) (ys : List UInt8) (w : World) (hr : RdB w A n c xs) (ha : -9223372036854775808 ≤ a ∧ a ≤ 9223372036854775807) (hs : RdB w B m d ys) :
    Calls Try.prog 151 #[.agg #[.slice A n c], .int .i64 a, .slice B m d] w (RetME w A n (memPut xs a ys) (memAsk n a m)) := by
  have hn63 := hr.n63
  have hm63 := hs.n63
  unfold memPut
  rw [hr.2.1, hs.2.1]
  have hk : -9223372036854775808 ≤ (m : Int) ∧ (m : Int) ≤ 9223372036854775807 := by omega
  by_cases h : n ≤ 8192
  · have D0 : decide (n ≤ 8192) = true := decide_eq_true h
    rcases memAsk_small (a := a) (k := m) h with ⟨hi, h0⟩ | ⟨hi, h0⟩
    · rw [if_pos h0, h0]
      obtain ⟨h1, h2, h3, h4, h5⟩ := memAsk_ok h0
      obtain ⟨a, rfl⟩ : ∃ x : Nat, a = x := ⟨a.toNat, by omega⟩
      rw [Int.toNat_natCast]
      have HI := Lib.hid hi
      clear hi h0
      have hlen := hr.2.1
      go_enter Try.func151, Try.ntmps151
      go_wp2_with fail
      refine (refMemCheck_any A n c _ hn63).mono ?_
      rintro e w1 ⟨rfl, hb1⟩
      rw [D0]
      obtain ⟨cA, cB, fB, hz1, B1⟩ := boxed2 hb1
      have cA1 : w1.cell? ⟨w.heap.size, 0, none⟩ = some (.slice A n c) := cA 0
      have cB1 : w1.cell? ⟨w.heap.size + 1, 0, none⟩ = some (.slice none 0 0) := cB 0
      have fB1 := fB 0
      clear cA cB fB
      go_wp2_with fail
      refine (refInside_any A n c _ _ _ hn63 ha hk).mono ?_
      rintro e w2 ⟨rfl, hb2⟩
      rw [HI.out]
      have hz2 := hb2.size
      have cA2 := keepc hb2 (by omega) cA1
      have cB2 := keepc hb2 (by omega) cB1
      have fB2 := keepf hb2 (by omega) fB1
      have B2 := below_then B1 hb2
      have ka := alc (o := .cells #[] 5) (by omega) cA2
      go_wp2_with (at_builtin; refine wp_appB rfl _ _ rfl ((below_self w2).alloc (Nat.le_refl _) _) (Nat.le_refl _) (by simp) _ _ _ _ rfl (own0 w2) _ _ _ _ rfl ((hr.below B2).alloc _) (by omega) n xs (by omega) (by simp) ?_; intro A4 c4 w4 ho4 hb4 hg4)
      have hz4 := hb4.size
      have cB4 := keepc hb4 (by omega) cB2
      have fB4 := keepf hb4 (by omega) fB2
      have hA4 : ∀ x, A4 = some x → w2.heap.size ≤ x.block := fun x hx => by
        obtain ⟨_, _, he, _, _, hlt⟩ := own_form ho4
        injection he with h1 h2 h3
        exact (hlt x (by rw [← h1]; exact hx)).1
      go_loopw [9] (RefPutI w2 A4 n c4 m (putF xs ys a)) (fun i _ => m - (intOf i).toNat)
      case atStart => exact ⟨0, Nat.zero_le _, rfl, by rw [putF_zero]; exact ho4, hb4⟩
      case round =>
        obtain ⟨k, hkm, rfl, ho, hb⟩ := hrel
        by_cases hlt : k < m
        · have k1 : (k : Int) < (m : Int) := by omega
          have k0 : (0 : Int) ≤ (k : Int) := by omega
          have q1 : (0 : Int) ≤ (a : Int) + (k : Int) := by omega
          have q2 : (a : Int) + (k : Int) < (n : Int) := by omega
          have q3 : IntKind.i64.wrap ((a : Int) + (k : Int)) = (a : Int) + (k : Int) := IntWalk.i64_in _ (by omega)
          obtain ⟨g, rfl, hg2, _⟩ := ho.addr (by omega)
          have hfree := ho.free (a + k)
          obtain ⟨u0, _, hcell⟩ := ho.cell_ (a + k) (by omega)
          obtain ⟨b, o, u, rfl, _, hu, hcu⟩ := (hs.below (below_then B2 hb)).at_ k hlt
          go_wp2
          go_roundw
          case rel => exact ⟨k + 1, by omega, by go_num, by have h := ho.set_ (a + k) u; rw [putF_set xs ys a k u hu (by omega)] at h; exact h, hb.setCell hg2 _⟩
          case measure => simp [intOf] <;> omega
        · obtain rfl : k = m := by omega
          have cB5 := keepc hb (by omega) cB2
          have fB5 := keepf hb (by omega) fB2
          have hA5 : ∀ x, A4 = some x → w2.heap.size ≤ x.block := fun x hx => by
            obtain ⟨_, _, he, _, _, hlt⟩ := own_form ho
            injection he with h1 h2 h3
            exact (hlt x (by rw [← h1]; exact hx)).1
          unfold putF at ho
          rw [show List.take k ys = ys from List.take_of_length_le (by rw [hs.2.1]; exact Nat.le_refl _)] at ho
          go_wp2
          exact bodyPost_ret (v := .tuple #[.agg #[.slice A4 n c4], .int .i64 0]) (by simp [results, Try.results151, go_sem, cB5, fB5]) rfl
            ⟨_, _, _, rfl, rd_far ho.rd ⟨w.heap.size + 1, 0, none⟩ _ (fun _ x hx => by have := hA5 x hx; show x.block ≠ w.heap.size + 1; omega), .inr (fun x hx => by have := hA5 x hx; omega), (below_then B2 hb).setCell (by simp) _⟩
    · rw [if_neg (by rw [h0]; decide), h0]
      have HI := Lib.hid hi
      clear hi h0
      go_enter Try.func151, Try.ntmps151
      go_wp2_with fail
      refine (refMemCheck_any A n c _ hn63).mono ?_
      rintro e w1 ⟨rfl, hb1⟩
      rw [D0]
      obtain ⟨cA, cB, fB, hz1, B1⟩ := boxed2 hb1
      have cA1 : w1.cell? ⟨w.heap.size, 0, none⟩ = some (.slice A n c) := cA 0
      have cB1 : w1.cell? ⟨w.heap.size + 1, 0, none⟩ = some (.slice none 0 0) := cB 0
      have fB1 := fB 0
      clear cA cB fB
      go_wp2_with fail
      refine (refInside_any A n c _ _ _ hn63 ha hk).mono ?_
      rintro e w2 ⟨rfl, hb2⟩
      rw [HI.out]
      have hz2 := hb2.size
      have cA2 := keepc hb2 (by omega) cA1
      have cB2 := keepc hb2 (by omega) cB1
      have fB2 := keepf hb2 (by omega) fB1
      have B2 := below_then B1 hb2
      go_wp2
      exact bodyPost_ret (v := .tuple #[.agg #[.slice A n c], .int .i64 40]) (by simp [results, Try.results151, go_sem, cB2, fB2]) rfl
        ⟨_, _, _, rfl, rd_far (hr.below B2) _ _ (fun hn x hx => by have := hr.lt hn x hx; simp; omega), .inl ⟨rfl, rfl⟩, B2.setCell (by simp) _⟩
  · have D0 : decide (n ≤ 8192) = false := decide_eq_false h
    have h0 : memAsk n a m = 3 := by unfold memAsk; rw [if_neg h]
    rw [if_neg (by rw [h0]; decide), h0]
    clear h0
    go_enter Try.func151, Try.ntmps151
    go_wp2_with fail
    refine (refMemCheck_any A n c _ hn63).mono ?_
    rintro e w1 ⟨rfl, hb1⟩
    rw [D0]
    obtain ⟨cA, cB, fB, hz1, B1⟩ := boxed2 hb1
    have cA1 : w1.cell? ⟨w.heap.size, 0, none⟩ = some (.slice A n c) := cA 0
    have cB1 : w1.cell? ⟨w.heap.size + 1, 0, none⟩ = some (.slice none 0 0) := cB 0
    have fB1 := fB 0
    clear cA cB fB
    go_wp2
    exact bodyPost_ret (v := .tuple #[.agg #[.slice A n c], .int .i64 3]) (by simp [results, Try.results151, go_sem, cB1, fB1]) rfl
      ⟨_, _, _, rfl, rd_far (hr.below B1) _ _ (fun hn x hx => by have := hr.lt hn x hx; simp; omega), .inl ⟨rfl, rfl⟩, B1.setCell (by simp) _⟩

theorem memSz_cases {n : Nat} {s : Int} (h : n ≤ 8192) : (s < 1 ∧ memSz n s = 2) ∨ (8 < s ∧ memSz n s = 2) ∨ (1 ≤ s ∧ s ≤ 8 ∧ memSz n s = 0) := by
  unfold memSz
  rw [if_pos h]
  by_cases h1 : s < 1
  · exact .inl ⟨h1, if_pos h1⟩
  · rw [if_neg h1]
    by_cases h2 : 8 < s
    · exact .inr (.inl ⟨h2, if_pos h2⟩)
    · exact .inr (.inr ⟨by omega, by omega, if_neg h2⟩)

theorem refMemNum_any (A : Option Addr) (n c : Nat) (xs : List UInt8) (a s : Int) (w : World) (hr : RdB w A n c xs) (ha : -9223372036854775808 ≤ a ∧ a ≤ 9223372036854775807) (hs : -9223372036854775808 ≤ s ∧ s ≤ 9223372036854775807) :
    Calls Try.prog 119 #[.agg #[.slice A n c], .int .i64 a, .int .i64 s] w (RetT w (.int .u64 (memNum xs a s)) (.int .i64 (memNumE n a s))) := by
  have hn63 := hr.n63
  unfold memNumE memNum
  rw [hr.2.1]
  by_cases h : n ≤ 8192
  · have D0 : decide (n ≤ 8192) = true := decide_eq_true h
    rcases memSz_cases (s := s) h with ⟨h1, h2⟩ | ⟨h1, h2⟩ | ⟨h1, h3, h2⟩
    · rw [if_neg (by rw [h2]; decide), if_neg (by rw [h2]; decide), h2]
      have d1 : decide (s < 1) = true := decide_eq_true h1
      clear h1 h2
      go_enter Try.func119, Try.ntmps119
      go_wp2_with fail
      refine (refMemCheck_any A n c _ hn63).mono ?_
      rintro e w1 ⟨rfl, hb1⟩
      rw [D0]
      have cm1 : w1.cell? ⟨w.heap.size, 0, none⟩ = some (.slice A n c) := boxed hb1 0
      have hz1 := hb1.size
      simp at hz1
      have B1 := bstep (below_self w) hb1
      go_wp2
      go_ret2
      exact ⟨rfl, B1⟩
    · rw [if_neg (by rw [h2]; decide), if_neg (by rw [h2]; decide), h2]
      have d1 : decide (s < 1) = false := decide_eq_false (by omega)
      have d2 : decide (8 < s) = true := decide_eq_true h1
      clear h1 h2
      go_enter Try.func119, Try.ntmps119
      go_wp2_with fail
      refine (refMemCheck_any A n c _ hn63).mono ?_
      rintro e w1 ⟨rfl, hb1⟩
      rw [D0]
      have cm1 : w1.cell? ⟨w.heap.size, 0, none⟩ = some (.slice A n c) := boxed hb1 0
      have hz1 := hb1.size
      simp at hz1
      have B1 := bstep (below_self w) hb1
      go_wp2
      go_ret2
      exact ⟨rfl, B1⟩
    · rw [if_pos h2, if_pos h2]
      have d1 : decide (s < 1) = false := decide_eq_false (by omega)
      have d2 : decide (8 < s) = false := decide_eq_false (by omega)
      clear h1 h2 h3
      go_enter Try.func119, Try.ntmps119
      go_wp2_with fail
      refine (refMemCheck_any A n c _ hn63).mono ?_
      rintro e w1 ⟨rfl, hb1⟩
      rw [D0]
      have cm1 : w1.cell? ⟨w.heap.size, 0, none⟩ = some (.slice A n c) := boxed hb1 0
      have hz1 := hb1.size
      simp at hz1
      have B1 := bstep (below_self w) hb1
      go_wp2_with fail
      refine (refGet_any A n c xs a s _ (hr.below B1) ha hs).mono ?_
      rintro e w2 ⟨A2, n2, c2, rfl, ho2, hb2⟩
      go_wp2_with fail
      refine (refFromLe_any A2 n2 c2 _ _ ho2.rd).mono ?_
      rintro e w3 ⟨rfl, rfl⟩
      go_wp2
      go_ret2
      exact ⟨rfl, below_then B1 hb2⟩
  · have D0 : decide (n ≤ 8192) = false := decide_eq_false h
    have h2 : memSz n s = 3 := by unfold memSz; rw [if_neg h]
    rw [if_neg (by rw [h2]; decide), if_neg (by rw [h2]; decide), h2]
    clear h2
    go_enter Try.func119, Try.ntmps119
    go_wp2_with fail
    refine (refMemCheck_any A n c _ hn63).mono ?_
    rintro e w1 ⟨rfl, hb1⟩
    rw [D0]
    have cm1 : w1.cell? ⟨w.heap.size, 0, none⟩ = some (.slice A n c) := boxed hb1 0
    have hz1 := hb1.size
    simp at hz1
    have B1 := bstep (below_self w) hb1
    go_wp2
    go_ret2
    exact ⟨rfl, B1⟩

theorem refMemPutNum_any (A : Option Addr) (n c : Nat) (xs : List UInt8) (a s : Int) (x : Nat) (w : World) (hr : RdB w A n c xs) (ha : -9223372036854775808 ≤ a ∧ a ≤ 9223372036854775807) (hs : -9223372036854775808 ≤ s ∧ s ≤ 9223372036854775807) (hx : x < 18446744073709551616) :
    Calls Try.prog 120 #[.agg #[.slice A n c], .int .i64 a, .int .i64 s, .int .u64 x] w (RetME w A n (memPutN xs a s x) (memNumE n a s)) := by
  have hn63 := hr.n63
  unfold memNumE memPutN
  rw [hr.2.1]
  by_cases h : n ≤ 8192
  · have D0 : decide (n ≤ 8192) = true := decide_eq_true h
    rcases memSz_cases (s := s) h with ⟨h1, h2⟩ | ⟨h1, h2⟩ | ⟨h1, h3, h2⟩
    · rw [if_neg (by rw [h2]; decide), if_neg (by rw [h2]; decide), h2]
      have d1 : decide (s < 1) = true := decide_eq_true h1
      clear h1 h2
      go_enter Try.func120, Try.ntmps120
      go_wp2_with fail
      refine (refMemCheck_any A n c _ hn63).mono ?_
      rintro e w1 ⟨rfl, hb1⟩
      rw [D0]
      obtain ⟨cA, cB, fB, hz, B1⟩ := boxed2 hb1
      have cA1 : w1.cell? ⟨w.heap.size, 0, none⟩ = some (.slice A n c) := cA 0
      have cB0 : w1.cell? ⟨w.heap.size + 1, 0, none⟩ = some (.slice none 0 0) := cB 0
      have fB0 := fB 0
      clear cA cB fB
      go_wp2
      exact bodyPost_ret (v := .tuple #[.agg #[.slice A n c], .int .i64 2]) (by simp [results, Try.results120, go_sem, cB0, fB0]) rfl
        ⟨_, _, _, rfl, rd_far (hr.below B1) _ _ (fun hn x hx => by have := hr.lt hn x hx; simp; omega), .inl ⟨rfl, rfl⟩, B1.setCell (by simp) _⟩
    · rw [if_neg (by rw [h2]; decide), if_neg (by rw [h2]; decide), h2]
      have d1 : decide (s < 1) = false := decide_eq_false (by omega)
      have d2 : decide (8 < s) = true := decide_eq_true h1
      clear h1 h2
      go_enter Try.func120, Try.ntmps120
      go_wp2_with fail
      refine (refMemCheck_any A n c _ hn63).mono ?_
      rintro e w1 ⟨rfl, hb1⟩
      rw [D0]
      obtain ⟨cA, cB, fB, hz, B1⟩ := boxed2 hb1
      have cA1 : w1.cell? ⟨w.heap.size, 0, none⟩ = some (.slice A n c) := cA 0
      have cB0 : w1.cell? ⟨w.heap.size + 1, 0, none⟩ = some (.slice none 0 0) := cB 0
      have fB0 := fB 0
      clear cA cB fB
      go_wp2
      exact bodyPost_ret (v := .tuple #[.agg #[.slice A n c], .int .i64 2]) (by simp [results, Try.results120, go_sem, cB0, fB0]) rfl
        ⟨_, _, _, rfl, rd_far (hr.below B1) _ _ (fun hn x hx => by have := hr.lt hn x hx; simp; omega), .inl ⟨rfl, rfl⟩, B1.setCell (by simp) _⟩
    · rw [if_pos h2, if_pos h2]
      have hcl : ((clamp s : Nat) : Int) = s := by unfold clamp; split <;> (try split) <;> omega
      have HC := Lib.hid hcl
      have d1 : decide (s < 1) = false := decide_eq_false (by omega)
      have d2 : decide (8 < s) = false := decide_eq_false (by omega)
      clear h1 h2 h3 hcl
      go_enter Try.func120, Try.ntmps120
      go_wp2_with fail
      refine (refMemCheck_any A n c _ hn63).mono ?_
      rintro e w1 ⟨rfl, hb1⟩
      rw [D0]
      obtain ⟨cA, cB, fB, hz, B1⟩ := boxed2 hb1
      have cA1 : w1.cell? ⟨w.heap.size, 0, none⟩ = some (.slice A n c) := cA 0
      have cB0 : w1.cell? ⟨w.heap.size + 1, 0, none⟩ = some (.slice none 0 0) := cB 0
      have fB0 := fB 0
      clear cA cB fB
      go_wp2_with fail
      refine wp_region_plan (S := fun w' => Below w.heap.size w w' ∧ w'.cell? ⟨w.heap.size, 0, none⟩ = some (.slice A n c)) [(0, true), (1, true), (2, true), (3, true), (4, false), (5, false), (6, true), (7, true), (8, false), (9, true)] (by kernel_rfl) (by kernel_rfl) (fun _ _ d _ _ h => by cases d <;> exact h) ⟨B1.drew, cA1⟩ ?_
      iterate 4 (refine plan_take (v := ?_) rfl (Or.inl ⟨by rfl, ?_⟩) ?_; rotate_left; (focus (intro w' hw'; have ks' := hw'.2; go_simp <;> with_reducible rfl)); try simp only [Act.put, List.setIfInBounds_toArray, List.set_cons_zero, List.set_cons_succ])
      refine plan_run rfl (fun K hK => ?_)
      go_simp
      refine (refLe_any x s _ hx).mono ?_
      rintro e w2 ⟨A2, n2, c2, rfl, ho2, hb2⟩
      obtain rfl : n2 = clamp s := by rw [← ho2.len, leB_length]
      have hb2' : Below w1.heap.size w1 w2 := undrew hb2
      have cA2 := keepc hb2' (by omega) cA1
      have cB2 := keepc hb2' (by omega) cB0
      have fB2 := keepf hb2' (by omega) fB0
      refine hK.out _ _ ⟨below_then B1 hb2', cA2⟩ ?_
      clear hK
      try simp only [Act.put, List.setIfInBounds_toArray, List.set_cons_zero, List.set_cons_succ]
      refine plan_run rfl (fun K hK => ?_)
      go_simp
      have B2 := below_then B1 hb2'
      have hz2 := hb2'.size
      refine (refPut_any A n c xs a A2 _ c2 _ w2 (hr.below B2) ha ho2.rd).mono ?_
      rintro e w3 ⟨A3, n3, c3, rfl, ho3, hq3, hb3⟩
      have cA3 := keepc hb3 (by omega) cA2
      have cB3 := keepc hb3 (by omega) cB2
      have fB3 := keepf hb3 (by omega) fB2
      have B3 := below_then B2 hb3
      have hfar : 0 < n3 → ∀ x, A3 = some x → x.block ≠ w.heap.size + 1 := far_of hq3 hr (by omega) (by omega)
      refine hK.out _ _ ⟨B3, cA3⟩ ?_
      clear hK
      try simp only [Act.put, List.setIfInBounds_toArray, List.set_cons_zero, List.set_cons_succ]
      iterate 2 (refine plan_take (v := ?_) rfl (Or.inl ⟨by rfl, ?_⟩) ?_; rotate_left; (focus (intro w' hw'; go_simp <;> with_reducible rfl)); try simp only [Act.put, List.setIfInBounds_toArray, List.set_cons_zero, List.set_cons_succ])
      refine plan_run rfl (fun K hK => ?_)
      go_simp
      refine hK.out _ _ ⟨B3.setCell (by simp) _, by rw [World.cell?_setCell_other _ _ _ _ (by simp)]; exact cA3⟩ ?_
      clear hK
      try simp only [Act.put, List.setIfInBounds_toArray, List.set_cons_zero, List.set_cons_succ]
      iterate 1 (refine plan_take (v := ?_) rfl (Or.inl ⟨by rfl, ?_⟩) ?_; rotate_left; (focus (intro w' hw'; go_simp <;> with_reducible rfl)); try simp only [Act.put, List.setIfInBounds_toArray, List.set_cons_zero, List.set_cons_succ])
      refine plan_done ?_
      go_wp2
      rw [HC.out]
      exact bodyPost_ret (v := .tuple #[.agg #[.slice A3 n3 c3], .int .i64 (memAsk n a s)]) (by simp [results, Try.results120, go_sem, cB3, fB3]) rfl
        ⟨_, _, _, rfl, rd_far ho3 _ _ hfar, hq3.imp id (fun h a ha => by have := h a ha; omega), B3.setCell (by simp) _⟩
  · have D0 : decide (n ≤ 8192) = false := decide_eq_false h
    have h2 : memSz n s = 3 := by unfold memSz; rw [if_neg h]
    rw [if_neg (by rw [h2]; decide), if_neg (by rw [h2]; decide), h2]
    clear h2
    go_enter Try.func120, Try.ntmps120
    go_wp2_with fail
    refine (refMemCheck_any A n c _ hn63).mono ?_
    rintro e w1 ⟨rfl, hb1⟩
    rw [D0]
    obtain ⟨cA, cB, fB, hz, B1⟩ := boxed2 hb1
    have cA1 : w1.cell? ⟨w.heap.size, 0, none⟩ = some (.slice A n c) := cA 0
    have cB0 : w1.cell? ⟨w.heap.size + 1, 0, none⟩ = some (.slice none 0 0) := cB 0
    have fB0 := fB 0
    clear cA cB fB
    go_wp2
    exact bodyPost_ret (v := .tuple #[.agg #[.slice A n c], .int .i64 3]) (by simp [results, Try.results120, go_sem, cB0, fB0]) rfl
      ⟨_, _, _, rfl, rd_far (hr.below B1) _ _ (fun hn x hx => by have := hr.lt hn x hx; simp; omega), .inl ⟨rfl, rfl⟩, B1.setCell (by simp) _⟩
end Go.Proofs.Ytnfepikgbdeomaa
