/-
  The law MemParts: bytes side by side are got together as apart; a number is its bytes.
-/
import Derived.Test.YthaampcfkmfjcaaMemC
namespace Go.Proofs.Ythaampcfkmfjcaa
open Go.RowKit
set_option linter.unusedVariables false
set_option linter.unusedSimpArgs false

theorem wpList_unguard {P : Program} {ops : Array Oper} {Q : Exit → Act → World → Prop} {a : Act} {w : World} {rest : List Oper} {o : Oper} (hw : Region.wanted o (yielded ops a.tmps) = true) (h : wpList P ops Q ({ o with guard := none } :: rest) a w) : wpList P ops Q (o :: rest) a w := by
  unfold wpList at h ⊢
  rw [if_pos hw]
  rw [if_pos (show Region.wanted { o with guard := none } (yielded ops a.tmps) = true from rfl)] at h
  exact h
theorem memAsk_add {n : Nat} {a p q : Nat} (h : memAsk n a p = 0) : memAsk n a ((p : Int) + (q : Int)) = memAsk n ((a : Int) + (p : Int)) q := by
  obtain ⟨h1, h2, h3, h4, h5⟩ := memAsk_ok h
  have e : memIn n a ((p : Int) + (q : Int)) = memIn n ((a : Int) + (p : Int)) q := by
    unfold memIn
    rw [Bool.eq_iff_iff]
    simp only [Bool.and_eq_true, decide_eq_true_eq]
    omega
  unfold memAsk
  rw [e]
theorem memGet_add {xs : List UInt8} {a p q : Nat} (h : memAsk xs.length a p = 0) (h2 : memAsk xs.length ((a : Int) + (p : Int)) q = 0) : memGet xs a p ++ memGet xs ((a : Int) + (p : Int)) q = memGet xs a ((p : Int) + (q : Int)) := by
  unfold memGet
  rw [if_pos h, if_pos h2, if_pos (by rw [memAsk_add h]; exact h2)]
  rw [show ((a : Int) + (p : Int)).toNat = a + p by omega, show ((p : Int) + (q : Int)).toNat = p + q by omega, Int.toNat_natCast, Int.toNat_natCast, Int.toNat_natCast, List.take_add, List.drop_drop]

theorem memParts_great (A : Option Addr) (n c : Nat) (xs : List UInt8) (a p q : Int) (w : World) (hr : RdB w A n c xs) (ha : -9223372036854775808 ≤ a ∧ a ≤ 9223372036854775807) (hp : -9223372036854775808 ≤ p ∧ p ≤ 9223372036854775807) (hq : -9223372036854775808 ≤ q ∧ q ≤ 9223372036854775807) (h : ¬ n ≤ 3000) :
    Calls Try.prog 7 #[.agg #[.slice A n c], .int .i64 a, .int .i64 p, .int .i64 q] w (RetV w (.bool true)) := by
  have hn63 := hr.n63
  have D1 : decide (n ≤ 3000) = false := decide_eq_false h
  go_enter Try.func7, Try.ntmps7
  go_wp2_with fail
  refine (few_any A n c _ hn63).mono ?_
  rintro e w1 ⟨rfl, hb1⟩
  rw [D1]
  have cm1 : w1.cell? ⟨w.heap.size, 0, none⟩ = some (.slice A n c) := boxed hb1 0
  have hz1 := hb1.size
  simp at hz1
  have B1 := bstep (below_self w) hb1
  go_wp2_with fail
  refine (heads04 _).mono ?_
  rintro e w9 ⟨rfl, hb9⟩
  go_wp2
  go_ret
  exact ⟨rfl, below_then B1 hb9⟩
theorem memParts_neg (A : Option Addr) (n c : Nat) (xs : List UInt8) (a p q : Int) (w : World) (hr : RdB w A n c xs) (ha : -9223372036854775808 ≤ a ∧ a ≤ 9223372036854775807) (hp : -9223372036854775808 ≤ p ∧ p ≤ 9223372036854775807) (hq : -9223372036854775808 ≤ q ∧ q ≤ 9223372036854775807) (h : n ≤ 3000) (h2 : p < 0) :
    Calls Try.prog 7 #[.agg #[.slice A n c], .int .i64 a, .int .i64 p, .int .i64 q] w (RetV w (.bool true)) := by
  have hn63 := hr.n63
  have D1 : decide (n ≤ 3000) = true := decide_eq_true h
  have d2 : decide (p < 0) = true := decide_eq_true h2
  go_enter Try.func7, Try.ntmps7
  go_wp2_with fail
  refine (few_any A n c _ hn63).mono ?_
  rintro e w1 ⟨rfl, hb1⟩
  rw [D1]
  have cm1 : w1.cell? ⟨w.heap.size, 0, none⟩ = some (.slice A n c) := boxed hb1 0
  have hz1 := hb1.size
  simp at hz1
  have B1 := bstep (below_self w) hb1
  go_wp2_with fail
  refine (heads04 _).mono ?_
  rintro e w9 ⟨rfl, hb9⟩
  go_wp2
  go_ret
  exact ⟨rfl, below_then B1 hb9⟩
theorem memParts_long (A : Option Addr) (n c : Nat) (xs : List UInt8) (a p q : Int) (w : World) (hr : RdB w A n c xs) (ha : -9223372036854775808 ≤ a ∧ a ≤ 9223372036854775807) (hp : -9223372036854775808 ≤ p ∧ p ≤ 9223372036854775807) (hq : -9223372036854775808 ≤ q ∧ q ≤ 9223372036854775807) (h : n ≤ 3000) (h2 : 0 ≤ p) (h3 : 100 < p) :
    Calls Try.prog 7 #[.agg #[.slice A n c], .int .i64 a, .int .i64 p, .int .i64 q] w (RetV w (.bool true)) := by
  have hn63 := hr.n63
  have D1 : decide (n ≤ 3000) = true := decide_eq_true h
  have d2 : decide (p < 0) = false := decide_eq_false (by omega)
  have d3 : decide (100 < p) = true := decide_eq_true h3
  go_enter Try.func7, Try.ntmps7
  go_wp2_with fail
  refine (few_any A n c _ hn63).mono ?_
  rintro e w1 ⟨rfl, hb1⟩
  rw [D1]
  have cm1 : w1.cell? ⟨w.heap.size, 0, none⟩ = some (.slice A n c) := boxed hb1 0
  have hz1 := hb1.size
  simp at hz1
  have B1 := bstep (below_self w) hb1
  go_wp2_with fail
  refine (heads04 _).mono ?_
  rintro e w9 ⟨rfl, hb9⟩
  go_wp2
  go_ret
  exact ⟨rfl, below_then B1 hb9⟩
theorem memParts_qneg (A : Option Addr) (n c : Nat) (xs : List UInt8) (a p q : Int) (w : World) (hr : RdB w A n c xs) (ha : -9223372036854775808 ≤ a ∧ a ≤ 9223372036854775807) (hp : -9223372036854775808 ≤ p ∧ p ≤ 9223372036854775807) (hq : -9223372036854775808 ≤ q ∧ q ≤ 9223372036854775807) (h : n ≤ 3000) (h2 : 0 ≤ p) (h3 : p ≤ 100) (h4 : q < 0) :
    Calls Try.prog 7 #[.agg #[.slice A n c], .int .i64 a, .int .i64 p, .int .i64 q] w (RetV w (.bool true)) := by
  have hn63 := hr.n63
  have D1 : decide (n ≤ 3000) = true := decide_eq_true h
  have d2 : decide (p < 0) = false := decide_eq_false (by omega)
  have d3 : decide (100 < p) = false := decide_eq_false (by omega)
  have d4 : decide (q < 0) = true := decide_eq_true h4
  go_enter Try.func7, Try.ntmps7
  go_wp2_with fail
  refine (few_any A n c _ hn63).mono ?_
  rintro e w1 ⟨rfl, hb1⟩
  rw [D1]
  have cm1 : w1.cell? ⟨w.heap.size, 0, none⟩ = some (.slice A n c) := boxed hb1 0
  have hz1 := hb1.size
  simp at hz1
  have B1 := bstep (below_self w) hb1
  go_wp2_with fail
  refine (heads04 _).mono ?_
  rintro e w9 ⟨rfl, hb9⟩
  go_wp2
  go_ret
  exact ⟨rfl, below_then B1 hb9⟩
theorem memParts_qlong (A : Option Addr) (n c : Nat) (xs : List UInt8) (a p q : Int) (w : World) (hr : RdB w A n c xs) (ha : -9223372036854775808 ≤ a ∧ a ≤ 9223372036854775807) (hp : -9223372036854775808 ≤ p ∧ p ≤ 9223372036854775807) (hq : -9223372036854775808 ≤ q ∧ q ≤ 9223372036854775807) (h : n ≤ 3000) (h2 : 0 ≤ p) (h3 : p ≤ 100) (h4 : 0 ≤ q) (h5 : 100 < q) :
    Calls Try.prog 7 #[.agg #[.slice A n c], .int .i64 a, .int .i64 p, .int .i64 q] w (RetV w (.bool true)) := by
  have hn63 := hr.n63
  have D1 : decide (n ≤ 3000) = true := decide_eq_true h
  have d2 : decide (p < 0) = false := decide_eq_false (by omega)
  have d3 : decide (100 < p) = false := decide_eq_false (by omega)
  have d4 : decide (q < 0) = false := decide_eq_false (by omega)
  have d5 : decide (100 < q) = true := decide_eq_true h5
  go_enter Try.func7, Try.ntmps7
  go_wp2_with fail
  refine (few_any A n c _ hn63).mono ?_
  rintro e w1 ⟨rfl, hb1⟩
  rw [D1]
  have cm1 : w1.cell? ⟨w.heap.size, 0, none⟩ = some (.slice A n c) := boxed hb1 0
  have hz1 := hb1.size
  simp at hz1
  have B1 := bstep (below_self w) hb1
  go_wp2_with fail
  refine (heads04 _).mono ?_
  rintro e w9 ⟨rfl, hb9⟩
  go_wp2
  go_ret
  exact ⟨rfl, below_then B1 hb9⟩
theorem memParts_refused (A : Option Addr) (n c : Nat) (xs : List UInt8) (a p q : Int) (w : World) (hr : RdB w A n c xs) (ha : -9223372036854775808 ≤ a ∧ a ≤ 9223372036854775807) (hp : -9223372036854775808 ≤ p ∧ p ≤ 9223372036854775807) (hq : -9223372036854775808 ≤ q ∧ q ≤ 9223372036854775807) (h : n ≤ 3000) (h2 : 0 ≤ p) (h3 : p ≤ 100) (h4 : 0 ≤ q) (h5 : q ≤ 100) (h6 : memAsk n a p ≠ 0) :
    Calls Try.prog 7 #[.agg #[.slice A n c], .int .i64 a, .int .i64 p, .int .i64 q] w (RetV w (.bool true)) := by
  have hn63 := hr.n63
  have D1 : decide (n ≤ 3000) = true := decide_eq_true h
  have d2 : decide (p < 0) = false := decide_eq_false (by omega)
  have d3 : decide (100 < p) = false := decide_eq_false (by omega)
  have d4 : decide (q < 0) = false := decide_eq_false (by omega)
  have d5 : decide (100 < q) = false := decide_eq_false (by omega)
  have hg : memGet xs a p = [] := by unfold memGet; rw [hr.2.1, if_neg h6]
  obtain ⟨r, hr'⟩ : ∃ r, memAsk n a p = r := ⟨_, rfl⟩
  have z1 : (r != 0) = true := by rw [bne_iff_ne, ← hr']; exact h6
  have H := Lib.hid hr'
  clear hr' h6
  go_enter Try.func7, Try.ntmps7
  go_wp2_with fail
  refine (few_any A n c _ hn63).mono ?_
  rintro e w1 ⟨rfl, hb1⟩
  rw [D1]
  have cm1 : w1.cell? ⟨w.heap.size, 0, none⟩ = some (.slice A n c) := boxed hb1 0
  have hz1 := hb1.size
  simp at hz1
  have B1 := bstep (below_self w) hb1
  go_wp2_with fail
  refine (get_any A n c xs a p _ (hr.below B1) ha hp).mono ?_
  rintro e w2 ⟨A2, n2, c2, rfl, ho2, hb2⟩
  rw [H.out]
  have hz2 := hb2.size
  have cm2 := keepc hb2 (by omega) cm1
  have B2 := below_then B1 hb2
  rw [hg] at ho2
  obtain rfl : n2 = 0 := ho2.len.symm
  go_wp2_with fail
  refine (heads04 _).mono ?_
  rintro e w9 ⟨rfl, hb9⟩
  go_wp2
  go_ret
  exact ⟨rfl, below_then B2 hb9⟩
theorem memParts_both_none (A : Option Addr) (n c : Nat) (xs : List UInt8) (a p q : Int) (w : World) (hr : RdB w A n c xs) (ha : -9223372036854775808 ≤ a ∧ a ≤ 9223372036854775807) (hp : -9223372036854775808 ≤ p ∧ p ≤ 9223372036854775807) (hq : -9223372036854775808 ≤ q ∧ q ≤ 9223372036854775807) (h : n ≤ 3000) (h2 : 0 ≤ p) (h3 : p ≤ 100) (h4 : 0 ≤ q) (h5 : q ≤ 100) (h6 : memAsk n a p = 0) (h7 : memAsk n (a + p) q = 0) (h8 : p < 1) :
    Calls Try.prog 7 #[.agg #[.slice A n c], .int .i64 a, .int .i64 p, .int .i64 q] w (RetV w (.bool true)) := by
  have hn63 := hr.n63
  have D1 : decide (n ≤ 3000) = true := decide_eq_true h
  have d2 : decide (p < 0) = false := decide_eq_false (by omega)
  have d3 : decide (100 < p) = false := decide_eq_false (by omega)
  have d4 : decide (q < 0) = false := decide_eq_false (by omega)
  have d5 : decide (100 < q) = false := decide_eq_false (by omega)
  have d8 : decide (p < 1) = true := decide_eq_true h8
  obtain ⟨_, a0, _, a1, a2⟩ := memAsk_ok h6
  obtain ⟨a, rfl⟩ : ∃ x : Nat, a = x := ⟨a.toNat, by omega⟩
  obtain ⟨p, rfl⟩ : ∃ x : Nat, p = x := ⟨p.toNat, by omega⟩
  obtain ⟨q, rfl⟩ : ∃ x : Nat, q = x := ⟨q.toNat, by omega⟩
  have s1 : IntKind.i64.wrap ((a : Int) + (p : Int)) = (a : Int) + (p : Int) := IntWalk.i64_in _ (by omega)
  have s2 : IntKind.i64.wrap ((p : Int) + (q : Int)) = (p : Int) + (q : Int) := IntWalk.i64_in _ (by omega)
  have hl := hr.2.1
  have hadd := memAsk_add (q := q) h6
  have hn8 : memSz n p = 0 → memNumE n a p = 0 := fun h => by unfold memNumE; rw [if_pos h]; exact h6
  have hv8 : memSz n p = 0 → memNum xs a p = fromLe (memGet xs a p) := fun h => by unfold memNum; rw [hl, if_pos h]
  have HF := Lib.hid h7
  have HG := Lib.hid (hadd.trans h7)
  have HC := Lib.hid (memGet_add (xs := xs) (a := a) (p := p) (q := q) (by rw [hl]; exact h6) (by rw [hl]; exact h7)).symm
  have H := Lib.hid h6
  clear h6 h7 hadd hn8 hv8 hl
  go_enter Try.func7, Try.ntmps7
  go_wp2_with fail
  refine (few_any A n c _ hn63).mono ?_
  rintro e w1 ⟨rfl, hb1⟩
  rw [D1]
  have cm1 : w1.cell? ⟨w.heap.size, 0, none⟩ = some (.slice A n c) := boxed hb1 0
  have hz1 := hb1.size
  simp at hz1
  have B1 := bstep (below_self w) hb1
  go_wp2_with fail
  refine (get_any A n c xs a p _ (hr.below B1) ha hp).mono ?_
  rintro e w2 ⟨A2, n2, c2, rfl, ho2, hb2⟩
  rw [H.out]
  have hz2 := hb2.size
  have cm2 := keepc hb2 (by omega) cm1
  have B2 := below_then B1 hb2
  clear cm1
  have hr2 := hr.below B2
  go_wp2_with fail
  refine (get_any A n c xs _ _ _ hr2 (by omega) (by omega)).mono ?_
  rintro e w3 ⟨A3, n3, c3, rfl, ho3, hb3⟩
  rw [HF.out]
  have hz3 := hb3.size
  have cm3 := keepc hb3 (by omega) cm2
  go_wp2_with fail
  refine (get_any A n c xs _ _ _ (hr2.below hb3) (by omega) (by omega)).mono ?_
  rintro e w4 ⟨A4, n4, c4, rfl, ho4, hb4⟩
  rw [HG.out]
  have hz4 := hb4.size
  have cm4 := keepc hb4 (by omega) cm3
  go_wp2_with fail
  refine (memNum_any A n c xs _ _ _ (hr2.below (below_then hb3 hb4)) (by omega) (by omega)).mono ?_
  rintro e w5 ⟨rfl, hb5⟩
  have hz5 := hb5.size
  have B5 := below_then B2 (below_then (below_then hb3 hb4) hb5)
  have g2 := ho2.rd.below (below_then (below_then hb3 hb4) hb5)
  have g3 := ho3.rd.below (below_then hb4 hb5)
  have g4 := ho4.rd.below hb5
  have l2 : n2 ≤ 100 := by rw [← ho2.len]; unfold memGet; split <;> simp; omega
  have l3 : n3 ≤ 100 := by rw [← ho3.len]; unfold memGet; split <;> simp; omega
  go_wp2_with (first
    | (at_builtin; refine wpList_unguard (by rfl) ?_; refine wp_appB rfl _ _ rfl hb6 (Nat.le_refl _) hb6.size _ _ _ _ rfl ho6 _ _ _ _ rfl (g3.below hb6) (by omega) _ _ rfl rfl ?_; intro A7 c7 w7 ho7 hb7 hg7)
    | (at_builtin; refine wpList_unguard (by rfl) ?_; refine wp_appB rfl _ _ rfl ((below_self w5).alloc (Nat.le_refl _) _) (Nat.le_refl _) (by simp) _ _ _ _ rfl (own0 w5) _ _ _ _ rfl (g2.alloc _) (by omega) n2 (memGet xs a p) (by omega) (by simp) ?_; intro A6 c6 w6 ho6 hb6 hg6))
  refine (bytes_any _ _ _ _ _ _ _ _ _ (g4.below hb7) ho7.rd).mono ?_
  rintro e w8 ⟨rfl, rfl⟩
  rw [HC.out, decide_eq_true rfl]
  have B8 := below_then B5 hb7
  go_wp2_with fail
  refine (heads04 _).mono ?_
  rintro e w9 ⟨rfl, hb9⟩
  go_wp2
  go_ret
  exact ⟨rfl, below_then B8 hb9⟩
theorem memParts_both_many (A : Option Addr) (n c : Nat) (xs : List UInt8) (a p q : Int) (w : World) (hr : RdB w A n c xs) (ha : -9223372036854775808 ≤ a ∧ a ≤ 9223372036854775807) (hp : -9223372036854775808 ≤ p ∧ p ≤ 9223372036854775807) (hq : -9223372036854775808 ≤ q ∧ q ≤ 9223372036854775807) (h : n ≤ 3000) (h2 : 0 ≤ p) (h3 : p ≤ 100) (h4 : 0 ≤ q) (h5 : q ≤ 100) (h6 : memAsk n a p = 0) (h7 : memAsk n (a + p) q = 0) (h8 : 8 < p) :
    Calls Try.prog 7 #[.agg #[.slice A n c], .int .i64 a, .int .i64 p, .int .i64 q] w (RetV w (.bool true)) := by
  have hn63 := hr.n63
  have D1 : decide (n ≤ 3000) = true := decide_eq_true h
  have d2 : decide (p < 0) = false := decide_eq_false (by omega)
  have d3 : decide (100 < p) = false := decide_eq_false (by omega)
  have d4 : decide (q < 0) = false := decide_eq_false (by omega)
  have d5 : decide (100 < q) = false := decide_eq_false (by omega)
  have d8 : decide (p < 1) = false := decide_eq_false (by omega)
  have d9 : decide (8 < p) = true := decide_eq_true h8
  obtain ⟨_, a0, _, a1, a2⟩ := memAsk_ok h6
  obtain ⟨a, rfl⟩ : ∃ x : Nat, a = x := ⟨a.toNat, by omega⟩
  obtain ⟨p, rfl⟩ : ∃ x : Nat, p = x := ⟨p.toNat, by omega⟩
  obtain ⟨q, rfl⟩ : ∃ x : Nat, q = x := ⟨q.toNat, by omega⟩
  have s1 : IntKind.i64.wrap ((a : Int) + (p : Int)) = (a : Int) + (p : Int) := IntWalk.i64_in _ (by omega)
  have s2 : IntKind.i64.wrap ((p : Int) + (q : Int)) = (p : Int) + (q : Int) := IntWalk.i64_in _ (by omega)
  have hl := hr.2.1
  have hadd := memAsk_add (q := q) h6
  have hn8 : memSz n p = 0 → memNumE n a p = 0 := fun h => by unfold memNumE; rw [if_pos h]; exact h6
  have hv8 : memSz n p = 0 → memNum xs a p = fromLe (memGet xs a p) := fun h => by unfold memNum; rw [hl, if_pos h]
  have HF := Lib.hid h7
  have HG := Lib.hid (hadd.trans h7)
  have HC := Lib.hid (memGet_add (xs := xs) (a := a) (p := p) (q := q) (by rw [hl]; exact h6) (by rw [hl]; exact h7)).symm
  have H := Lib.hid h6
  clear h6 h7 hadd hn8 hv8 hl
  go_enter Try.func7, Try.ntmps7
  go_wp2_with fail
  refine (few_any A n c _ hn63).mono ?_
  rintro e w1 ⟨rfl, hb1⟩
  rw [D1]
  have cm1 : w1.cell? ⟨w.heap.size, 0, none⟩ = some (.slice A n c) := boxed hb1 0
  have hz1 := hb1.size
  simp at hz1
  have B1 := bstep (below_self w) hb1
  go_wp2_with fail
  refine (get_any A n c xs a p _ (hr.below B1) ha hp).mono ?_
  rintro e w2 ⟨A2, n2, c2, rfl, ho2, hb2⟩
  rw [H.out]
  have hz2 := hb2.size
  have cm2 := keepc hb2 (by omega) cm1
  have B2 := below_then B1 hb2
  clear cm1
  have hr2 := hr.below B2
  go_wp2_with fail
  refine (get_any A n c xs _ _ _ hr2 (by omega) (by omega)).mono ?_
  rintro e w3 ⟨A3, n3, c3, rfl, ho3, hb3⟩
  rw [HF.out]
  have hz3 := hb3.size
  have cm3 := keepc hb3 (by omega) cm2
  go_wp2_with fail
  refine (get_any A n c xs _ _ _ (hr2.below hb3) (by omega) (by omega)).mono ?_
  rintro e w4 ⟨A4, n4, c4, rfl, ho4, hb4⟩
  rw [HG.out]
  have hz4 := hb4.size
  have cm4 := keepc hb4 (by omega) cm3
  go_wp2_with fail
  refine (memNum_any A n c xs _ _ _ (hr2.below (below_then hb3 hb4)) (by omega) (by omega)).mono ?_
  rintro e w5 ⟨rfl, hb5⟩
  have hz5 := hb5.size
  have B5 := below_then B2 (below_then (below_then hb3 hb4) hb5)
  have g2 := ho2.rd.below (below_then (below_then hb3 hb4) hb5)
  have g3 := ho3.rd.below (below_then hb4 hb5)
  have g4 := ho4.rd.below hb5
  have l2 : n2 ≤ 100 := by rw [← ho2.len]; unfold memGet; split <;> simp; omega
  have l3 : n3 ≤ 100 := by rw [← ho3.len]; unfold memGet; split <;> simp; omega
  go_wp2_with (first
    | (at_builtin; refine wpList_unguard (by rfl) ?_; refine wp_appB rfl _ _ rfl hb6 (Nat.le_refl _) hb6.size _ _ _ _ rfl ho6 _ _ _ _ rfl (g3.below hb6) (by omega) _ _ rfl rfl ?_; intro A7 c7 w7 ho7 hb7 hg7)
    | (at_builtin; refine wpList_unguard (by rfl) ?_; refine wp_appB rfl _ _ rfl ((below_self w5).alloc (Nat.le_refl _) _) (Nat.le_refl _) (by simp) _ _ _ _ rfl (own0 w5) _ _ _ _ rfl (g2.alloc _) (by omega) n2 (memGet xs a p) (by omega) (by simp) ?_; intro A6 c6 w6 ho6 hb6 hg6))
  refine (bytes_any _ _ _ _ _ _ _ _ _ (g4.below hb7) ho7.rd).mono ?_
  rintro e w8 ⟨rfl, rfl⟩
  rw [HC.out, decide_eq_true rfl]
  have B8 := below_then B5 hb7
  go_wp2_with fail
  refine (heads04 _).mono ?_
  rintro e w9 ⟨rfl, hb9⟩
  go_wp2
  go_ret
  exact ⟨rfl, below_then B8 hb9⟩
theorem memParts_both_num (A : Option Addr) (n c : Nat) (xs : List UInt8) (a p q : Int) (w : World) (hr : RdB w A n c xs) (ha : -9223372036854775808 ≤ a ∧ a ≤ 9223372036854775807) (hp : -9223372036854775808 ≤ p ∧ p ≤ 9223372036854775807) (hq : -9223372036854775808 ≤ q ∧ q ≤ 9223372036854775807) (h : n ≤ 3000) (h2 : 0 ≤ p) (h3 : p ≤ 100) (h4 : 0 ≤ q) (h5 : q ≤ 100) (h6 : memAsk n a p = 0) (h7 : memAsk n (a + p) q = 0) (h8 : 1 ≤ p) (h9 : p ≤ 8) :
    Calls Try.prog 7 #[.agg #[.slice A n c], .int .i64 a, .int .i64 p, .int .i64 q] w (RetV w (.bool true)) := by
  have hn63 := hr.n63
  have D1 : decide (n ≤ 3000) = true := decide_eq_true h
  have d2 : decide (p < 0) = false := decide_eq_false (by omega)
  have d3 : decide (100 < p) = false := decide_eq_false (by omega)
  have d4 : decide (q < 0) = false := decide_eq_false (by omega)
  have d5 : decide (100 < q) = false := decide_eq_false (by omega)
  have d8 : decide (p < 1) = false := decide_eq_false (by omega)
  have d9 : decide (8 < p) = false := decide_eq_false (by omega)
  obtain ⟨_, a0, _, a1, a2⟩ := memAsk_ok h6
  obtain ⟨a, rfl⟩ : ∃ x : Nat, a = x := ⟨a.toNat, by omega⟩
  obtain ⟨p, rfl⟩ : ∃ x : Nat, p = x := ⟨p.toNat, by omega⟩
  obtain ⟨q, rfl⟩ : ∃ x : Nat, q = x := ⟨q.toNat, by omega⟩
  have s1 : IntKind.i64.wrap ((a : Int) + (p : Int)) = (a : Int) + (p : Int) := IntWalk.i64_in _ (by omega)
  have s2 : IntKind.i64.wrap ((p : Int) + (q : Int)) = (p : Int) + (q : Int) := IntWalk.i64_in _ (by omega)
  have hl := hr.2.1
  have hadd := memAsk_add (q := q) h6
  have hn8 : memSz n p = 0 → memNumE n a p = 0 := fun h => by unfold memNumE; rw [if_pos h]; exact h6
  have hv8 : memSz n p = 0 → memNum xs a p = fromLe (memGet xs a p) := fun h => by unfold memNum; rw [hl, if_pos h]
  have HF := Lib.hid h7
  have HG := Lib.hid (hadd.trans h7)
  have HC := Lib.hid (memGet_add (xs := xs) (a := a) (p := p) (q := q) (by rw [hl]; exact h6) (by rw [hl]; exact h7)).symm
  have h10 : memSz n p = 0 := by unfold memSz; rw [if_pos (by omega), if_neg (by omega), if_neg (by omega)]
  have HE := Lib.hid (hn8 h10)
  have HV := Lib.hid (hv8 h10)
  clear h10
  have H := Lib.hid h6
  clear h6 h7 hadd hn8 hv8 hl
  go_enter Try.func7, Try.ntmps7
  go_wp2_with fail
  refine (few_any A n c _ hn63).mono ?_
  rintro e w1 ⟨rfl, hb1⟩
  rw [D1]
  have cm1 : w1.cell? ⟨w.heap.size, 0, none⟩ = some (.slice A n c) := boxed hb1 0
  have hz1 := hb1.size
  simp at hz1
  have B1 := bstep (below_self w) hb1
  go_wp2_with fail
  refine (get_any A n c xs a p _ (hr.below B1) ha hp).mono ?_
  rintro e w2 ⟨A2, n2, c2, rfl, ho2, hb2⟩
  rw [H.out]
  have hz2 := hb2.size
  have cm2 := keepc hb2 (by omega) cm1
  have B2 := below_then B1 hb2
  clear cm1
  have hr2 := hr.below B2
  go_wp2_with fail
  refine (get_any A n c xs _ _ _ hr2 (by omega) (by omega)).mono ?_
  rintro e w3 ⟨A3, n3, c3, rfl, ho3, hb3⟩
  rw [HF.out]
  have hz3 := hb3.size
  have cm3 := keepc hb3 (by omega) cm2
  go_wp2_with fail
  refine (get_any A n c xs _ _ _ (hr2.below hb3) (by omega) (by omega)).mono ?_
  rintro e w4 ⟨A4, n4, c4, rfl, ho4, hb4⟩
  rw [HG.out]
  have hz4 := hb4.size
  have cm4 := keepc hb4 (by omega) cm3
  go_wp2_with fail
  refine (memNum_any A n c xs _ _ _ (hr2.below (below_then hb3 hb4)) (by omega) (by omega)).mono ?_
  rintro e w5 ⟨rfl, hb5⟩
  have hz5 := hb5.size
  have B5 := below_then B2 (below_then (below_then hb3 hb4) hb5)
  have g2 := ho2.rd.below (below_then (below_then hb3 hb4) hb5)
  have g3 := ho3.rd.below (below_then hb4 hb5)
  have g4 := ho4.rd.below hb5
  have l2 : n2 ≤ 100 := by rw [← ho2.len]; unfold memGet; split <;> simp; omega
  have l3 : n3 ≤ 100 := by rw [← ho3.len]; unfold memGet; split <;> simp; omega
  rw [HE.out, HV.out]
  go_wp2_with (first
    | (at_builtin; refine wpList_unguard (by rfl) ?_; refine wp_appB rfl _ _ rfl hb6 (Nat.le_refl _) hb6.size _ _ _ _ rfl ho6 _ _ _ _ rfl (g3.below hb6) (by omega) _ _ rfl rfl ?_; intro A7 c7 w7 ho7 hb7 hg7)
    | (at_builtin; refine wpList_unguard (by rfl) ?_; refine wp_appB rfl _ _ rfl ((below_self w5).alloc (Nat.le_refl _) _) (Nat.le_refl _) (by simp) _ _ _ _ rfl (own0 w5) _ _ _ _ rfl (g2.alloc _) (by omega) n2 (memGet xs a p) (by omega) (by simp) ?_; intro A6 c6 w6 ho6 hb6 hg6))
  refine (bytes_any _ _ _ _ _ _ _ _ _ (g4.below hb7) ho7.rd).mono ?_
  rintro e w8 ⟨rfl, rfl⟩
  rw [HC.out, decide_eq_true rfl]
  have B8 := below_then B5 hb7
  go_wp2_with fail
  refine (refFromLe_any A2 n2 c2 _ _ (g2.below hb7)).mono ?_
  rintro e w10 ⟨rfl, rfl⟩
  go_wp2_with fail
  refine (heads04 _).mono ?_
  rintro e w9 ⟨rfl, hb9⟩
  go_wp2
  go_ret
  exact ⟨rfl, below_then B8 hb9⟩
theorem memParts_one_none (A : Option Addr) (n c : Nat) (xs : List UInt8) (a p q : Int) (w : World) (hr : RdB w A n c xs) (ha : -9223372036854775808 ≤ a ∧ a ≤ 9223372036854775807) (hp : -9223372036854775808 ≤ p ∧ p ≤ 9223372036854775807) (hq : -9223372036854775808 ≤ q ∧ q ≤ 9223372036854775807) (h : n ≤ 3000) (h2 : 0 ≤ p) (h3 : p ≤ 100) (h4 : 0 ≤ q) (h5 : q ≤ 100) (h6 : memAsk n a p = 0) (h7 : memAsk n (a + p) q ≠ 0) (h8 : p < 1) :
    Calls Try.prog 7 #[.agg #[.slice A n c], .int .i64 a, .int .i64 p, .int .i64 q] w (RetV w (.bool true)) := by
  have hn63 := hr.n63
  have D1 : decide (n ≤ 3000) = true := decide_eq_true h
  have d2 : decide (p < 0) = false := decide_eq_false (by omega)
  have d3 : decide (100 < p) = false := decide_eq_false (by omega)
  have d4 : decide (q < 0) = false := decide_eq_false (by omega)
  have d5 : decide (100 < q) = false := decide_eq_false (by omega)
  have d8 : decide (p < 1) = true := decide_eq_true h8
  obtain ⟨_, a0, _, a1, a2⟩ := memAsk_ok h6
  obtain ⟨a, rfl⟩ : ∃ x : Nat, a = x := ⟨a.toNat, by omega⟩
  obtain ⟨p, rfl⟩ : ∃ x : Nat, p = x := ⟨p.toNat, by omega⟩
  obtain ⟨q, rfl⟩ : ∃ x : Nat, q = x := ⟨q.toNat, by omega⟩
  have s1 : IntKind.i64.wrap ((a : Int) + (p : Int)) = (a : Int) + (p : Int) := IntWalk.i64_in _ (by omega)
  have s2 : IntKind.i64.wrap ((p : Int) + (q : Int)) = (p : Int) + (q : Int) := IntWalk.i64_in _ (by omega)
  have hl := hr.2.1
  have hadd := memAsk_add (q := q) h6
  have hn8 : memSz n p = 0 → memNumE n a p = 0 := fun h => by unfold memNumE; rw [if_pos h]; exact h6
  have hv8 : memSz n p = 0 → memNum xs a p = fromLe (memGet xs a p) := fun h => by unfold memNum; rw [hl, if_pos h]
  obtain ⟨r, hr'⟩ : ∃ r, memAsk n ((a : Int) + (p : Int)) q = r := ⟨_, rfl⟩
  have z1 : (r != 0) = true := by rw [bne_iff_ne, ← hr']; exact h7
  have HF := Lib.hid hr'
  have HG := Lib.hid (hadd.trans hr')
  clear hr'
  have H := Lib.hid h6
  clear h6 h7 hadd hn8 hv8 hl
  go_enter Try.func7, Try.ntmps7
  go_wp2_with fail
  refine (few_any A n c _ hn63).mono ?_
  rintro e w1 ⟨rfl, hb1⟩
  rw [D1]
  have cm1 : w1.cell? ⟨w.heap.size, 0, none⟩ = some (.slice A n c) := boxed hb1 0
  have hz1 := hb1.size
  simp at hz1
  have B1 := bstep (below_self w) hb1
  go_wp2_with fail
  refine (get_any A n c xs a p _ (hr.below B1) ha hp).mono ?_
  rintro e w2 ⟨A2, n2, c2, rfl, ho2, hb2⟩
  rw [H.out]
  have hz2 := hb2.size
  have cm2 := keepc hb2 (by omega) cm1
  have B2 := below_then B1 hb2
  clear cm1
  have hr2 := hr.below B2
  go_wp2_with fail
  refine (get_any A n c xs _ _ _ hr2 (by omega) (by omega)).mono ?_
  rintro e w3 ⟨A3, n3, c3, rfl, ho3, hb3⟩
  rw [HF.out]
  have hz3 := hb3.size
  have cm3 := keepc hb3 (by omega) cm2
  go_wp2_with fail
  refine (get_any A n c xs _ _ _ (hr2.below hb3) (by omega) (by omega)).mono ?_
  rintro e w4 ⟨A4, n4, c4, rfl, ho4, hb4⟩
  rw [HG.out]
  have hz4 := hb4.size
  have cm4 := keepc hb4 (by omega) cm3
  go_wp2_with fail
  refine (memNum_any A n c xs _ _ _ (hr2.below (below_then hb3 hb4)) (by omega) (by omega)).mono ?_
  rintro e w5 ⟨rfl, hb5⟩
  have hz5 := hb5.size
  have B5 := below_then B2 (below_then (below_then hb3 hb4) hb5)
  have g2 := ho2.rd.below (below_then (below_then hb3 hb4) hb5)
  have g3 := ho3.rd.below (below_then hb4 hb5)
  have g4 := ho4.rd.below hb5
  have l2 : n2 ≤ 100 := by rw [← ho2.len]; unfold memGet; split <;> simp; omega
  have l3 : n3 ≤ 100 := by rw [← ho3.len]; unfold memGet; split <;> simp; omega
  have B8 := B5
  go_wp2_with fail
  refine (heads04 _).mono ?_
  rintro e w9 ⟨rfl, hb9⟩
  go_wp2
  go_ret
  exact ⟨rfl, below_then B8 hb9⟩
theorem memParts_one_many (A : Option Addr) (n c : Nat) (xs : List UInt8) (a p q : Int) (w : World) (hr : RdB w A n c xs) (ha : -9223372036854775808 ≤ a ∧ a ≤ 9223372036854775807) (hp : -9223372036854775808 ≤ p ∧ p ≤ 9223372036854775807) (hq : -9223372036854775808 ≤ q ∧ q ≤ 9223372036854775807) (h : n ≤ 3000) (h2 : 0 ≤ p) (h3 : p ≤ 100) (h4 : 0 ≤ q) (h5 : q ≤ 100) (h6 : memAsk n a p = 0) (h7 : memAsk n (a + p) q ≠ 0) (h8 : 8 < p) :
    Calls Try.prog 7 #[.agg #[.slice A n c], .int .i64 a, .int .i64 p, .int .i64 q] w (RetV w (.bool true)) := by
  have hn63 := hr.n63
  have D1 : decide (n ≤ 3000) = true := decide_eq_true h
  have d2 : decide (p < 0) = false := decide_eq_false (by omega)
  have d3 : decide (100 < p) = false := decide_eq_false (by omega)
  have d4 : decide (q < 0) = false := decide_eq_false (by omega)
  have d5 : decide (100 < q) = false := decide_eq_false (by omega)
  have d8 : decide (p < 1) = false := decide_eq_false (by omega)
  have d9 : decide (8 < p) = true := decide_eq_true h8
  obtain ⟨_, a0, _, a1, a2⟩ := memAsk_ok h6
  obtain ⟨a, rfl⟩ : ∃ x : Nat, a = x := ⟨a.toNat, by omega⟩
  obtain ⟨p, rfl⟩ : ∃ x : Nat, p = x := ⟨p.toNat, by omega⟩
  obtain ⟨q, rfl⟩ : ∃ x : Nat, q = x := ⟨q.toNat, by omega⟩
  have s1 : IntKind.i64.wrap ((a : Int) + (p : Int)) = (a : Int) + (p : Int) := IntWalk.i64_in _ (by omega)
  have s2 : IntKind.i64.wrap ((p : Int) + (q : Int)) = (p : Int) + (q : Int) := IntWalk.i64_in _ (by omega)
  have hl := hr.2.1
  have hadd := memAsk_add (q := q) h6
  have hn8 : memSz n p = 0 → memNumE n a p = 0 := fun h => by unfold memNumE; rw [if_pos h]; exact h6
  have hv8 : memSz n p = 0 → memNum xs a p = fromLe (memGet xs a p) := fun h => by unfold memNum; rw [hl, if_pos h]
  obtain ⟨r, hr'⟩ : ∃ r, memAsk n ((a : Int) + (p : Int)) q = r := ⟨_, rfl⟩
  have z1 : (r != 0) = true := by rw [bne_iff_ne, ← hr']; exact h7
  have HF := Lib.hid hr'
  have HG := Lib.hid (hadd.trans hr')
  clear hr'
  have H := Lib.hid h6
  clear h6 h7 hadd hn8 hv8 hl
  go_enter Try.func7, Try.ntmps7
  go_wp2_with fail
  refine (few_any A n c _ hn63).mono ?_
  rintro e w1 ⟨rfl, hb1⟩
  rw [D1]
  have cm1 : w1.cell? ⟨w.heap.size, 0, none⟩ = some (.slice A n c) := boxed hb1 0
  have hz1 := hb1.size
  simp at hz1
  have B1 := bstep (below_self w) hb1
  go_wp2_with fail
  refine (get_any A n c xs a p _ (hr.below B1) ha hp).mono ?_
  rintro e w2 ⟨A2, n2, c2, rfl, ho2, hb2⟩
  rw [H.out]
  have hz2 := hb2.size
  have cm2 := keepc hb2 (by omega) cm1
  have B2 := below_then B1 hb2
  clear cm1
  have hr2 := hr.below B2
  go_wp2_with fail
  refine (get_any A n c xs _ _ _ hr2 (by omega) (by omega)).mono ?_
  rintro e w3 ⟨A3, n3, c3, rfl, ho3, hb3⟩
  rw [HF.out]
  have hz3 := hb3.size
  have cm3 := keepc hb3 (by omega) cm2
  go_wp2_with fail
  refine (get_any A n c xs _ _ _ (hr2.below hb3) (by omega) (by omega)).mono ?_
  rintro e w4 ⟨A4, n4, c4, rfl, ho4, hb4⟩
  rw [HG.out]
  have hz4 := hb4.size
  have cm4 := keepc hb4 (by omega) cm3
  go_wp2_with fail
  refine (memNum_any A n c xs _ _ _ (hr2.below (below_then hb3 hb4)) (by omega) (by omega)).mono ?_
  rintro e w5 ⟨rfl, hb5⟩
  have hz5 := hb5.size
  have B5 := below_then B2 (below_then (below_then hb3 hb4) hb5)
  have g2 := ho2.rd.below (below_then (below_then hb3 hb4) hb5)
  have g3 := ho3.rd.below (below_then hb4 hb5)
  have g4 := ho4.rd.below hb5
  have l2 : n2 ≤ 100 := by rw [← ho2.len]; unfold memGet; split <;> simp; omega
  have l3 : n3 ≤ 100 := by rw [← ho3.len]; unfold memGet; split <;> simp; omega
  have B8 := B5
  go_wp2_with fail
  refine (heads04 _).mono ?_
  rintro e w9 ⟨rfl, hb9⟩
  go_wp2
  go_ret
  exact ⟨rfl, below_then B8 hb9⟩
theorem memParts_one_num (A : Option Addr) (n c : Nat) (xs : List UInt8) (a p q : Int) (w : World) (hr : RdB w A n c xs) (ha : -9223372036854775808 ≤ a ∧ a ≤ 9223372036854775807) (hp : -9223372036854775808 ≤ p ∧ p ≤ 9223372036854775807) (hq : -9223372036854775808 ≤ q ∧ q ≤ 9223372036854775807) (h : n ≤ 3000) (h2 : 0 ≤ p) (h3 : p ≤ 100) (h4 : 0 ≤ q) (h5 : q ≤ 100) (h6 : memAsk n a p = 0) (h7 : memAsk n (a + p) q ≠ 0) (h8 : 1 ≤ p) (h9 : p ≤ 8) :
    Calls Try.prog 7 #[.agg #[.slice A n c], .int .i64 a, .int .i64 p, .int .i64 q] w (RetV w (.bool true)) := by
  have hn63 := hr.n63
  have D1 : decide (n ≤ 3000) = true := decide_eq_true h
  have d2 : decide (p < 0) = false := decide_eq_false (by omega)
  have d3 : decide (100 < p) = false := decide_eq_false (by omega)
  have d4 : decide (q < 0) = false := decide_eq_false (by omega)
  have d5 : decide (100 < q) = false := decide_eq_false (by omega)
  have d8 : decide (p < 1) = false := decide_eq_false (by omega)
  have d9 : decide (8 < p) = false := decide_eq_false (by omega)
  obtain ⟨_, a0, _, a1, a2⟩ := memAsk_ok h6
  obtain ⟨a, rfl⟩ : ∃ x : Nat, a = x := ⟨a.toNat, by omega⟩
  obtain ⟨p, rfl⟩ : ∃ x : Nat, p = x := ⟨p.toNat, by omega⟩
  obtain ⟨q, rfl⟩ : ∃ x : Nat, q = x := ⟨q.toNat, by omega⟩
  have s1 : IntKind.i64.wrap ((a : Int) + (p : Int)) = (a : Int) + (p : Int) := IntWalk.i64_in _ (by omega)
  have s2 : IntKind.i64.wrap ((p : Int) + (q : Int)) = (p : Int) + (q : Int) := IntWalk.i64_in _ (by omega)
  have hl := hr.2.1
  have hadd := memAsk_add (q := q) h6
  have hn8 : memSz n p = 0 → memNumE n a p = 0 := fun h => by unfold memNumE; rw [if_pos h]; exact h6
  have hv8 : memSz n p = 0 → memNum xs a p = fromLe (memGet xs a p) := fun h => by unfold memNum; rw [hl, if_pos h]
  obtain ⟨r, hr'⟩ : ∃ r, memAsk n ((a : Int) + (p : Int)) q = r := ⟨_, rfl⟩
  have z1 : (r != 0) = true := by rw [bne_iff_ne, ← hr']; exact h7
  have HF := Lib.hid hr'
  have HG := Lib.hid (hadd.trans hr')
  clear hr'
  have h10 : memSz n p = 0 := by unfold memSz; rw [if_pos (by omega), if_neg (by omega), if_neg (by omega)]
  have HE := Lib.hid (hn8 h10)
  have HV := Lib.hid (hv8 h10)
  clear h10
  have H := Lib.hid h6
  clear h6 h7 hadd hn8 hv8 hl
  go_enter Try.func7, Try.ntmps7
  go_wp2_with fail
  refine (few_any A n c _ hn63).mono ?_
  rintro e w1 ⟨rfl, hb1⟩
  rw [D1]
  have cm1 : w1.cell? ⟨w.heap.size, 0, none⟩ = some (.slice A n c) := boxed hb1 0
  have hz1 := hb1.size
  simp at hz1
  have B1 := bstep (below_self w) hb1
  go_wp2_with fail
  refine (get_any A n c xs a p _ (hr.below B1) ha hp).mono ?_
  rintro e w2 ⟨A2, n2, c2, rfl, ho2, hb2⟩
  rw [H.out]
  have hz2 := hb2.size
  have cm2 := keepc hb2 (by omega) cm1
  have B2 := below_then B1 hb2
  clear cm1
  have hr2 := hr.below B2
  go_wp2_with fail
  refine (get_any A n c xs _ _ _ hr2 (by omega) (by omega)).mono ?_
  rintro e w3 ⟨A3, n3, c3, rfl, ho3, hb3⟩
  rw [HF.out]
  have hz3 := hb3.size
  have cm3 := keepc hb3 (by omega) cm2
  go_wp2_with fail
  refine (get_any A n c xs _ _ _ (hr2.below hb3) (by omega) (by omega)).mono ?_
  rintro e w4 ⟨A4, n4, c4, rfl, ho4, hb4⟩
  rw [HG.out]
  have hz4 := hb4.size
  have cm4 := keepc hb4 (by omega) cm3
  go_wp2_with fail
  refine (memNum_any A n c xs _ _ _ (hr2.below (below_then hb3 hb4)) (by omega) (by omega)).mono ?_
  rintro e w5 ⟨rfl, hb5⟩
  have hz5 := hb5.size
  have B5 := below_then B2 (below_then (below_then hb3 hb4) hb5)
  have g2 := ho2.rd.below (below_then (below_then hb3 hb4) hb5)
  have g3 := ho3.rd.below (below_then hb4 hb5)
  have g4 := ho4.rd.below hb5
  have l2 : n2 ≤ 100 := by rw [← ho2.len]; unfold memGet; split <;> simp; omega
  have l3 : n3 ≤ 100 := by rw [← ho3.len]; unfold memGet; split <;> simp; omega
  rw [HE.out, HV.out]
  have B8 := B5
  go_wp2_with fail
  refine (refFromLe_any A2 n2 c2 _ _ g2).mono ?_
  rintro e w10 ⟨rfl, rfl⟩
  go_wp2_with fail
  refine (heads04 _).mono ?_
  rintro e w9 ⟨rfl, hb9⟩
  go_wp2
  go_ret
  exact ⟨rfl, below_then B8 hb9⟩
theorem memParts_law (A : Option Addr) (n c : Nat) (xs : List UInt8) (a p q : Int) (w : World) (hr : RdB w A n c xs) (ha : -9223372036854775808 ≤ a ∧ a ≤ 9223372036854775807) (hp : -9223372036854775808 ≤ p ∧ p ≤ 9223372036854775807) (hq : -9223372036854775808 ≤ q ∧ q ≤ 9223372036854775807) :
    Calls Try.prog 7 #[.agg #[.slice A n c], .int .i64 a, .int .i64 p, .int .i64 q] w (RetV w (.bool true)) := by
  have hn63 := hr.n63
  by_cases h : n ≤ 3000
  · rcases Int.lt_or_le p 0 with h2 | h2
    · exact memParts_neg A n c xs a p q w hr ha hp hq h h2
    · rcases Int.lt_or_le 100 p with h3 | h3
      · exact memParts_long A n c xs a p q w hr ha hp hq h h2 h3
      · rcases Int.lt_or_le q 0 with h4 | h4
        · exact memParts_qneg A n c xs a p q w hr ha hp hq h h2 h3 h4
        · rcases Int.lt_or_le 100 q with h5 | h5
          · exact memParts_qlong A n c xs a p q w hr ha hp hq h h2 h3 h4 h5
          · by_cases h6 : memAsk n a p = 0
            · by_cases h7 : memAsk n (a + p) q = 0
              · rcases Int.lt_or_le p 1 with h8 | h8
                · exact memParts_both_none A n c xs a p q w hr ha hp hq h h2 h3 h4 h5 h6 h7 h8
                · rcases Int.lt_or_le 8 p with h9 | h9
                  · exact memParts_both_many A n c xs a p q w hr ha hp hq h h2 h3 h4 h5 h6 h7 h9
                  · exact memParts_both_num A n c xs a p q w hr ha hp hq h h2 h3 h4 h5 h6 h7 h8 h9
              · rcases Int.lt_or_le p 1 with h8 | h8
                · exact memParts_one_none A n c xs a p q w hr ha hp hq h h2 h3 h4 h5 h6 h7 h8
                · rcases Int.lt_or_le 8 p with h9 | h9
                  · exact memParts_one_many A n c xs a p q w hr ha hp hq h h2 h3 h4 h5 h6 h7 h9
                  · exact memParts_one_num A n c xs a p q w hr ha hp hq h h2 h3 h4 h5 h6 h7 h8 h9
            · exact memParts_refused A n c xs a p q w hr ha hp hq h h2 h3 h4 h5 h6
  · exact memParts_great A n c xs a p q w hr ha hp hq h
end Go.Proofs.Ythaampcfkmfjcaa
