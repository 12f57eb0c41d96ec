/-
  The law MemKeeps: what is put is got, and all else stays.
-/
import Derived.Test.YthaampcfkmfjcaaMemC
namespace Go.Proofs.Ythaampcfkmfjcaa
open Go.RowKit
set_option linter.unusedVariables false
set_option linter.unusedSimpArgs false

theorem memPut_len {xs ys : List UInt8} {a : Int} : (memPut xs a ys).length = xs.length := by
  unfold memPut
  split
  · rename_i h
    obtain ⟨_, h2, h3, h4, h5⟩ := memAsk_ok h
    simp
    omega
  · rfl
theorem memGet_put {xs ys : List UInt8} {a : Int} (h : memAsk xs.length a ys.length = 0) : memGet (memPut xs a ys) a ys.length = ys := by
  obtain ⟨_, h2, h3, h4, h5⟩ := memAsk_ok h
  unfold memGet
  rw [memPut_len, if_pos h]
  unfold memPut
  rw [if_pos h, List.drop_left' (by simp; omega), Int.toNat_natCast, List.take_left' rfl]
theorem memPut_far {xs ys : List UInt8} {a o : Int} (h0 : 0 ≤ o) (h1 : o < a ∨ a + ys.length ≤ o) : memGet (memPut xs a ys) o 1 = memGet xs o 1 := by
  unfold memGet
  rw [memPut_len]
  split
  · show List.take 1 _ = List.take 1 _
    rw [List.take_one, List.take_one, List.head?_drop, List.head?_drop]
    congr 1
    unfold memPut
    split
    · rename_i h'
      obtain ⟨_, h2, h3, h4, h5⟩ := memAsk_ok h'
      rcases h1 with h1 | h1
      · rw [List.getElem?_append_left (by simp; omega), List.getElem?_take, if_pos (by omega)]
      · rw [List.getElem?_append_right (by simp; omega), List.getElem?_append_right (by simp; omega), List.getElem?_drop]
        congr 1
        simp
        omega
    · rfl
  · rfl

theorem memKeeps_great (A : Option Addr) (n c : Nat) (xs : List UInt8) (a : Int) (B : Option Addr) (m d : Nat) (ys : List UInt8) (o : Int) (w : World) (hr : RdB w A n c xs) (ha : -9223372036854775808 ≤ a ∧ a ≤ 9223372036854775807) (hs : RdB w B m d ys) (ho : -9223372036854775808 ≤ o ∧ o ≤ 9223372036854775807) (h : ¬ n ≤ 3000) :
    Calls Try.prog 9 #[.agg #[.slice A n c], .int .i64 a, .slice B m d, .int .i64 o] w (RetV w (.bool true)) := by
  have hn63 := hr.n63
  have hm63 := hs.n63
  have D1 : decide (n ≤ 3000) = false := decide_eq_false h
  go_enter Try.func9, Try.ntmps9
  go_wp2_with fail
  refine (few_any A n c _ hn63).mono ?_
  rintro e w1 ⟨rfl, hb1⟩
  rw [D1]
  have cm1 : w1.cell? ⟨w.heap.size, 0, none⟩ = some (.slice A n c) := boxed hb1 0
  have hz1 := hb1.size
  simp at hz1
  have B1 := bstep (below_self w) hb1
  go_wp2_with fail
  refine (heads04 _).mono ?_
  rintro e w2 ⟨rfl, hb2⟩
  go_wp2
  go_ret
  exact ⟨rfl, below_then B1 hb2⟩
theorem memKeeps_long (A : Option Addr) (n c : Nat) (xs : List UInt8) (a : Int) (B : Option Addr) (m d : Nat) (ys : List UInt8) (o : Int) (w : World) (hr : RdB w A n c xs) (ha : -9223372036854775808 ≤ a ∧ a ≤ 9223372036854775807) (hs : RdB w B m d ys) (ho : -9223372036854775808 ≤ o ∧ o ≤ 9223372036854775807) (h : n ≤ 3000) (h2 : ¬ m ≤ 500) :
    Calls Try.prog 9 #[.agg #[.slice A n c], .int .i64 a, .slice B m d, .int .i64 o] w (RetV w (.bool true)) := by
  have hn63 := hr.n63
  have hm63 := hs.n63
  have D1 : decide (n ≤ 3000) = true := decide_eq_true h
  have d2 : decide ((500 : Int) < (m : Int)) = true := decide_eq_true (by omega)
  go_enter Try.func9, Try.ntmps9
  go_wp2_with fail
  refine (few_any A n c _ hn63).mono ?_
  rintro e w1 ⟨rfl, hb1⟩
  rw [D1]
  have cm1 : w1.cell? ⟨w.heap.size, 0, none⟩ = some (.slice A n c) := boxed hb1 0
  have hz1 := hb1.size
  simp at hz1
  have B1 := bstep (below_self w) hb1
  go_wp2_with fail
  refine (heads04 _).mono ?_
  rintro e w2 ⟨rfl, hb2⟩
  go_wp2
  go_ret
  exact ⟨rfl, below_then B1 hb2⟩
theorem memKeeps_refused (A : Option Addr) (n c : Nat) (xs : List UInt8) (a : Int) (B : Option Addr) (m d : Nat) (ys : List UInt8) (o : Int) (w : World) (hr : RdB w A n c xs) (ha : -9223372036854775808 ≤ a ∧ a ≤ 9223372036854775807) (hs : RdB w B m d ys) (ho : -9223372036854775808 ≤ o ∧ o ≤ 9223372036854775807) (h : n ≤ 3000) (h2 : m ≤ 500) (h3 : memAsk n a m ≠ 0) :
    Calls Try.prog 9 #[.agg #[.slice A n c], .int .i64 a, .slice B m d, .int .i64 o] w (RetV w (.bool true)) := by
  have hn63 := hr.n63
  have hm63 := hs.n63
  have D1 : decide (n ≤ 3000) = true := decide_eq_true h
  have d2 : decide ((500 : Int) < (m : Int)) = false := decide_eq_false (by omega)
  have h4 : memAsk n a m = 40 := by
    unfold memAsk at h3 ⊢
    rw [if_pos (by omega)] at h3 ⊢
    split at h3
    · exact absurd rfl h3
    · rw [if_neg (by assumption)]
  have hp : memPut xs a ys = xs := by unfold memPut; rw [hr.2.1, hs.2.1, if_neg h3]
  have H := Lib.hid h4
  clear h3 h4
  go_enter Try.func9, Try.ntmps9
  go_wp2_with fail
  refine (few_any A n c _ hn63).mono ?_
  rintro e w1 ⟨rfl, hb1⟩
  rw [D1]
  have cm1 : w1.cell? ⟨w.heap.size, 0, none⟩ = some (.slice A n c) := boxed hb1 0
  have hz1 := hb1.size
  simp at hz1
  have B1 := bstep (below_self w) hb1
  go_wp2_with fail
  refine (put_any A n c xs a B m d ys w1 (hr.below B1) ha (hs.below B1)).mono ?_
  rintro e w2 ⟨A2, n2, c2, rfl, ho2, hq2, hb2⟩
  have hz2 := hb2.size
  obtain rfl : n2 = n := by rw [← ho2.2.1, memPut_len]; exact hr.2.1
  have cm2 := keepc hb2 (by omega) cm1
  rw [H.out]
  clear hq2 cm1
  rw [hp] at ho2
  have km2 := alc (o := .cells #[.slice A2 n2 c2] 34) (by omega) cm2
  go_wp2_with fail
  refine (memSame_any A2 A n2 c2 n2 c xs xs _ (ho2.alloc _) ((hr.below (below_then B1 hb2)).alloc _)).mono ?_
  rintro e w3 ⟨rfl, hb3⟩
  rw [decide_eq_true rfl]
  go_wp2_with fail
  refine (heads04 _).mono ?_
  rintro e w4 ⟨rfl, hb4⟩
  go_wp2
  go_ret
  exact ⟨rfl, below_then (below_then B1 hb2) (below_then (bstep (below_self w2) hb3) hb4)⟩
theorem memKeeps_off (A : Option Addr) (n c : Nat) (xs : List UInt8) (a : Int) (B : Option Addr) (m d : Nat) (ys : List UInt8) (o : Int) (w : World) (hr : RdB w A n c xs) (ha : -9223372036854775808 ≤ a ∧ a ≤ 9223372036854775807) (hs : RdB w B m d ys) (ho : -9223372036854775808 ≤ o ∧ o ≤ 9223372036854775807) (h : n ≤ 3000) (h2 : m ≤ 500) (h3 : memAsk n a m = 0) (h5 : memAsk n o 1 ≠ 0) :
    Calls Try.prog 9 #[.agg #[.slice A n c], .int .i64 a, .slice B m d, .int .i64 o] w (RetV w (.bool true)) := by
  have hn63 := hr.n63
  have hm63 := hs.n63
  have D1 : decide (n ≤ 3000) = true := decide_eq_true h
  have d2 : decide ((500 : Int) < (m : Int)) = false := decide_eq_false (by omega)
  have h6 : (memPut xs a ys).length = n := by rw [memPut_len]; exact hr.2.1
  have H := Lib.hid h3
  have HG := Lib.hid (memGet_put (xs := xs) (ys := ys) (a := a) (by rw [hr.2.1, hs.2.1]; exact h3))
  obtain ⟨_, a0, _, a1, a2⟩ := memAsk_ok h3
  clear h3
  obtain ⟨r, hr'⟩ : ∃ r, memAsk n o 1 = r := ⟨_, rfl⟩
  have z1 : (r == 0) = false := by rw [beq_eq_false_iff_ne, ← hr']; exact h5
  have HO := Lib.hid hr'
  clear hr' h5
  go_enter Try.func9, Try.ntmps9
  go_wp2_with fail
  refine (few_any A n c _ hn63).mono ?_
  rintro e w1 ⟨rfl, hb1⟩
  rw [D1]
  have cm1 : w1.cell? ⟨w.heap.size, 0, none⟩ = some (.slice A n c) := boxed hb1 0
  have hz1 := hb1.size
  simp at hz1
  have B1 := bstep (below_self w) hb1
  go_wp2_with fail
  refine (put_any A n c xs a B m d ys w1 (hr.below B1) ha (hs.below B1)).mono ?_
  rintro e w2 ⟨A2, n2, c2, rfl, ho2, hq2, hb2⟩
  have hz2 := hb2.size
  obtain rfl : n2 = n := by rw [← ho2.2.1, memPut_len]; exact hr.2.1
  have cm2 := keepc hb2 (by omega) cm1
  rw [H.out]
  clear hq2 cm1
  have hs2 := hs.below (below_then B1 hb2)
  go_wp2_with fail
  refine (get_any A2 n2 c2 _ a m _ (ho2.alloc _) ha (by omega)).mono ?_
  rintro e w3 ⟨A3, n3, c3, rfl, ho3, hb3⟩
  have ho3' := ho3
  have hg := HG.out
  rw [hs.2.1] at hg
  rw [hg] at ho3'
  rw [H.out]
  clear ho3 hg
  have cp3 : w3.cell? ⟨w2.heap.size, 0, none⟩ = some (.slice A2 n2 c2) := boxed hb3 0
  have hz3 := hb3.size
  simp at hz3
  have B3 := bstep (below_self w2) hb3
  have cm3 := keepc B3 (by omega) cm2
  clear cm2
  go_wp2_with fail
  refine (get_any A n2 c xs o 1 _ (hr.below (below_then (below_then B1 hb2) B3)) ho (by omega)).mono ?_
  rintro e w4 ⟨A4, n4, c4, rfl, ho4, hb4⟩
  rw [HO.out]
  have hz4 := hb4.size
  have cm4 := keepc hb4 (by omega) cm3
  have cp4 := keepc hb4 (by omega) cp3
  clear cm3 cp3
  go_wp2_with fail
  refine (get_any A2 n2 c2 _ o 1 _ (ho2.below (below_then B3 hb4)) ho (by omega)).mono ?_
  rintro e w5 ⟨A5, n5, c5, rfl, ho5, hb5⟩
  rw [HO.out]
  have hz5 := hb5.size
  have cm5 := keepc hb5 (by omega) cm4
  have cp5 := keepc hb5 (by omega) cp4
  clear cm4 cp4
  have hgot := ho3'.rd.below (below_then hb4 hb5)
  have hs5 := hs2.below (below_then (below_then B3 hb4) hb5)
  go_wp2_with fail
  refine (bytes_any A3 B n3 c3 m d ys ys _ hgot hs5).mono ?_
  rintro e w6 ⟨rfl, rfl⟩
  rw [decide_eq_true rfl]
  go_wp2_with fail
  refine (heads04 _).mono ?_
  rintro e w8 ⟨rfl, hb8⟩
  go_wp2
  go_ret
  exact ⟨rfl, below_then (below_then (below_then B1 hb2) (below_then (below_then B3 hb4) hb5)) hb8⟩
theorem memKeeps_left (A : Option Addr) (n c : Nat) (xs : List UInt8) (a : Int) (B : Option Addr) (m d : Nat) (ys : List UInt8) (o : Int) (w : World) (hr : RdB w A n c xs) (ha : -9223372036854775808 ≤ a ∧ a ≤ 9223372036854775807) (hs : RdB w B m d ys) (ho : -9223372036854775808 ≤ o ∧ o ≤ 9223372036854775807) (h : n ≤ 3000) (h2 : m ≤ 500) (h3 : memAsk n a m = 0) (h5 : memAsk n o 1 = 0) (h7 : o < a) :
    Calls Try.prog 9 #[.agg #[.slice A n c], .int .i64 a, .slice B m d, .int .i64 o] w (RetV w (.bool true)) := by
  have hn63 := hr.n63
  have hm63 := hs.n63
  have D1 : decide (n ≤ 3000) = true := decide_eq_true h
  have d2 : decide ((500 : Int) < (m : Int)) = false := decide_eq_false (by omega)
  have h6 : (memPut xs a ys).length = n := by rw [memPut_len]; exact hr.2.1
  have H := Lib.hid h3
  have HG := Lib.hid (memGet_put (xs := xs) (ys := ys) (a := a) (by rw [hr.2.1, hs.2.1]; exact h3))
  obtain ⟨_, a0, _, a1, a2⟩ := memAsk_ok h3
  clear h3
  have HX := Lib.hid (memPut_far (xs := xs) (ys := ys) (by exact (memAsk_ok h5).2.1) (.inl h7))
  obtain ⟨_, o0, _, o1, o2⟩ := memAsk_ok h5
  have HO := Lib.hid h5
  clear h5
  obtain ⟨o, rfl⟩ : ∃ x : Nat, o = x := ⟨o.toNat, by omega⟩
  obtain ⟨a, rfl⟩ : ∃ x : Nat, a = x := ⟨a.toNat, by omega⟩
  have z2 : decide (o < a) = true := decide_eq_true (by omega)
  go_enter Try.func9, Try.ntmps9
  go_wp2_with fail
  refine (few_any A n c _ hn63).mono ?_
  rintro e w1 ⟨rfl, hb1⟩
  rw [D1]
  have cm1 : w1.cell? ⟨w.heap.size, 0, none⟩ = some (.slice A n c) := boxed hb1 0
  have hz1 := hb1.size
  simp at hz1
  have B1 := bstep (below_self w) hb1
  go_wp2_with fail
  refine (put_any A n c xs a B m d ys w1 (hr.below B1) ha (hs.below B1)).mono ?_
  rintro e w2 ⟨A2, n2, c2, rfl, ho2, hq2, hb2⟩
  have hz2 := hb2.size
  obtain rfl : n2 = n := by rw [← ho2.2.1, memPut_len]; exact hr.2.1
  have cm2 := keepc hb2 (by omega) cm1
  rw [H.out]
  clear hq2 cm1
  have hs2 := hs.below (below_then B1 hb2)
  go_wp2_with fail
  refine (get_any A2 n2 c2 _ a m _ (ho2.alloc _) ha (by omega)).mono ?_
  rintro e w3 ⟨A3, n3, c3, rfl, ho3, hb3⟩
  have ho3' := ho3
  have hg := HG.out
  rw [hs.2.1] at hg
  rw [hg] at ho3'
  rw [H.out]
  clear ho3 hg
  have cp3 : w3.cell? ⟨w2.heap.size, 0, none⟩ = some (.slice A2 n2 c2) := boxed hb3 0
  have hz3 := hb3.size
  simp at hz3
  have B3 := bstep (below_self w2) hb3
  have cm3 := keepc B3 (by omega) cm2
  clear cm2
  go_wp2_with fail
  refine (get_any A n2 c xs o 1 _ (hr.below (below_then (below_then B1 hb2) B3)) ho (by omega)).mono ?_
  rintro e w4 ⟨A4, n4, c4, rfl, ho4, hb4⟩
  rw [HO.out]
  have hz4 := hb4.size
  have cm4 := keepc hb4 (by omega) cm3
  have cp4 := keepc hb4 (by omega) cp3
  clear cm3 cp3
  go_wp2_with fail
  refine (get_any A2 n2 c2 _ o 1 _ (ho2.below (below_then B3 hb4)) ho (by omega)).mono ?_
  rintro e w5 ⟨A5, n5, c5, rfl, ho5, hb5⟩
  rw [HO.out]
  have hz5 := hb5.size
  have cm5 := keepc hb5 (by omega) cm4
  have cp5 := keepc hb5 (by omega) cp4
  clear cm4 cp4
  have hgot := ho3'.rd.below (below_then hb4 hb5)
  have hs5 := hs2.below (below_then (below_then B3 hb4) hb5)
  go_wp2_with fail
  refine (bytes_any A3 B n3 c3 m d ys ys _ hgot hs5).mono ?_
  rintro e w6 ⟨rfl, rfl⟩
  rw [decide_eq_true rfl]
  go_wp2_with fail
  refine (bytes_any A4 A5 n4 c4 n5 c5 _ _ _ (ho4.rd.below hb5) ho5.rd).mono ?_
  rintro e w7 ⟨rfl, rfl⟩
  rw [HX.out, decide_eq_true rfl]
  go_wp2_with fail
  refine (heads04 _).mono ?_
  rintro e w8 ⟨rfl, hb8⟩
  go_wp2
  go_ret
  exact ⟨rfl, below_then (below_then (below_then B1 hb2) (below_then (below_then B3 hb4) hb5)) hb8⟩
theorem memKeeps_right (A : Option Addr) (n c : Nat) (xs : List UInt8) (a : Int) (B : Option Addr) (m d : Nat) (ys : List UInt8) (o : Int) (w : World) (hr : RdB w A n c xs) (ha : -9223372036854775808 ≤ a ∧ a ≤ 9223372036854775807) (hs : RdB w B m d ys) (ho : -9223372036854775808 ≤ o ∧ o ≤ 9223372036854775807) (h : n ≤ 3000) (h2 : m ≤ 500) (h3 : memAsk n a m = 0) (h5 : memAsk n o 1 = 0) (h7 : ¬ o < a) (h8 : a + m ≤ o) :
    Calls Try.prog 9 #[.agg #[.slice A n c], .int .i64 a, .slice B m d, .int .i64 o] w (RetV w (.bool true)) := by
  have hn63 := hr.n63
  have hm63 := hs.n63
  have D1 : decide (n ≤ 3000) = true := decide_eq_true h
  have d2 : decide ((500 : Int) < (m : Int)) = false := decide_eq_false (by omega)
  have h6 : (memPut xs a ys).length = n := by rw [memPut_len]; exact hr.2.1
  have H := Lib.hid h3
  have HG := Lib.hid (memGet_put (xs := xs) (ys := ys) (a := a) (by rw [hr.2.1, hs.2.1]; exact h3))
  obtain ⟨_, a0, _, a1, a2⟩ := memAsk_ok h3
  clear h3
  have HX := Lib.hid (memPut_far (xs := xs) (ys := ys) (by exact (memAsk_ok h5).2.1) (.inr (by rw [hs.2.1]; exact h8)))
  obtain ⟨_, o0, _, o1, o2⟩ := memAsk_ok h5
  have HO := Lib.hid h5
  clear h5
  obtain ⟨o, rfl⟩ : ∃ x : Nat, o = x := ⟨o.toNat, by omega⟩
  obtain ⟨a, rfl⟩ : ∃ x : Nat, a = x := ⟨a.toNat, by omega⟩
  have z2 : decide (o < a) = false := decide_eq_false (by omega)
  have z3 : decide ((m : Int) ≤ (o : Int) - (a : Int)) = true := decide_eq_true (by omega)
  go_enter Try.func9, Try.ntmps9
  go_wp2_with fail
  refine (few_any A n c _ hn63).mono ?_
  rintro e w1 ⟨rfl, hb1⟩
  rw [D1]
  have cm1 : w1.cell? ⟨w.heap.size, 0, none⟩ = some (.slice A n c) := boxed hb1 0
  have hz1 := hb1.size
  simp at hz1
  have B1 := bstep (below_self w) hb1
  go_wp2_with fail
  refine (put_any A n c xs a B m d ys w1 (hr.below B1) ha (hs.below B1)).mono ?_
  rintro e w2 ⟨A2, n2, c2, rfl, ho2, hq2, hb2⟩
  have hz2 := hb2.size
  obtain rfl : n2 = n := by rw [← ho2.2.1, memPut_len]; exact hr.2.1
  have cm2 := keepc hb2 (by omega) cm1
  rw [H.out]
  clear hq2 cm1
  have hs2 := hs.below (below_then B1 hb2)
  go_wp2_with fail
  refine (get_any A2 n2 c2 _ a m _ (ho2.alloc _) ha (by omega)).mono ?_
  rintro e w3 ⟨A3, n3, c3, rfl, ho3, hb3⟩
  have ho3' := ho3
  have hg := HG.out
  rw [hs.2.1] at hg
  rw [hg] at ho3'
  rw [H.out]
  clear ho3 hg
  have cp3 : w3.cell? ⟨w2.heap.size, 0, none⟩ = some (.slice A2 n2 c2) := boxed hb3 0
  have hz3 := hb3.size
  simp at hz3
  have B3 := bstep (below_self w2) hb3
  have cm3 := keepc B3 (by omega) cm2
  clear cm2
  go_wp2_with fail
  refine (get_any A n2 c xs o 1 _ (hr.below (below_then (below_then B1 hb2) B3)) ho (by omega)).mono ?_
  rintro e w4 ⟨A4, n4, c4, rfl, ho4, hb4⟩
  rw [HO.out]
  have hz4 := hb4.size
  have cm4 := keepc hb4 (by omega) cm3
  have cp4 := keepc hb4 (by omega) cp3
  clear cm3 cp3
  go_wp2_with fail
  refine (get_any A2 n2 c2 _ o 1 _ (ho2.below (below_then B3 hb4)) ho (by omega)).mono ?_
  rintro e w5 ⟨A5, n5, c5, rfl, ho5, hb5⟩
  rw [HO.out]
  have hz5 := hb5.size
  have cm5 := keepc hb5 (by omega) cm4
  have cp5 := keepc hb5 (by omega) cp4
  clear cm4 cp4
  have hgot := ho3'.rd.below (below_then hb4 hb5)
  have hs5 := hs2.below (below_then (below_then B3 hb4) hb5)
  go_wp2_with fail
  refine (bytes_any A3 B n3 c3 m d ys ys _ hgot hs5).mono ?_
  rintro e w6 ⟨rfl, rfl⟩
  rw [decide_eq_true rfl]
  go_wp2_with fail
  refine (bytes_any A4 A5 n4 c4 n5 c5 _ _ _ (ho4.rd.below hb5) ho5.rd).mono ?_
  rintro e w7 ⟨rfl, rfl⟩
  rw [HX.out, decide_eq_true rfl]
  go_wp2_with fail
  refine (heads04 _).mono ?_
  rintro e w8 ⟨rfl, hb8⟩
  go_wp2
  go_ret
  exact ⟨rfl, below_then (below_then (below_then B1 hb2) (below_then (below_then B3 hb4) hb5)) hb8⟩
theorem memKeeps_within (A : Option Addr) (n c : Nat) (xs : List UInt8) (a : Int) (B : Option Addr) (m d : Nat) (ys : List UInt8) (o : Int) (w : World) (hr : RdB w A n c xs) (ha : -9223372036854775808 ≤ a ∧ a ≤ 9223372036854775807) (hs : RdB w B m d ys) (ho : -9223372036854775808 ≤ o ∧ o ≤ 9223372036854775807) (h : n ≤ 3000) (h2 : m ≤ 500) (h3 : memAsk n a m = 0) (h5 : memAsk n o 1 = 0) (h7 : ¬ o < a) (h8 : ¬ a + m ≤ o) :
    Calls Try.prog 9 #[.agg #[.slice A n c], .int .i64 a, .slice B m d, .int .i64 o] w (RetV w (.bool true)) := by
  have hn63 := hr.n63
  have hm63 := hs.n63
  have D1 : decide (n ≤ 3000) = true := decide_eq_true h
  have d2 : decide ((500 : Int) < (m : Int)) = false := decide_eq_false (by omega)
  have h6 : (memPut xs a ys).length = n := by rw [memPut_len]; exact hr.2.1
  have H := Lib.hid h3
  have HG := Lib.hid (memGet_put (xs := xs) (ys := ys) (a := a) (by rw [hr.2.1, hs.2.1]; exact h3))
  obtain ⟨_, a0, _, a1, a2⟩ := memAsk_ok h3
  clear h3
  obtain ⟨_, o0, _, o1, o2⟩ := memAsk_ok h5
  have HO := Lib.hid h5
  clear h5
  obtain ⟨o, rfl⟩ : ∃ x : Nat, o = x := ⟨o.toNat, by omega⟩
  obtain ⟨a, rfl⟩ : ∃ x : Nat, a = x := ⟨a.toNat, by omega⟩
  have z2 : decide (o < a) = false := decide_eq_false (by omega)
  have z3 : decide ((m : Int) ≤ (o : Int) - (a : Int)) = false := decide_eq_false (by omega)
  go_enter Try.func9, Try.ntmps9
  go_wp2_with fail
  refine (few_any A n c _ hn63).mono ?_
  rintro e w1 ⟨rfl, hb1⟩
  rw [D1]
  have cm1 : w1.cell? ⟨w.heap.size, 0, none⟩ = some (.slice A n c) := boxed hb1 0
  have hz1 := hb1.size
  simp at hz1
  have B1 := bstep (below_self w) hb1
  go_wp2_with fail
  refine (put_any A n c xs a B m d ys w1 (hr.below B1) ha (hs.below B1)).mono ?_
  rintro e w2 ⟨A2, n2, c2, rfl, ho2, hq2, hb2⟩
  have hz2 := hb2.size
  obtain rfl : n2 = n := by rw [← ho2.2.1, memPut_len]; exact hr.2.1
  have cm2 := keepc hb2 (by omega) cm1
  rw [H.out]
  clear hq2 cm1
  have hs2 := hs.below (below_then B1 hb2)
  go_wp2_with fail
  refine (get_any A2 n2 c2 _ a m _ (ho2.alloc _) ha (by omega)).mono ?_
  rintro e w3 ⟨A3, n3, c3, rfl, ho3, hb3⟩
  have ho3' := ho3
  have hg := HG.out
  rw [hs.2.1] at hg
  rw [hg] at ho3'
  rw [H.out]
  clear ho3 hg
  have cp3 : w3.cell? ⟨w2.heap.size, 0, none⟩ = some (.slice A2 n2 c2) := boxed hb3 0
  have hz3 := hb3.size
  simp at hz3
  have B3 := bstep (below_self w2) hb3
  have cm3 := keepc B3 (by omega) cm2
  clear cm2
  go_wp2_with fail
  refine (get_any A n2 c xs o 1 _ (hr.below (below_then (below_then B1 hb2) B3)) ho (by omega)).mono ?_
  rintro e w4 ⟨A4, n4, c4, rfl, ho4, hb4⟩
  rw [HO.out]
  have hz4 := hb4.size
  have cm4 := keepc hb4 (by omega) cm3
  have cp4 := keepc hb4 (by omega) cp3
  clear cm3 cp3
  go_wp2_with fail
  refine (get_any A2 n2 c2 _ o 1 _ (ho2.below (below_then B3 hb4)) ho (by omega)).mono ?_
  rintro e w5 ⟨A5, n5, c5, rfl, ho5, hb5⟩
  rw [HO.out]
  have hz5 := hb5.size
  have cm5 := keepc hb5 (by omega) cm4
  have cp5 := keepc hb5 (by omega) cp4
  clear cm4 cp4
  have hgot := ho3'.rd.below (below_then hb4 hb5)
  have hs5 := hs2.below (below_then (below_then B3 hb4) hb5)
  go_wp2_with fail
  refine (bytes_any A3 B n3 c3 m d ys ys _ hgot hs5).mono ?_
  rintro e w6 ⟨rfl, rfl⟩
  rw [decide_eq_true rfl]
  go_wp2_with fail
  refine (heads04 _).mono ?_
  rintro e w8 ⟨rfl, hb8⟩
  go_wp2
  go_ret
  exact ⟨rfl, below_then (below_then (below_then B1 hb2) (below_then (below_then B3 hb4) hb5)) hb8⟩
theorem memKeeps_law (A : Option Addr) (n c : Nat) (xs : List UInt8) (a : Int) (B : Option Addr) (m d : Nat) (ys : List UInt8) (o : Int) (w : World) (hr : RdB w A n c xs) (ha : -9223372036854775808 ≤ a ∧ a ≤ 9223372036854775807) (hs : RdB w B m d ys) (ho : -9223372036854775808 ≤ o ∧ o ≤ 9223372036854775807) :
    Calls Try.prog 9 #[.agg #[.slice A n c], .int .i64 a, .slice B m d, .int .i64 o] w (RetV w (.bool true)) := by
  have hn63 := hr.n63
  have hm63 := hs.n63
  by_cases h : n ≤ 3000
  · by_cases h2 : m ≤ 500
    · by_cases h3 : memAsk n a m = 0
      · by_cases h5 : memAsk n o 1 = 0
        · by_cases h7 : o < a
          · exact memKeeps_left A n c xs a B m d ys o w hr ha hs ho h h2 h3 h5 h7
          · by_cases h8 : a + m ≤ o
            · exact memKeeps_right A n c xs a B m d ys o w hr ha hs ho h h2 h3 h5 h7 h8
            · exact memKeeps_within A n c xs a B m d ys o w hr ha hs ho h h2 h3 h5 h7 h8
        · exact memKeeps_off A n c xs a B m d ys o w hr ha hs ho h h2 h3 h5
      · exact memKeeps_refused A n c xs a B m d ys o w hr ha hs ho h h2 h3
    · exact memKeeps_long A n c xs a B m d ys o w hr ha hs ho h h2
  · exact memKeeps_great A n c xs a B m d ys o w hr ha hs ho h
end Go.Proofs.Ythaampcfkmfjcaa
