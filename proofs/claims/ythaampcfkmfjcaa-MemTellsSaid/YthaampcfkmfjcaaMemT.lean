/-
  New of both; the law MemTells.
-/
import Derived.Test.YthaampcfkmfjcaaMemR
namespace Go.Proofs.Ythaampcfkmfjcaa
open Go.RowKit
set_option linter.unusedVariables false
set_option linter.unusedSimpArgs false

def memNewL (n : Int) : List UInt8 := if n < 0 then [] else if 8192 < n then [] else List.replicate n.toNat 0
def memNewE (n : Int) : Int := if n < 0 then 2 else if 8192 < n then 2 else 0
def RetMN (w : World) (ys : List UInt8) (er : Int) (e : Ending) (w' : World) : Prop := ∃ A n c, e = .returned (.tuple #[.agg #[.slice A n c], .int .i64 er]) ∧ RdB w' A n c ys ∧ Below w.heap.size w w'
theorem setc_same {w : World} {g : Nat} {u v : Value} (h : w.cell? ⟨g, 0, none⟩ = some u) : (w.setCell ⟨g, 0, none⟩ v).cell? ⟨g, 0, none⟩ = some v := World.cell?_setCell_same _ _ _ h
theorem setc_other {w : World} {g g' : Nat} {u v : Value} (hg : g ≠ g') (h : w.cell? ⟨g', 0, none⟩ = some u) : (w.setCell ⟨g, 0, none⟩ v).cell? ⟨g', 0, none⟩ = some u := by rw [World.cell?_setCell_other _ _ _ _ (fun e => hg (by injection e))]; exact h
theorem setc_froz {w : World} {p q : Addr} {v : Value} {b : Bool} (h : w.frozen? q = b) : (w.setCell p v).frozen? q = b := by rw [World.frozen?_setCell]; exact h
theorem alcf {w : World} {g : Nat} {b : Bool} {o : Obj} (hg : g < w.heap.size) (hc : w.frozen? ⟨g, 0, none⟩ = b) : (w.alloc o).frozen? ⟨g, 0, none⟩ = b := by
  have hb := (below_self w).alloc (Nat.le_refl _) o
  exact (hb.frozen (p := ⟨g, 0, none⟩) hg).trans hc
theorem alloc_box (w : World) (cs : Array Value) (t : TypeId) (i : Nat) : (w.alloc (.cells cs t)).cell? ⟨w.heap.size, i, none⟩ = cs[i]? := cell_of_row _ _ i cs t (0, 0) (heap_alloc_new w _)

theorem memNew_any (n : Int) (w : World) (hn : -9223372036854775808 ≤ n ∧ n ≤ 9223372036854775807) :
    Calls Try.prog 37 #[.int .i64 n] w (RetMN w (memNewL n) (memNewE n)) := by
  unfold memNewL memNewE
  by_cases h1 : n < 0
  · rw [if_pos h1, if_pos h1]
    have d1 : decide (n < 0) = true := decide_eq_true h1
    go_enter Try.func37, Try.ntmps37
    go_wp2
    exact bodyPost_ret (v := .tuple #[.agg #[.slice none 0 0], .int .i64 2]) (by simp [results, Try.results37, go_sem, alloc_box]) rfl
      ⟨_, _, _, rfl, RdB.nilB _, (below_self w).alloc (Nat.le_refl _) _⟩
  · rw [if_neg h1, if_neg h1]
    have d1 : decide (n < 0) = false := decide_eq_false h1
    by_cases h2 : 8192 < n
    · rw [if_pos h2, if_pos h2]
      have d2 : decide (8192 < n) = true := decide_eq_true h2
      go_enter Try.func37, Try.ntmps37
      go_wp2
      exact bodyPost_ret (v := .tuple #[.agg #[.slice none 0 0], .int .i64 2]) (by simp [results, Try.results37, go_sem, alloc_box]) rfl
        ⟨_, _, _, rfl, RdB.nilB _, (below_self w).alloc (Nat.le_refl _) _⟩
    · rw [if_neg h2, if_neg h2]
      obtain ⟨n, rfl⟩ : ∃ x : Nat, n = x := ⟨n.toNat, by omega⟩
      have d2 : decide ((8192 : Int) < (n : Int)) = false := decide_eq_false (by omega)
      rw [Int.toNat_natCast]
      go_enter Try.func37, Try.ntmps37
      go_wp2_with ((with_reducible refine wp_makeB rfl (.tmp 11) (.tmp 11) rfl .i64 .i64 n rfl rfl (by omega) ?_); intro w1 ho1 hb1; have c1 : w1.cell? ⟨w.heap.size, 0, none⟩ = some (.slice none 0 0) := boxed hb1 0; have f1 := boxf hb1 0)
      exact bodyPost_ret (v := .tuple #[.agg #[.slice (some ⟨w.heap.size + 1, 0, none⟩) n n], .int .i64 0]) (by simp [results, Try.results37, go_sem, c1, f1]) rfl
        ⟨_, _, _, rfl, rd_far (by simpa using ho1.rd) _ _ (fun _ a ha => by cases ha; simp), (bstep (below_self w) hb1).setCell (by simp) _⟩

theorem refMemNew_any (n : Int) (w : World) (hn : -9223372036854775808 ≤ n ∧ n ≤ 9223372036854775807) :
    Calls Try.prog 38 #[.int .i64 n] w (RetMN w (memNewL n) (memNewE n)) := by
  unfold memNewL memNewE
  by_cases h1 : n < 0
  · rw [if_pos h1, if_pos h1]
    have d1 : decide (n < 0) = true := decide_eq_true h1
    go_enter Try.func38, Try.ntmps38
    go_wp2
    exact bodyPost_ret (v := .tuple #[.agg #[.slice none 0 0], .int .i64 2]) (by simp [results, Try.results38, go_sem, alloc_box]) rfl
      ⟨_, _, _, rfl, RdB.nilB _, (below_self w).alloc (Nat.le_refl _) _⟩
  · rw [if_neg h1, if_neg h1]
    have d1 : decide (n < 0) = false := decide_eq_false h1
    by_cases h2 : 8192 < n
    · rw [if_pos h2, if_pos h2]
      have d2 : decide (8192 < n) = true := decide_eq_true h2
      go_enter Try.func38, Try.ntmps38
      go_wp2
      exact bodyPost_ret (v := .tuple #[.agg #[.slice none 0 0], .int .i64 2]) (by simp [results, Try.results38, go_sem, alloc_box]) rfl
        ⟨_, _, _, rfl, RdB.nilB _, (below_self w).alloc (Nat.le_refl _) _⟩
    · rw [if_neg h2, if_neg h2]
      obtain ⟨n, rfl⟩ : ∃ x : Nat, n = x := ⟨n.toNat, by omega⟩
      have d2 : decide ((8192 : Int) < (n : Int)) = false := decide_eq_false (by omega)
      rw [Int.toNat_natCast]
      go_enter Try.func38, Try.ntmps38
      go_wp2_with ((with_reducible refine wp_makeB rfl (.tmp 11) (.tmp 11) rfl .i64 .i64 n rfl rfl (by omega) ?_); intro w1 ho1 hb1; have c1 : w1.cell? ⟨w.heap.size, 0, none⟩ = some (.slice none 0 0) := boxed hb1 0; have f1 := boxf hb1 0)
      exact bodyPost_ret (v := .tuple #[.agg #[.slice (some ⟨w.heap.size + 1, 0, none⟩) n n], .int .i64 0]) (by simp [results, Try.results38, go_sem, c1, f1]) rfl
        ⟨_, _, _, rfl, rd_far (by simpa using ho1.rd) _ _ (fun _ a ha => by cases ha; simp), (bstep (below_self w) hb1).setCell (by simp) _⟩

theorem memTells_great (A : Option Addr) (n c : Nat) (xs : List UInt8) (a s : Int) (B : Option Addr) (m d : Nat) (ys : List UInt8) (x : Nat) (w : World) (hr : RdB w A n c xs) (ha : -9223372036854775808 ≤ a ∧ a ≤ 9223372036854775807) (hs : -9223372036854775808 ≤ s ∧ s ≤ 9223372036854775807) (hy : RdB w B m d ys) (hx : x < 18446744073709551616) (h : ¬ n ≤ 3000) :
    Calls Try.prog 8 #[.agg #[.slice A n c], .int .i64 a, .int .i64 s, .slice B m d, .int .u64 x] w (RetV w (.bool true)) := by
  have hn63 := hr.n63
  have hm63 := hy.n63
  have D1 : decide (n ≤ 3000) = false := decide_eq_false h
  go_enter Try.func8, Try.ntmps8
  go_wp2_with fail
  refine (few_any A n c _ hn63).mono ?_
  rintro e w1 ⟨rfl, hb1⟩
  rw [D1]
  have cm1 : w1.cell? ⟨w.heap.size, 0, none⟩ = some (.slice A n c) := boxed hb1 0
  have hz1 := hb1.size
  simp at hz1
  have B1 := bstep (below_self w) hb1
  go_wp2_with fail
  refine (heads04 _).mono ?_
  rintro e w99 ⟨rfl, hb99⟩
  go_wp2
  go_ret
  exact ⟨rfl, below_then B1 hb99⟩

theorem memTells_long (A : Option Addr) (n c : Nat) (xs : List UInt8) (a s : Int) (B : Option Addr) (m d : Nat) (ys : List UInt8) (x : Nat) (w : World) (hr : RdB w A n c xs) (ha : -9223372036854775808 ≤ a ∧ a ≤ 9223372036854775807) (hs : -9223372036854775808 ≤ s ∧ s ≤ 9223372036854775807) (hy : RdB w B m d ys) (hx : x < 18446744073709551616) (h : n ≤ 3000) (h2 : ¬ m ≤ 500) :
    Calls Try.prog 8 #[.agg #[.slice A n c], .int .i64 a, .int .i64 s, .slice B m d, .int .u64 x] w (RetV w (.bool true)) := by
  have hn63 := hr.n63
  have hm63 := hy.n63
  have D1 : decide (n ≤ 3000) = true := decide_eq_true h
  have d2 : decide ((500 : Int) < (m : Int)) = true := decide_eq_true (by omega)
  go_enter Try.func8, Try.ntmps8
  go_wp2_with fail
  refine (few_any A n c _ hn63).mono ?_
  rintro e w1 ⟨rfl, hb1⟩
  rw [D1]
  have cm1 : w1.cell? ⟨w.heap.size, 0, none⟩ = some (.slice A n c) := boxed hb1 0
  have hz1 := hb1.size
  simp at hz1
  have B1 := bstep (below_self w) hb1
  go_wp2_with fail
  refine (heads04 _).mono ?_
  rintro e w99 ⟨rfl, hb99⟩
  go_wp2
  go_ret
  exact ⟨rfl, below_then B1 hb99⟩

theorem memTells_wide (A : Option Addr) (n c : Nat) (xs : List UInt8) (a s : Int) (B : Option Addr) (m d : Nat) (ys : List UInt8) (x : Nat) (w : World) (hr : RdB w A n c xs) (ha : -9223372036854775808 ≤ a ∧ a ≤ 9223372036854775807) (hs : -9223372036854775808 ≤ s ∧ s ≤ 9223372036854775807) (hy : RdB w B m d ys) (hx : x < 18446744073709551616) (h : n ≤ 3000) (h2 : m ≤ 500) (h3 : ¬ s ≤ 20000) :
    Calls Try.prog 8 #[.agg #[.slice A n c], .int .i64 a, .int .i64 s, .slice B m d, .int .u64 x] w (RetV w (.bool true)) := by
  have hn63 := hr.n63
  have hm63 := hy.n63
  have D1 : decide (n ≤ 3000) = true := decide_eq_true h
  have d2 : decide ((500 : Int) < (m : Int)) = false := decide_eq_false (by omega)
  have d3 : decide (20000 < s) = true := decide_eq_true (by omega)
  go_enter Try.func8, Try.ntmps8
  go_wp2_with fail
  refine (few_any A n c _ hn63).mono ?_
  rintro e w1 ⟨rfl, hb1⟩
  rw [D1]
  have cm1 : w1.cell? ⟨w.heap.size, 0, none⟩ = some (.slice A n c) := boxed hb1 0
  have hz1 := hb1.size
  simp at hz1
  have B1 := bstep (below_self w) hb1
  go_wp2_with fail
  refine (heads04 _).mono ?_
  rintro e w99 ⟨rfl, hb99⟩
  go_wp2
  go_ret
  exact ⟨rfl, below_then B1 hb99⟩

set_option maxRecDepth 100000 in
set_option maxHeartbeats 1600000 in
theorem memTells_main (A : Option Addr) (n c : Nat) (xs : List UInt8) (a s : Int) (B : Option Addr) (m d : Nat) (ys : List UInt8) (x : Nat) (w : World) (hr : RdB w A n c xs) (ha : -9223372036854775808 ≤ a ∧ a ≤ 9223372036854775807) (hs : -9223372036854775808 ≤ s ∧ s ≤ 9223372036854775807) (hy : RdB w B m d ys) (hx : x < 18446744073709551616) (h : n ≤ 3000) (h2 : m ≤ 500) (h3 : s ≤ 20000) :
    Calls Try.prog 8 #[.agg #[.slice A n c], .int .i64 a, .int .i64 s, .slice B m d, .int .u64 x] w (RetV w (.bool true)) := by
  have hn63 := hr.n63
  have hm63 := hy.n63
  have D1 : decide (n ≤ 3000) = true := decide_eq_true h
  have d2 : decide ((500 : Int) < (m : Int)) = false := decide_eq_false (by omega)
  have d3 : decide (20000 < s) = false := decide_eq_false (by omega)
  go_enter Try.func8, Try.ntmps8
  go_wp2_with fail
  refine (few_any A n c _ hn63).mono ?_
  rintro e w1 ⟨rfl, hb1⟩
  rw [D1]
  have cm1 : w1.cell? ⟨w.heap.size, 0, none⟩ = some (.slice A n c) := boxed hb1 0
  have hz1 := hb1.size
  simp at hz1
  have B1 := bstep (below_self w) hb1
  go_wp2_with fail
  refine (get_any A n c xs a s _ (hr.below B1) ha hs).mono ?_
  rintro e w2 ⟨A2, n2, c2, rfl, ho2, hb2⟩
  have hz2 := hb2.size
  have cm2 := keepc hb2 (by omega) cm1
  have B2 := below_then B1 hb2
  go_wp2_with fail
  refine (refGet_any A n c xs a s _ (hr.below B2) ha hs).mono ?_
  rintro e w3 ⟨A3, n3, c3, rfl, ho3, hb3⟩
  have hz3 := hb3.size
  have cm3 := keepc hb3 (by omega) cm2
  have B3 := below_then B2 hb3
  clear cm1 cm2
  go_wp2_with fail
  refine (bytes_any A2 A3 n2 c2 n3 c3 _ _ _ (ho2.rd.below hb3) ho3.rd).mono ?_
  rintro e w4 ⟨rfl, rfl⟩
  rw [decide_eq_true rfl]
  go_wp2_with fail
  refine (put_any A n c xs a B m d ys _ (hr.below B3) ha (hy.below B3)).mono ?_
  rintro e w5 ⟨A5, n5, c5, rfl, ho5, hq5, hb5⟩
  have hz5 := hb5.size
  have cm5 := keepc hb5 (by omega) cm3
  have B5 := below_then B3 hb5
  have km5 := alc (o := .cells #[.slice A5 n5 c5] 34) (by omega) cm5
  clear cm3 hq5
  go_wp2_with fail
  refine (refPut_any A n c xs a B m d ys _ ((hr.below B5).alloc _) ha ((hy.below B5).alloc _)).mono ?_
  rintro e w6 ⟨A6, n6, c6, rfl, ho6, hq6, hb6⟩
  have cp6 : w6.cell? ⟨w5.heap.size, 0, none⟩ = some (.slice A5 n5 c5) := boxed hb6 0
  have fp6 := boxf hb6 0
  have hz6 := hb6.size
  simp at hz6
  have B6' := bstep (below_self w5) hb6
  have cm6 := keepc B6' (by omega) cm5
  have kp6 := alc (o := .cells #[.slice A6 n6 c6] 34) (by omega) cp6
  clear cm5 km5 hq6
  have r5 := (ho5.below B6').alloc (.cells #[.slice A6 n6 c6] 34)
  have r6 := ho6.alloc (.cells #[.slice A6 n6 c6] 34)
  go_wp2_with fail
  refine (memSame_any A5 A6 n5 c5 n6 c6 _ _ _ r5 r6).mono ?_
  rintro e w7 ⟨rfl, hb7⟩
  rw [decide_eq_true rfl]
  have cq7 : w7.cell? ⟨w6.heap.size, 0, none⟩ = some (.slice A6 n6 c6) := boxed hb7 0
  have fq7 := boxf hb7 0
  have hz7 := hb7.size
  simp at hz7
  have B7' := bstep (below_self w6) hb7
  have cm7 := keepc B7' (by omega) cm6
  have cp7 := keepc B7' (by omega) cp6
  have fp7 := keepf B7' (by omega) fp6
  have B7 := below_then B5 (below_then B6' B7')
  clear cm6 cp6 fp6 kp6 r5 r6
  go_wp2_with fail
  refine (memNum_any A n c xs a s _ (hr.below B7) ha hs).mono ?_
  rintro e w8 ⟨rfl, hb8⟩
  have hz8 := hb8.size
  have cm8 := keepc hb8 (by omega) cm7
  go_wp2_with fail
  refine (refMemNum_any A n c xs a s _ (hr.below (below_then B7 hb8)) ha hs).mono ?_
  rintro e w9 ⟨rfl, hb9⟩
  have hz9 := hb9.size
  have B79 := below_then hb8 hb9
  have B9 := below_then B7 B79
  have cm9 := keepc hb9 (by omega) cm8
  go_wp2_with fail
  refine (putNum_any A n c xs a s x _ (hr.below B9) ha hs hx).mono ?_
  rintro e w10 ⟨A10, n10, c10, rfl, ho10, hq10, hb10⟩
  have hz10 := hb10.size
  have B7x := below_then B79 hb10
  have B10 := below_then B9 hb10
  have cm10 := keepc hb10 (by omega) cm9
  have cp10 := keepc B7x (by omega) cp7
  have fp10 := keepf B7x (by omega) fp7
  have cq10 := keepc B7x (by omega) cq7
  have fq10 := keepf B7x (by omega) fq7
  have far10 := far_of hq10 hr (g := w5.heap.size) (by omega) (by omega)
  have rp10 := rd_far ho10 ⟨w5.heap.size, 0, none⟩ (.slice A10 n10 c10) far10
  have rm10 := rd_far (hr.below B10) ⟨w5.heap.size, 0, none⟩ (.slice A10 n10 c10) (fun hn x hx => by have := hr.lt hn x hx; show x.block ≠ w5.heap.size; omega)
  have sm10 := setc_other (g := w5.heap.size) (v := .slice A10 n10 c10) (by omega) cm10
  have sp10 := setc_same (v := .slice A10 n10 c10) cp10
  have sq10 := setc_other (g := w5.heap.size) (v := .slice A10 n10 c10) (by omega) cq10
  have tq10 := setc_froz (p := ⟨w5.heap.size, 0, none⟩) (v := .slice A10 n10 c10) fq10
  have B10s : Below w.heap.size w (w10.setCell ⟨w5.heap.size, 0, none⟩ (.slice A10 n10 c10)) := B10.setCell (by show w.heap.size ≤ w5.heap.size; omega) _
  have hz10s : (w10.setCell ⟨w5.heap.size, 0, none⟩ (.slice A10 n10 c10)).heap.size = w10.heap.size := by simp
  clear cm7 cm8 cm9 cp7 fp7 cq7 fq7
  go_wp2_with fail
  refine (refMemPutNum_any A n c xs a s x _ rm10 ha hs hx).mono ?_
  rintro e w11 ⟨A11, n11, c11, rfl, ho11, hq11, hb11⟩
  have hz11 := hb11.size
  rw [hz10s] at hz11
  have B11 := below_then B10s hb11
  have cm11 := keepc hb11 (by omega) sm10
  have cp11 := keepc hb11 (by omega) sp10
  have cq11 := keepc hb11 (by omega) sq10
  have fq11 := keepf hb11 (by omega) tq10
  have far11 := far_of hq11 hr (g := w6.heap.size) (by omega) (by omega)
  have rq11 := rd_far ho11 ⟨w6.heap.size, 0, none⟩ (.slice A11 n11 c11) far11
  have far10' := far_of hq10 hr (g := w6.heap.size) (by omega) (by omega)
  have rp11 := rd_far (rp10.below hb11) ⟨w6.heap.size, 0, none⟩ (.slice A11 n11 c11) far10'
  have sm11 := setc_other (g := w6.heap.size) (v := .slice A11 n11 c11) (by omega) cm11
  have sp11 := setc_other (g := w6.heap.size) (v := .slice A11 n11 c11) (by omega) cp11
  have sq11 := setc_same (v := .slice A11 n11 c11) cq11
  have B11s : Below w.heap.size w (w11.setCell ⟨w6.heap.size, 0, none⟩ (.slice A11 n11 c11)) := B11.setCell (by show w.heap.size ≤ w6.heap.size; omega) _
  have hz11s : (w11.setCell ⟨w6.heap.size, 0, none⟩ (.slice A11 n11 c11)).heap.size = w11.heap.size := by simp
  clear cm10 cp10 fp10 cq10 fq10 sm10 sp10 sq10 tq10 cm11 cp11
  clear far10 far10' far11 hq10 hq11 rm10
  go_wp2_with fail
  refine (memNew_any s _ hs).mono ?_
  rintro e w12 ⟨A12, n12, c12, rfl, ho12, hb12⟩
  have hz12 := hb12.size
  rw [hz11s] at hz12
  have B12 := below_then B11s hb12
  have sm12 := keepc hb12 (by omega) sm11
  have sp12 := keepc hb12 (by omega) sp11
  have sq12 := keepc hb12 (by omega) sq11
  go_wp2_with fail
  refine (refMemNew_any s _ hs).mono ?_
  rintro e w13 ⟨A13, n13, c13, rfl, ho13, hb13⟩
  have hz13 := hb13.size
  simp at hz13
  have cs13 : w13.cell? ⟨w12.heap.size, 0, none⟩ = some (.slice A12 n12 c12) := boxed hb13 0
  have B13' := bstep (below_self w12) hb13
  have sm13 := keepc B13' (by omega) sm12
  have sp13 := keepc B13' (by omega) sp12
  have sq13 := keepc B13' (by omega) sq12
  have B13 := below_then B12 B13'
  have km := alc (o := .cells #[.slice A13 n13 c13] 34) (by omega) sm13
  have kp := alc (o := .cells #[.slice A13 n13 c13] 34) (by omega) sp13
  have kq := alc (o := .cells #[.slice A13 n13 c13] 34) (by omega) sq13
  have ks := alc (o := .cells #[.slice A13 n13 c13] 34) (by omega) cs13
  have kt := alloc_box w13 #[.slice A13 n13 c13] 34 0
  have rp := ((rp11.below hb12).below B13').alloc (.cells #[.slice A13 n13 c13] 34)
  have rq := ((rq11.below hb12).below B13').alloc (.cells #[.slice A13 n13 c13] 34)
  have rs := (ho12.below B13').alloc (.cells #[.slice A13 n13 c13] 34)
  have rt := ho13.alloc (.cells #[.slice A13 n13 c13] 34)
  have BV := B13.alloc B13.size (.cells #[.slice A13 n13 c13] 34)
  obtain ⟨V, hV⟩ : ∃ V, V = w13.alloc (.cells #[.slice A13 n13 c13] 34) := ⟨_, rfl⟩
  have hVz : V.heap.size = w13.heap.size + 1 := by rw [hV]; simp
  rw [← hV] at km kp kq ks kt rp rq rs rt BV
  have kt' : V.cell? ⟨w13.heap.size, 0, none⟩ = some (.slice A13 n13 c13) := kt
  clear kt sm11 sp11 sq11 sm12 sp12 sq12 sm13 sp13 sq13 cs13 rp10 rp11 rq11
  go_wp2_with fail
  rw [← hV]
  clear hV
  have D8 := Lib.hid (show decide (n ≤ 8192) = true from decide_eq_true (by omega))
  refine wp_region_plan (S := fun w' => Below V.heap.size V w') [(0, true), (1, true), (2, true), (3, true), (4, true), (5, true), (6, true), (7, true), (8, true), (9, true), (10, true), (11, false), (12, true), (13, true), (14, true), (15, true), (16, true), (17, true), (18, true), (19, true), (20, true), (21, false), (22, true), (23, true), (24, true), (25, true), (26, true), (27, true), (28, true), (29, true), (31, true), (30, false), (32, false), (33, true), (34, true), (35, true), (36, false), (37, true), (38, true)] (by kernel_rfl) (by kernel_rfl) (fun _ _ d _ _ h => by cases d <;> exact h) ((Below.refl _ V).drew) ?_
  iterate 11 (refine plan_take (v := ?_) rfl (Or.inl ⟨by rfl, ?_⟩) ?_; rotate_left; (focus (intro w' hw'; have j1 := keepc hw' (by omega) km; have j2 := keepc hw' (by omega) kp; have j3 := keepc hw' (by omega) kq; have j4 := keepc hw' (by omega) ks; have j5 := keepc hw' (by omega) kt'; go_simp <;> with_reducible rfl)); try simp only [Act.put, List.setIfInBounds_toArray, List.set_cons_zero, List.set_cons_succ])
  refine plan_run rfl (fun K hK => ?_)
  go_simp
  refine (memSame_any A10 A11 n10 c10 n11 c11 _ _ _ (rp.below (Below.refl _ V).drew) (rq.below (Below.refl _ V).drew)).mono ?_
  rintro e w14 ⟨rfl, hb14⟩
  rw [decide_eq_true rfl]
  have B14 : Below V.heap.size V w14 := undrew hb14
  refine hK.out _ _ (B14) ?_
  clear hK
  try simp only [Act.put, List.setIfInBounds_toArray, List.set_cons_zero, List.set_cons_succ]
  iterate 9 (refine plan_take (v := ?_) rfl (Or.inl ⟨by rfl, ?_⟩) ?_; rotate_left; (focus (intro w' hw'; have j1 := keepc hw' (by omega) km; have j2 := keepc hw' (by omega) kp; have j3 := keepc hw' (by omega) kq; have j4 := keepc hw' (by omega) ks; have j5 := keepc hw' (by omega) kt'; go_simp <;> with_reducible rfl)); try simp only [Act.put, List.setIfInBounds_toArray, List.set_cons_zero, List.set_cons_succ])
  refine plan_run rfl (fun K hK => ?_)
  go_simp
  refine (memSame_any A12 A13 n12 c12 n13 c13 _ _ _ (rs.below B14) (rt.below B14)).mono ?_
  rintro e w15 ⟨rfl, hb15⟩
  rw [decide_eq_true rfl]
  have B15 := below_then B14 hb15
  refine hK.out _ _ (B15) ?_
  clear hK
  try simp only [Act.put, List.setIfInBounds_toArray, List.set_cons_zero, List.set_cons_succ]
  iterate 9 (refine plan_take (v := ?_) rfl (Or.inl ⟨by rfl, ?_⟩) ?_; rotate_left; (focus (intro w' hw'; have j1 := keepc hw' (by omega) km; have j2 := keepc hw' (by omega) kp; have j3 := keepc hw' (by omega) kq; have j4 := keepc hw' (by omega) ks; have j5 := keepc hw' (by omega) kt'; go_simp <;> with_reducible rfl)); try simp only [Act.put, List.setIfInBounds_toArray, List.set_cons_zero, List.set_cons_succ])
  refine plan_run rfl (fun K hK => ?_)
  go_simp
  refine (memCheck_any A n c _ hn63).mono ?_
  rintro e w16 ⟨rfl, hb16⟩
  rw [D8.out]
  have B16 := below_then B15 hb16
  refine hK.out _ _ (B16) ?_
  clear hK
  try simp only [Act.put, List.setIfInBounds_toArray, List.set_cons_zero, List.set_cons_succ]
  refine plan_run rfl (fun K hK => ?_)
  go_simp
  refine (refMemCheck_any A n c _ hn63).mono ?_
  rintro e w17 ⟨rfl, hb17⟩
  rw [D8.out]
  have B17 := below_then B16 hb17
  refine hK.out _ _ (B17) ?_
  clear hK
  try simp only [Act.put, List.setIfInBounds_toArray, List.set_cons_zero, List.set_cons_succ]
  iterate 3 (refine plan_take (v := ?_) rfl (Or.inl ⟨by rfl, ?_⟩) ?_; rotate_left; (focus (intro w' hw'; have j1 := keepc hw' (by omega) km; have j2 := keepc hw' (by omega) kp; have j3 := keepc hw' (by omega) kq; have j4 := keepc hw' (by omega) ks; have j5 := keepc hw' (by omega) kt'; go_simp <;> with_reducible rfl)); try simp only [Act.put, List.setIfInBounds_toArray, List.set_cons_zero, List.set_cons_succ])
  refine plan_run rfl (fun K hK => ?_)
  go_simp
  refine (heads04 _).mono ?_
  rintro e w18 ⟨rfl, hb18⟩
  have B18 := below_then B17 hb18
  refine hK.out _ _ (B18) ?_
  clear hK
  try simp only [Act.put, List.setIfInBounds_toArray, List.set_cons_zero, List.set_cons_succ]
  iterate 2 (refine plan_take (v := ?_) rfl (Or.inl ⟨by rfl, ?_⟩) ?_; rotate_left; (focus (intro w' hw'; have j1 := keepc hw' (by omega) km; have j2 := keepc hw' (by omega) kp; have j3 := keepc hw' (by omega) kq; have j4 := keepc hw' (by omega) ks; have j5 := keepc hw' (by omega) kt'; go_simp <;> with_reducible rfl)); try simp only [Act.put, List.setIfInBounds_toArray, List.set_cons_zero, List.set_cons_succ])
  refine plan_done ?_
  go_wp2
  go_ret
  exact ⟨rfl, below_then BV B18⟩

theorem memTells_law (A : Option Addr) (n c : Nat) (xs : List UInt8) (a s : Int) (B : Option Addr) (m d : Nat) (ys : List UInt8) (x : Nat) (w : World) (hr : RdB w A n c xs) (ha : -9223372036854775808 ≤ a ∧ a ≤ 9223372036854775807) (hs : -9223372036854775808 ≤ s ∧ s ≤ 9223372036854775807) (hy : RdB w B m d ys) (hx : x < 18446744073709551616) :
    Calls Try.prog 8 #[.agg #[.slice A n c], .int .i64 a, .int .i64 s, .slice B m d, .int .u64 x] w (RetV w (.bool true)) := by
  have hn63 := hr.n63
  have hm63 := hy.n63
  by_cases h : n ≤ 3000
  · by_cases h2 : m ≤ 500
    · by_cases h3 : s ≤ 20000
      · exact memTells_main A n c xs a s B m d ys x w hr ha hs hy hx h h2 h3
      · exact memTells_wide A n c xs a s B m d ys x w hr ha hs hy hx h h2 h3
    · exact memTells_long A n c xs a s B m d ys x w hr ha hs hy hx h h2
  · exact memTells_great A n c xs a s B m d ys x w hr ha hs hy hx h
end Go.Proofs.Ythaampcfkmfjcaa
