/-
  The walks of package mem, third part: New; Few and Same of the document's answer; what must come at any rate.
-/
import Derived.Test.YthaampcfkmfjcaaMemB
import Derived.Test.YthaampcfkmfjcaaCrcB
namespace Go.Proofs.Ythaampcfkmfjcaa
open Go.RowKit
set_option linter.unusedVariables false
set_option linter.unusedSimpArgs false

theorem boxf {w w1 : World} {cs : Array Value} {t : TypeId} (hb : Below (w.alloc (.cells cs t)).heap.size (w.alloc (.cells cs t)) w1) (i : Nat) : w1.frozen? ⟨w.heap.size, i, none⟩ = false := by
  rw [hb.frozen (p := ⟨w.heap.size, i, none⟩) (by simp)]
  exact frozen_of_row _ _ i cs t (heap_alloc_new w _)
theorem alc {w : World} {g : Nat} {v : Value} {o : Obj} (hg : g < w.heap.size) (hc : w.cell? ⟨g, 0, none⟩ = some v) : (w.alloc o).cell? ⟨g, 0, none⟩ = some v := by
  have hb := (below_self w).alloc (Nat.le_refl _) o
  exact (hb.cell (p := ⟨g, 0, none⟩) hg).trans hc
theorem few_any (A : Option Addr) (n c : Nat) (w : World) (hn : n ≤ 9223372036854775807) : Calls Try.prog 25 #[.agg #[.slice A n c]] w (RetV w (.bool (decide (n ≤ 3000)))) := by
  by_cases h : n ≤ 3000
  · have d : decide ((n : Int) ≤ 3000) = true := decide_eq_true (by omega)
    rw [decide_eq_true h]
    go_enter Try.func25, Try.ntmps25
    go_wp2
    go_ret
    exact ⟨rfl, (below_self w).alloc (Nat.le_refl _) _⟩
  · have d : decide ((n : Int) ≤ 3000) = false := decide_eq_false (by omega)
    rw [decide_eq_false h]
    go_enter Try.func25, Try.ntmps25
    go_wp2
    go_ret
    exact ⟨rfl, (below_self w).alloc (Nat.le_refl _) _⟩

theorem memSame_any (A1 A2 : Option Addr) (n c m d : Nat) (xs ys : List UInt8) (w : World) (h1 : RdB w A1 n c xs) (h2 : RdB w A2 m d ys) :
    Calls Try.prog 33 #[.agg #[.slice A1 n c], .agg #[.slice A2 m d]] w (RetV w (.bool (decide (xs = ys)))) := by
  have k1 := ((h1.alloc (.cells #[.slice A1 n c] 34)).alloc (.cells #[.slice A2 m d] 34)).str
  have k2 := ((h2.alloc (.cells #[.slice A1 n c] 34)).alloc (.cells #[.slice A2 m d] 34)).str
  have k3 := strOf_eq xs ys
  go_enter Try.func33, Try.ntmps33
  go_wp2
  go_ret
  exact ⟨rfl, ((below_self w).alloc (Nat.le_refl _) _).alloc (by simp) _⟩

theorem memNew_ok (n : Nat) (w : World) (hn : n ≤ 8192) :
    Calls Try.prog 37 #[.int .i64 n] w fun e w' => ∃ A n2 c, e = .returned (.tuple #[.agg #[.slice A n2 c], .int .i64 0]) ∧ RdB w' A n2 c (List.replicate n 0) ∧ Below w.heap.size w w' := by
  have d1 : decide ((n : Int) < 0) = false := decide_eq_false (by omega)
  have d2 : decide ((8192 : Int) < (n : Int)) = false := decide_eq_false (by omega)
  go_enter Try.func37, Try.ntmps37
  go_wp2_with ((with_reducible refine wp_makeB rfl (.tmp 11) (.tmp 11) rfl .i64 .i64 n rfl rfl (by omega) ?_); intro w1 ho1 hb1; have c1 : w1.cell? ⟨w.heap.size, 0, none⟩ = some (.slice none 0 0) := boxed hb1 0; have f1 := boxf hb1 0)
  exact bodyPost_ret (v := .tuple #[.agg #[.slice (some ⟨w.heap.size + 1, 0, none⟩) n n], .int .i64 0]) (by simp [results, Try.results37, go_sem, c1, f1]) rfl
    ⟨_, _, _, rfl, rd_far (by simpa using ho1.rd) _ _ (fun _ a ha => by cases ha; simp), (bstep (below_self w) hb1).setCell (by simp) _⟩

set_option maxHeartbeats 1600000 in
theorem heads04 (w : World) : Calls Try.prog 26 #[] w (RetV w (.bool true)) := by
  have e1 : memPut (List.replicate 4 0) 3 [7] = [0, 0, 0, 7] := by decide
  have e2 : memAsk 4 3 1 = 0 := by decide
  have e3 : memAsk 4 4 1 = 40 := by decide
  have e4 : memGet [0, 0, 0, 7] 2 2 = [0, 7] := by decide
  have e5 : memAsk 4 2 2 = 0 := by decide
  have e6 : memPutN [0, 0, 0, 7] 0 2 258 = [2, 1, 0, 7] := by decide
  have e7 : memNumE 4 0 2 = 0 := by decide
  have e8 : memNum [2, 1, 0, 7] 0 2 = 258 := by decide
  have E1 := Lib.hid e1; have E2 := Lib.hid e2; have E3 := Lib.hid e3; have E4 := Lib.hid e4; have E5 := Lib.hid e5; have E6 := Lib.hid e6; have E7 := Lib.hid e7; have E8 := Lib.hid e8
  clear e1 e2 e3 e4 e5 e6 e7 e8
  go_enter Try.func26, Try.ntmps26
  go_wp2_with fail
  refine (memNew_ok 4 _ (by omega)).mono ?_
  rintro e w1 ⟨A1, n1, c1, rfl, ho1, hb1⟩
  obtain rfl : n1 = 4 := ho1.2.1.symm
  go_wp2_with fail
  refine (put_any A1 4 c1 _ 3 (some ⟨w1.heap.size + 1, 0, none⟩) 1 1 [7] _ ((ho1.alloc _).alloc _) (by omega) (by simpa using rd1 (w1.alloc (.cells #[.slice A1 4 c1] 34)) 7 7 rfl)).mono ?_
  rintro e w2 ⟨A2, n2, c2, rfl, ho2, hq2, hb2⟩
  rw [E1.out] at ho2
  have e2 := E2.out
  try rw [e2]
  obtain rfl : n2 = 4 := ho2.2.1.symm
  obtain ⟨cm, _, _, hz2, B2⟩ := boxed2 hb2
  have cm2 : w2.cell? ⟨w1.heap.size, 0, none⟩ = some (.slice A1 4 c1) := cm 0
  clear cm hq2 e2
  have km2 := alc (o := .cells #[.slice A2 4 c2] 34) (by omega) cm2
  go_wp2_with fail
  refine (put_any A1 4 c1 _ 4 (some ⟨w2.heap.size + 1, 0, none⟩) 1 1 [7] _ (((ho1.below B2).alloc _).alloc _) (by omega) (by simpa using rd1 (w2.alloc (.cells #[.slice A2 4 c2] 34)) 7 7 rfl)).mono ?_
  rintro e w3 ⟨A3, n3, c3, rfl, ho3, hq3, hb3⟩
  have e3 := E3.out
  try rw [e3]
  obtain ⟨ca, _, _, hz3, B3⟩ := boxed2 hb3
  have ca3 : w3.cell? ⟨w2.heap.size, 0, none⟩ = some (.slice A2 4 c2) := ca 0
  have cm3 := keepc B3 (by omega) cm2
  clear ca hq3 e3 cm2 km2
  have ka3 := alc (o := .cells #[.slice A3 n3 c3] 34) (by omega) ca3
  go_wp2_with fail
  refine (get_any A2 4 c2 _ 2 2 _ ((ho2.below B3).alloc _) (by omega) (by omega)).mono ?_
  rintro e w4 ⟨A4, n4, c4, rfl, ho4, hb4⟩
  rw [E4.out] at ho4
  rw [E5.out]
  have B4' := bstep (below_self _) hb4
  have hz4 := B4'.size
  have cm4 := keepc B4' (by omega) cm3
  have ca4 := keepc B4' (by omega) ca3
  have B4 := below_then B3 B4'
  clear cm3 ca3 ka3
  go_wp2_with fail
  refine (putNum_any A2 4 c2 _ 0 2 258 _ (ho2.below B4) (by omega) (by omega) (by omega)).mono ?_
  rintro e w5 ⟨A5, n5, c5, rfl, ho5, hq5, hb5⟩
  rw [E6.out] at ho5
  rw [E7.out]
  obtain rfl : n5 = 4 := ho5.2.1.symm
  have hz5 := hb5.size
  have cm5 := keepc hb5 (by omega) cm4
  clear cm4 ca4 hq5
  go_wp2_with fail
  refine (memNum_any A5 4 c5 _ 0 2 _ (ho5.alloc _) (by omega) (by omega)).mono ?_
  rintro e w6 ⟨rfl, hb6⟩
  rw [E8.out, E7.out]
  have cp6 : w6.cell? ⟨w5.heap.size, 0, none⟩ = some (.slice A5 4 c5) := boxed hb6 0
  have hz6 := hb6.size
  (try simp at hz6)
  have B6 := bstep (below_self _) hb6
  have cm6 := keepc B6 (by omega) cm5
  clear cm5
  go_wp2_with fail
  refine (memCheck_any A1 4 c1 _ (by omega)).mono ?_
  rintro e w7 ⟨rfl, hb7⟩
  have cp7 := keepc hb7 (by omega) cp6
  have hz7 := hb7.size
  have B7 := below_then B6 hb7
  have ho45 := ho4.rd.below (below_then hb5 B7)
  have ho55 := ho5.below B7
  clear cm6 cp6
  go_wp2_with fail
  refine (bytes_any A4 _ n4 c4 2 _ [0, 7] [0, 7] _ (ho45.alloc _) (RdB.litM w7 _ _ [0, 7] 2 (by rfl) rfl (by simp [maxLen]))).mono ?_
  rintro e w8 ⟨rfl, rfl⟩
  have kp7 := alc (o := .cells #[.int .u8 0, .int .u8 7] 5) (by omega) cp7
  have kp8 := alc (o := .cells #[.int .u8 2, .int .u8 1, .int .u8 0, .int .u8 7] 5) (w := w7.alloc (.cells #[.int .u8 0, .int .u8 7] 5)) (by simp; omega) kp7
  go_wp2_with fail
  refine (bytes_any A5 (some ⟨w7.heap.size + 1, 0, none⟩) 4 c5 4 4 [2, 1, 0, 7] [2, 1, 0, 7] _ ((ho55.alloc _).alloc _) (by simpa using RdB.litM (w7.alloc (.cells #[.int .u8 0, .int .u8 7] 5)) #[.int .u8 2, .int .u8 1, .int .u8 0, .int .u8 7] (0, 0) [2, 1, 0, 7] 4 (by rfl) rfl (by simp [maxLen]))).mono ?_
  rintro e w9 ⟨rfl, rfl⟩
  go_wp2
  go_ret
  exact ⟨rfl, below_then hb1 (below_then B2 (below_then B4 (below_then hb5 ((B7.alloc B7.size _).alloc (by have := B7.size; simp; omega) _))))⟩
end Go.Proofs.Ythaampcfkmfjcaa
