/-
  Layer 24: what must come at any rate.
-/
import Derived.Test.YtndabecdfccjlaaSegP
namespace Go.Proofs.Ytndabecdfccjlaa
set_option maxRecDepth 20000
open Go.RowKit
set_option linter.unusedVariables false
set_option linter.unusedSimpArgs false
set_option maxHeartbeats 8000000

def sgEx : List UInt8 := sgL 1 2 (sgH 7 9 5 6 17 300 ++ [97, 98])
theorem sgEx_len : sgEx.length = 22 := by decide +kernel
theorem sgEx_get : sgGet 1 2 sgEx = ⟨7, 9, 5, 6, 17, 300, [97, 98]⟩ ∧ sgGetE 1 2 sgEx = 0 := by
  have h := seg_back 1 2 7 9 5 6 17 300 [97, 98] (by omega) (by omega) (by decide +kernel)
  exact ⟨h.2.2, h.2.1⟩
theorem sgEx_other : sgGet 1 3 sgEx = sgZero ∧ sgGetE 1 3 sgEx = 6 := by
  have e : sgGetE 1 3 sgEx = 6 := by decide +kernel
  exact ⟨by unfold sgGet; rw [e, if_neg (by decide)], e⟩
theorem sgEx_short : sgGet 1 2 (List.replicate 19 0) = sgZero ∧ sgGetE 1 2 (List.replicate 19 0) = 5 := by
  have e : sgGetE 1 2 (List.replicate 19 0) = 5 := by decide +kernel
  exact ⟨by unfold sgGet; rw [e, if_neg (by decide)], e⟩

theorem heads24 (w : World) : Calls Try.prog 14 #[] w (RetV w (.bool true)) := by
  have kc := kconst
  go_enter Try.func14, Try.ntmps14
  go_wp2_with fail
  refine named ?_
  intro W1 hW1
  have bW1 : Below w.heap.size w W1 := by rw [hW1]; repeat' (first | exact Below.refl _ _ | (refine Below.alloc ?_ ?_ _; rotate_left; (simp <;> omega)) | refine Below.drew ?_)
  have zW1 := bW1.size
  have P1 : SgAt W1 (w.heap.size + 1) 7 9 5 6 17 300 (some ⟨w.heap.size, 0, none⟩) 2 2 := by rw [hW1]; have := row1 (w.alloc (.cells #[.int .u8 97, .int .u8 98] 5 (2, 3))) #[.int .i64 7, .int .i64 9, .int .u32 5, .int .u32 6, .int .i64 17, .int .i64 300, .slice (some ⟨w.heap.size, 0, none⟩) 2 2] 25; rw [show (w.alloc (.cells #[.int .u8 97, .int .u8 98] 5 (2, 3))).heap.size = w.heap.size + 1 by simp] at this; exact this
  have r1 : RdB W1 (some ⟨w.heap.size, 0, none⟩) 2 2 [97, 98] := by rw [hW1]; exact (RdB.litM w _ _ [97, 98] 2 (by rfl) rfl (by simp [maxLen])).alloc _
  have HW1 := Lib.hid hW1
  clear hW1
  have hh := segPut_any 1 2 7 9 5 6 17 300 (some ⟨w.heap.size, 0, none⟩) 2 2 [97, 98] W1 (by omega) (by omega) (by omega) (by omega) r1
  rw [show sgPutE 7 9 17 300 [97, 98] = 0 by decide +kernel, show sgPutL 1 2 7 9 5 6 17 300 [97, 98] = sgEx by decide +kernel] at hh
  refine hh.mono ?_
  clear hh
  rintro e w2 ⟨A2, n2, c2, rfl, ho2, hb2⟩
  have hn2 : n2 = 22 := by rw [← ho2.len, sgEx_len]
  subst hn2
  go_wp2_with fail
  have hh := segGet_any 1 2 A2 22 c2 sgEx w2 (by omega) (by omega) ho2.rd (by omega)
  rw [sgEx_get.1, sgEx_get.2] at hh
  refine hh.mono ?_
  clear hh
  rintro e w3 ⟨A3, n3, c3, rfl, hr3, hb3⟩
  go_wp2_with fail
  refine named ?_
  intro W3 hW3
  have bW3 : Below w3.heap.size w3 W3 := by rw [hW3]; repeat' (first | exact Below.refl _ _ | (refine Below.alloc ?_ ?_ _; rotate_left; (simp <;> omega)) | refine Below.drew ?_)
  have zW3 := bW3.size
  have P3 : SgAt W3 w3.heap.size 7 9 5 6 17 300 A3 n3 c3 := by rw [hW3]; exact row1 ..
  have HW3 := Lib.hid hW3
  clear hW3
  have hh := segGet_any 1 3 A2 22 c2 sgEx W3 (by omega) (by omega) (ho2.rd.below (below_then hb3 bW3)) (by omega)
  rw [sgEx_other.1, sgEx_other.2] at hh
  refine hh.mono ?_
  clear hh
  rintro e w4 ⟨A4, n4, c4, rfl, hr4, hb4⟩
  go_wp2_with fail
  refine named ?_
  intro W4 hW4
  have bW4 : Below w4.heap.size w4 W4 := by rw [hW4]; repeat' (first | exact Below.refl _ _ | (refine Below.alloc ?_ ?_ _; rotate_left; (simp <;> omega)) | refine Below.drew ?_)
  have zW4 := bW4.size
  have HW4 := Lib.hid hW4
  clear hW4
  have hh := segPut_any 1 2 0 0 0 0 0 0 none 0 0 [] W4 (by omega) (by omega) (by omega) (by omega) (RdB.nilB _)
  rw [show sgPutE 0 0 0 0 [] = 2 by decide +kernel, show sgPutL 1 2 0 0 0 0 0 0 [] = [] by decide +kernel] at hh
  refine hh.mono ?_
  clear hh
  rintro e w5 ⟨A5, n5, c5, rfl, ho5, hb5⟩
  go_wp2_with (refine wp_makeK rfl _ _ rfl .i64 .i64 19 rfl rfl (by omega) w5.heap.size rfl ?_; intro w6 ho6 hb6)
  have hh := segGet_any 1 2 _ 19 19 (List.replicate 19 0) w6 (by omega) (by omega) ho6.rd (by omega)
  rw [sgEx_short.1, sgEx_short.2] at hh
  refine hh.mono ?_
  clear hh
  rintro e w7 ⟨A7, n7, c7, rfl, hr7, hb7⟩
  have B27 := below_then (below_then hb3 bW3) (below_then (below_then hb4 bW4) (below_then hb5 (below_then hb6 hb7)))
  have B37 := below_then (below_then hb4 bW4) (below_then hb5 (below_then hb6 hb7))
  obtain ⟨g2, rfl, _, _⟩ := ho2.addr (by omega)
  obtain ⟨W7, hW7⟩ : ∃ W : World, W = w7.alloc (.cells #[.int .i64 sgZero.sp, .int .i64 sgZero.dp, .int .u32 (sgZero.sq : Int), .int .u32 (sgZero.ak : Int), .int .i64 sgZero.fl, .int .i64 sgZero.wn, .slice A7 n7 c7] 25) := ⟨_, rfl⟩
  have bW7 : Below w7.heap.size w7 W7 := by rw [hW7]; repeat' (first | exact Below.refl _ _ | (refine Below.alloc ?_ ?_ _; rotate_left; (simp <;> omega)) | refine Below.drew ?_)
  have zW7 := bW7.size
  have xW7 : w7.heap.size < W7.heap.size := by rw [hW7]; simp <;> omega
  have rb := ho2.rd.below (below_then B27 bW7)
  have Q1 := P1.below (below_then (below_then hb2 B27) bW7) P1.lt
  have Q3 := P3.below (below_then B37 bW7) P3.lt
  have b12 := rb.cellS 12 (by omega)
  have b13 := rb.cellS 13 (by omega)
  rw [Nat.zero_add, show sgEx.getD 12 0 = 80 by decide +kernel] at b12
  rw [Nat.zero_add, show sgEx.getD 13 0 = 17 by decide +kernel] at b13
  have b12 : W7.cell? ⟨g2, 12, none⟩ = some (.int .u8 80) := b12
  have b13 : W7.cell? ⟨g2, 13, none⟩ = some (.int .u8 17) := b13
  obtain ⟨a0, a1, a2, a3, a4, a5, a6, af⟩ := Q1.cells
  obtain ⟨d0, d1, d2, d3, d4, d5, d6, df⟩ := Q3.cells
  clear af df
  rw [hW7] at b12 b13 a0 a1 a2 a3 a4 a5 a6 d0 d1 d2 d3 d4 d5 d6
  have HW7 := Lib.hid hW7
  clear hW7
  go_wp2_with fail
  rw [← HW7.out]
  clear b12 b13 a0 a1 a2 a3 a4 a5 a6 d0 d1 d2 d3 d4 d5 d6
  refine (same24_any 7 9 5 6 17 300 _ 2 2 A3 n3 c3 [97, 98] W7 (r1.below (below_then (below_then hb2 B27) bW7)) (hr3.below (below_then (below_then bW3 B37) bW7))).mono ?_
  rintro e w8 ⟨rfl, hb8⟩
  obtain ⟨a0, a1, a2, a3, a4, a5, a6, af⟩ := (Q1.below hb8 Q1.lt).cells
  clear af
  go_wp2_with fail
  clear a0 a1 a2 a3 a4 a5 a6
  have hh := sgLen_any 7 9 5 6 17 300 (some ⟨w.heap.size, 0, none⟩) 2 2 w8 (by omega) (by omega)
  rw [show sgLen 17 2 = 3 by decide +kernel] at hh
  refine hh.mono ?_
  clear hh
  rintro e w9 ⟨rfl, hb9⟩
  go_wp2_with fail
  have hh := sgDiff_any 1 4294967295 w9 (by omega) (by omega)
  rw [show sgDiff 1 4294967295 = 2 by decide +kernel] at hh
  refine hh.mono ?_
  clear hh
  rintro e w10 ⟨rfl, hb10⟩
  go_wp2_with fail
  have hh := sgDiff_any 4294967295 1 w10 (by omega) (by omega)
  rw [show sgDiff 4294967295 1 = -2 by decide +kernel] at hh
  refine hh.mono ?_
  clear hh
  rintro e w11 ⟨rfl, hb11⟩
  have B811 := below_then hb8 (below_then hb9 (below_then hb10 hb11))
  obtain ⟨a0, a1, a2, a3, a4, a5, a6, af⟩ := (Q1.below B811 Q1.lt).cells
  clear af
  go_wp2_with fail
  have hh := sgCheck_any 7 9 5 6 17 300 (some ⟨w.heap.size, 0, none⟩) 2 2 w11 (by omega)
  rw [show sgCheck 7 9 17 300 2 = true by decide +kernel] at hh
  refine hh.mono ?_
  clear hh
  rintro e w12 ⟨rfl, hb12⟩
  go_wp2
  go_ret
  exact ⟨rfl, below_then bW1 (below_then hb2 (below_then (below_then B27 bW7) (below_then B811 hb12)))⟩
end Go.Proofs.Ytndabecdfccjlaa
