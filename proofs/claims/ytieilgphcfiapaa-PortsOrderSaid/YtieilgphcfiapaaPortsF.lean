/-
  Layer 6: what must come at any rate.
-/
import Derived.Test.YtieilgphcfiapaaPortsE
namespace Go.Proofs.Ytieilgphcfiapaa
set_option maxRecDepth 20000
open Go.RowKit
set_option linter.unusedVariables false
set_option linter.unusedSimpArgs false
set_option maxHeartbeats 8000000

theorem heads06 (w : World) : Calls Try.prog 41 #[] w (RetV w (.bool true)) := by
  have kc := kconst
  go_enter Try.func41, Try.ntmps41
  go_wp2_with fail
  have hh := ptRaise_any 3 0 0 0 none 0 0 w (by omega) (by omega) (by omega) (by omega)
  rw [show askedE 3 0 0 = 0 by decide +kernel, show chL 3 true 0 0 = 8 by decide +kernel] at hh
  refine hh.mono ?_
  clear hh
  rintro e w1 ⟨rfl, hb1⟩
  go_wp2_with fail
  refine named ?_
  intro W1 hW1
  have bW1 : Below w1.heap.size w1 W1 := by rw [hW1]; repeat' (first | exact Below.refl _ _ | (refine Below.alloc ?_ ?_ _; rotate_left; (simp <;> omega)) | refine Below.drew ?_)
  have zW1 := bW1.size
  have P1_1 : PtAt W1 w1.heap.size 8 0 0 none 0 0 := by rw [hW1]; exact row1 ..
  have BB1 := below_then hb1 bW1
  have HW1 := Lib.hid hW1
  clear hW1
  have hh := ptHear_any 3 true 8 0 0 none 0 0 W1 (by omega) (by omega) (by omega) (by omega)
  rw [show askedE 3 0 0 = 0 by decide +kernel, show chL 3 true 0 0 = 8 by decide +kernel] at hh
  refine hh.mono ?_
  clear hh
  rintro e w2 ⟨rfl, hb2⟩
  go_wp2_with fail
  refine named ?_
  intro W2 hW2
  have bW2 : Below w2.heap.size w2 W2 := by rw [hW2]; repeat' (first | exact Below.refl _ _ | (refine Below.alloc ?_ ?_ _; rotate_left; (simp <;> omega)) | refine Below.drew ?_)
  have zW2 := bW2.size
  have P2_2 : PtAt W2 w2.heap.size 8 8 0 none 0 0 := by rw [hW2]; exact row1 ..
  have P1_2 := P1_1.below (below_then hb2 bW2) P1_1.lt
  have BB2 := below_then BB1 (below_then hb2 bW2)
  have HW2 := Lib.hid hW2
  clear hW2
  have hh := ptDone_any 3 8 8 0 none 0 0 W2 (by omega) (by omega) (by omega) (by omega)
  rw [show askedE 3 0 0 = 0 by decide +kernel, show chL 3 false 0 8 = 0 by decide +kernel] at hh
  refine hh.mono ?_
  clear hh
  rintro e w3 ⟨rfl, hb3⟩
  go_wp2_with fail
  refine named ?_
  intro W3 hW3
  have bW3 : Below w3.heap.size w3 W3 := by rw [hW3]; repeat' (first | exact Below.refl _ _ | (refine Below.alloc ?_ ?_ _; rotate_left; (simp <;> omega)) | refine Below.drew ?_)
  have zW3 := bW3.size
  have P3_3 : PtAt W3 w3.heap.size 0 8 0 none 0 0 := by rw [hW3]; exact row1 ..
  have P1_3 := P1_2.below (below_then hb3 bW3) P1_2.lt
  have P2_3 := P2_2.below (below_then hb3 bW3) P2_2.lt
  have BB3 := below_then BB2 (below_then hb3 bW3)
  have HW3 := Lib.hid hW3
  clear hW3
  have hh := ptTick_any 5 0 8 0 none 0 0 W3 (by omega) (by omega) (by omega) (by omega) (by omega)
  rw [show tickE 5 0 0 = 0 by decide +kernel, show tickK 5 0 0 = 5 by decide +kernel] at hh
  refine hh.mono ?_
  clear hh
  rintro e w4 ⟨rfl, hb4⟩
  go_wp2_with fail
  refine named ?_
  intro W4 hW4
  have bW4 : Below w4.heap.size w4 W4 := by rw [hW4]; repeat' (first | exact Below.refl _ _ | (refine Below.alloc ?_ ?_ _; rotate_left; (simp <;> omega)) | refine Below.drew ?_)
  have zW4 := bW4.size
  have P4_4 : PtAt W4 w4.heap.size 0 8 5 none 0 0 := by rw [hW4]; exact row1 ..
  have P1_4 := P1_3.below (below_then hb4 bW4) P1_3.lt
  have P2_4 := P2_3.below (below_then hb4 bW4) P2_3.lt
  have P3_4 := P3_3.below (below_then hb4 bW4) P3_3.lt
  have BB4 := below_then BB3 (below_then hb4 bW4)
  have HW4 := Lib.hid hW4
  clear hW4
  have hh := ptTick_any 4 0 8 5 none 0 0 W4 (by omega) (by omega) (by omega) (by omega) (by omega)
  rw [show tickE 4 5 0 = 8 by decide +kernel, show tickK 4 5 8 = 5 by decide +kernel] at hh
  refine hh.mono ?_
  clear hh
  rintro e w5 ⟨rfl, hb5⟩
  obtain ⟨W5, hW5⟩ : ∃ W : World, W = World.alloc w5 (.cells #[.int .u32 0, .int .u32 8, .int .u64 5, .slice none 0 0] 63) := ⟨_, rfl⟩
  go_wp2_with (rw [← hW5]; have bW5 : Below w5.heap.size w5 W5 := (by rw [hW5]; repeat' (first | exact Below.refl _ _ | (refine Below.alloc ?_ ?_ _; rotate_left; (simp <;> omega)) | refine Below.drew ?_)); have zW5 := bW5.size; have xW5 : w5.heap.size < W5.heap.size := (by rw [hW5]; simp <;> omega); have P5_5 : PtAt W5 w5.heap.size 0 8 5 none 0 0 := (by rw [hW5]; exact row1 ..); have P1_5 := P1_4.below (below_then hb5 bW5) P1_4.lt; have P2_5 := P2_4.below (below_then hb5 bW5) P2_4.lt; have P3_5 := P3_4.below (below_then hb5 bW5) P3_4.lt; have P4_5 := P4_4.below (below_then hb5 bW5) P4_4.lt; have BB5 := below_then BB4 (below_then hb5 bW5); obtain ⟨a0_4, a1_4, a2_4, a3_4, af_4⟩ := P4_5.cells; clear af_4; have HW5 := Lib.hid hW5; clear hW5)
  refine named ?_
  intro V5 hV5
  have bV5 : Below W5.heap.size W5 V5 := by rw [hV5]; repeat' (first | exact Below.refl _ _ | (refine Below.alloc ?_ ?_ _; rotate_left; (simp <;> omega)) | refine Below.drew ?_)
  have zV5 := bV5.size
  have HV5 := Lib.hid hV5
  clear hV5
  have hh := ptFill_any 0 8 5 none 0 0 [] (some ⟨W5.heap.size, 0, none⟩) 3 3 [97, 98, 99] V5 (RdB.nilB _) (by rw [HV5.out]; exact RdB.litM W5 _ _ [97, 98, 99] 3 (by rfl) rfl (by simp [maxLen])) (by omega)
  rw [show fillE 5 0 3 = 0 by decide +kernel, show fillL [] [97, 98, 99] 0 = [97, 98, 99] by decide +kernel] at hh
  refine hh.mono ?_
  clear hh
  rintro e w6 ⟨A6, n6, c6, rfl, hr6, hb6⟩
  have hn6 : n6 = 3 := by rw [← hr6.2.1]; rfl
  subst hn6
  have hb6 := below_then bV5 hb6
  clear a0_4 a1_4 a2_4 a3_4
  go_wp2_with fail
  refine named ?_
  intro W6 hW6
  have bW6 : Below w6.heap.size w6 W6 := by rw [hW6]; repeat' (first | exact Below.refl _ _ | (refine Below.alloc ?_ ?_ _; rotate_left; (simp <;> omega)) | refine Below.drew ?_)
  have zW6 := bW6.size
  have P6_6 : PtAt W6 w6.heap.size 0 8 5 A6 3 c6 := by rw [hW6]; exact row1 ..
  have P1_6 := P1_5.below (below_then hb6 bW6) P1_5.lt
  have P2_6 := P2_5.below (below_then hb6 bW6) P2_5.lt
  have P3_6 := P3_5.below (below_then hb6 bW6) P3_5.lt
  have P4_6 := P4_5.below (below_then hb6 bW6) P4_5.lt
  have P5_6 := P5_5.below (below_then hb6 bW6) P5_5.lt
  have r6 := hr6.below bW6
  have BB6 := below_then BB5 (below_then hb6 bW6)
  have HW6 := Lib.hid hW6
  clear hW6
  have hh := ptDraw_any 0 8 5 A6 3 c6 [97, 98, 99] 2 W6 r6 (by omega)
  rw [show drawE 5 3 2 = 0 by decide +kernel, show drawZ [97, 98, 99] 2 0 = [99] by decide +kernel, show drawD [97, 98, 99] 2 0 = [97, 98] by decide +kernel] at hh
  refine hh.mono ?_
  clear hh
  rintro e w7 ⟨A7, n7, c7, B7, j7, d7, rfl, hr7, hs7, hb7⟩
  have hn7 : n7 = 1 := by rw [← hr7.2.1]; rfl
  subst hn7
  have hj7 : j7 = 2 := by rw [← hs7.2.1]; rfl
  subst hj7
  go_wp2_with fail
  refine named ?_
  intro W7 hW7
  have bW7 : Below w7.heap.size w7 W7 := by rw [hW7]; repeat' (first | exact Below.refl _ _ | (refine Below.alloc ?_ ?_ _; rotate_left; (simp <;> omega)) | refine Below.drew ?_)
  have zW7 := bW7.size
  have P7_7 : PtAt W7 w7.heap.size 0 8 5 A7 1 c7 := by rw [hW7]; exact row1 ..
  have P1_7 := P1_6.below (below_then hb7 bW7) P1_6.lt
  have P2_7 := P2_6.below (below_then hb7 bW7) P2_6.lt
  have P3_7 := P3_6.below (below_then hb7 bW7) P3_6.lt
  have P4_7 := P4_6.below (below_then hb7 bW7) P4_6.lt
  have P5_7 := P5_6.below (below_then hb7 bW7) P5_6.lt
  have P6_7 := P6_6.below (below_then hb7 bW7) P6_6.lt
  have r6 := r6.below (below_then hb7 bW7)
  have r7 := hr7.below bW7
  have rs7 := hs7.below bW7
  have BB7 := below_then BB6 (below_then hb7 bW7)
  have HW7 := Lib.hid hW7
  clear hW7
  have hh := ptDraw_any 0 8 5 A7 1 c7 [99] 2 W7 r7 (by omega)
  rw [show drawE 5 1 2 = 7 by decide +kernel, show drawZ [99] 2 7 = [99] by decide +kernel, show drawD [99] 2 7 = [] by decide +kernel] at hh
  refine hh.mono ?_
  clear hh
  rintro e w8 ⟨A8, n8, c8, B8, j8, d8, rfl, hr8, hs8, hb8⟩
  have hn8 : n8 = 1 := by rw [← hr8.2.1]; rfl
  subst hn8
  have hj8 : j8 = 0 := by rw [← hs8.2.1]; rfl
  subst hj8
  obtain ⟨W8, hW8⟩ : ∃ W : World, W = World.alloc w8 (.cells #[.int .u32 0, .int .u32 8, .int .u64 5, .slice A8 1 c8] 63) := ⟨_, rfl⟩
  go_wp2_with (rw [← hW8]; have bW8 : Below w8.heap.size w8 W8 := (by rw [hW8]; repeat' (first | exact Below.refl _ _ | (refine Below.alloc ?_ ?_ _; rotate_left; (simp <;> omega)) | refine Below.drew ?_)); have zW8 := bW8.size; have xW8 : w8.heap.size < W8.heap.size := (by rw [hW8]; simp <;> omega); have P8_8 : PtAt W8 w8.heap.size 0 8 5 A8 1 c8 := (by rw [hW8]; exact row1 ..); have P1_8 := P1_7.below (below_then hb8 bW8) P1_7.lt; have P2_8 := P2_7.below (below_then hb8 bW8) P2_7.lt; have P3_8 := P3_7.below (below_then hb8 bW8) P3_7.lt; have P4_8 := P4_7.below (below_then hb8 bW8) P4_7.lt; have P5_8 := P5_7.below (below_then hb8 bW8) P5_7.lt; have P6_8 := P6_7.below (below_then hb8 bW8) P6_7.lt; have P7_8 := P7_7.below (below_then hb8 bW8) P7_7.lt; have r6 := r6.below (below_then hb8 bW8); have r7 := r7.below (below_then hb8 bW8); have rs7 := rs7.below (below_then hb8 bW8); have r8 := hr8.below bW8; have rs8 := hs8.below bW8; have BB8 := below_then BB7 (below_then hb8 bW8); obtain ⟨a0_6, a1_6, a2_6, a3_6, af_6⟩ := P6_8.cells; clear af_6; have HW8 := Lib.hid hW8; clear hW8)
  have hh := ptRaise_any 32 0 8 5 A6 3 c6 W8 (by omega) (by omega) (by omega) (by omega)
  rw [show askedE 32 5 3 = 2 by decide +kernel, show chL 32 true 2 0 = 0 by decide +kernel] at hh
  refine hh.mono ?_
  clear hh
  rintro e w9 ⟨rfl, hb9⟩
  clear a0_6 a1_6 a2_6 a3_6
  obtain ⟨W9, hW9⟩ : ∃ W : World, W = World.alloc w9 (.cells #[.int .u32 0, .int .u32 8, .int .u64 5, .slice A6 3 c6] 63) := ⟨_, rfl⟩
  have bW9 : Below w9.heap.size w9 W9 := by rw [hW9]; repeat' (first | exact Below.refl _ _ | (refine Below.alloc ?_ ?_ _; rotate_left; (simp <;> omega)) | refine Below.drew ?_)
  have zW9 := bW9.size
  have xW9 : w9.heap.size < W9.heap.size := by rw [hW9]; simp <;> omega
  have P9_9 : PtAt W9 w9.heap.size 0 8 5 A6 3 c6 := by rw [hW9]; exact row1 ..
  have P1_9 := P1_8.below (below_then hb9 bW9) P1_8.lt
  have P2_9 := P2_8.below (below_then hb9 bW9) P2_8.lt
  have P3_9 := P3_8.below (below_then hb9 bW9) P3_8.lt
  have P4_9 := P4_8.below (below_then hb9 bW9) P4_8.lt
  have P5_9 := P5_8.below (below_then hb9 bW9) P5_8.lt
  have P6_9 := P6_8.below (below_then hb9 bW9) P6_8.lt
  have P7_9 := P7_8.below (below_then hb9 bW9) P7_8.lt
  have P8_9 := P8_8.below (below_then hb9 bW9) P8_8.lt
  have r6 := r6.below (below_then hb9 bW9)
  have r7 := r7.below (below_then hb9 bW9)
  have rs7 := rs7.below (below_then hb9 bW9)
  have r8 := r8.below (below_then hb9 bW9)
  have rs8 := rs8.below (below_then hb9 bW9)
  have BB9 := below_then BB8 (below_then hb9 bW9)
  obtain ⟨a0_1, a1_1, a2_1, a3_1, af_1⟩ := P1_9.cells
  clear af_1
  rw [hW9] at a0_1 a1_1 a2_1 a3_1
  have HW9 := Lib.hid hW9
  clear hW9
  go_wp2_with fail
  rw [← HW9.out]
  clear a0_1 a1_1 a2_1 a3_1
  have hh := ptPend_any 8 0 0 none 0 0 W9 (by omega) (by omega) (by omega) (by omega)
  rw [show pendN 8 0 0 0 = -1 by decide +kernel] at hh
  refine hh.mono ?_
  clear hh
  rintro e w10 ⟨rfl, hb10⟩
  obtain ⟨a0, a1, a2, a3, af⟩ := (P2_9.below hb10 P2_9.lt).cells
  clear af
  go_wp2_with fail
  clear a0 a1 a2 a3
  have hh := ptPend_any 8 8 0 none 0 0 w10 (by omega) (by omega) (by omega) (by omega)
  rw [show pendN 8 8 0 0 = 3 by decide +kernel] at hh
  refine hh.mono ?_
  clear hh
  rintro e w11 ⟨rfl, hb11⟩
  obtain ⟨a0, a1, a2, a3, af⟩ := (P3_9.below (below_then hb10 hb11) P3_9.lt).cells
  clear af
  go_wp2_with fail
  clear a0 a1 a2 a3
  have B11 := below_then hb10 hb11
  have hh := ptPend_any 0 8 0 none 0 0 w11 (by omega) (by omega) (by omega) (by omega)
  rw [show pendN 0 8 0 0 = -1 by decide +kernel] at hh
  refine hh.mono ?_
  clear hh
  rintro e w12 ⟨rfl, hb12⟩
  have B12 := below_then B11 hb12
  obtain ⟨a0, a1, a2, a3, af⟩ := (P7_9.below B12 P7_9.lt).cells
  clear af
  have k1 := (rs7.below B12).str
  have k2 : (strOf [97, 98]).toList = [97, 98] := by decide +kernel
  go_wp2_with fail
  clear a0 a1 a2 a3
  have hh := ptCheck_any 0 8 5 A7 1 c7 w12 (by omega) (by omega)
  rw [show ptCheck 5 1 = true by decide +kernel] at hh
  refine hh.mono ?_
  clear hh
  rintro e w13 ⟨rfl, hb13⟩
  obtain ⟨a0, a1, a2, a3, af⟩ := (P7_9.below (below_then B12 hb13) P7_9.lt).cells
  clear af
  go_wp2
  go_ret
  exact ⟨rfl, below_then BB9 (below_then B12 hb13)⟩
end Go.Proofs.Ytieilgphcfiapaa
