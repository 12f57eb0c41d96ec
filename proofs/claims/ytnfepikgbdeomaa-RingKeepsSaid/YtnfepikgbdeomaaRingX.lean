/-
  Layer 7: rings: the law's heads.
-/
import Derived.Test.YtnfepikgbdeomaaRingW
import Derived.Test.YtnfepikgbdeomaaRingU
import Derived.Test.YtnfepikgbdeomaaRingS
namespace Go.Proofs.Ytnfepikgbdeomaa
set_option maxRecDepth 20000
open Go.RowKit
set_option linter.unusedVariables false
set_option linter.unusedSimpArgs false
set_option maxHeartbeats 8000000

def hd07 : Dsc := ⟨70000, 5, 3, 2⟩
def m07a : List UInt8 := rgSetDesc (List.replicate 120 0) 8 4 1 hd07
def m07b : List UInt8 := rgOffer m07a 8 4 65535 3
def m07c : List UInt8 := rgReturn m07b 8 4 4 3 9
theorem m07a_len : m07a.length = 120 := by unfold m07a; rw [rgSetDesc_len]; rfl
theorem m07b_len : m07b.length = 120 := by unfold m07b; rw [rgOffer_len, m07a_len]
theorem m07c_len : m07c.length = 120 := by unfold m07c; rw [rgReturn_len, m07b_len]
theorem ck07 : rgCheck 120 8 4 = true := by decide
theorem ck07n : rgCheck 120 9 4 = false := by decide
theorem m07_desc : rgDesc m07a 8 4 1 = hd07 := rgSetDesc_at (xs := List.replicate 120 0) (by rw [List.length_replicate]; exact ck07) 1 (by omega) hd07 (by unfold Dsc.ok hd07; decide)
theorem m07_avail : rgAvail m07b 8 4 = 0 := rgOffer_idx (by rw [m07a_len]; exact ck07) 65535 3
theorem m07_at : rgAt m07b 8 4 3 = 3 := rgOffer_at (by rw [m07a_len]; exact ck07) 65535 3 3 (by omega) (by decide)
theorem m07_used : rgUsed m07c 8 4 = 5 := rgReturn_idx (by rw [m07b_len]; exact ck07) 4 3 9
theorem m07_usedAt : rgUId m07c 8 4 0 = 3 ∧ rgULen m07c 8 4 0 = 9 := rgReturn_used (by rw [m07b_len]; exact ck07) 4 0 3 9 (by omega) (by omega) (by decide)
theorem m07_no : rgUsed (List.replicate 120 0) 9 4 = 0 := by
  unfold rgUsed rgIdx
  rw [List.length_replicate, ck07n]; rfl
theorem row_up {w w' : World} {g : Nat} {o : Obj} (h : w.heap[g]? = some o) (hb : Below w.heap.size w w') : w'.heap[g]? = some o := (hb.block g (Array.getElem?_eq_some_iff.1 h).1).trans h
theorem BoxAt.up {w w' : World} {g : Nat} {T : TypeId} {v : Value} (h : BoxAt w g T v) (hb : Below w.heap.size w w') : BoxAt w' g T v := row_up h hb
theorem BoxAt.al {w : World} {g : Nat} {T : TypeId} {v : Value} (h : BoxAt w g T v) (o : Obj) : BoxAt (w.alloc o) g T v := row_old o h
theorem heads07 (w : World) : Calls Try.prog 13 #[] w (RetV w (.bool true)) := by
  have hE0 : rgDescE 120 8 4 1 = 0 := by decide
  have hE1 : rgE 120 8 4 = 0 := by decide
  have hE2 : rgE 120 9 4 = 70 := by decide
  have hS4 : rgSize 4 = 112 := by decide
  have hS3 : rgSize 3 = 0 := by decide
  have H1 := Lib.hid (fun A c W (h : RdB W A 120 c (List.replicate 120 0)) => ringSetDesc_any A 120 c _ 8 4 1 hd07 W h (by omega) (by omega) (by omega) (by unfold Dsc.ok hd07; decide))
  have H2 := Lib.hid (fun A c W (h : RdB W A 120 c m07a) => ringDesc_any A 120 c _ 8 4 1 W h (by omega) (by omega) (by omega))
  have H3 := Lib.hid (fun A c W (h : RdB W A 120 c m07a) => ringOffer_any A 120 c _ 8 4 65535 3 W h (by omega) (by omega) (by omega) (by omega))
  have H4 := Lib.hid (fun A c W (h : RdB W A 120 c m07b) => ringAvailN_any A 120 c _ 8 4 W h (by omega) (by omega))
  have H5 := Lib.hid (fun A c W (h : RdB W A 120 c m07b) => ringAvailAt_any A 120 c _ 8 4 3 W h (by omega) (by omega) (by omega))
  have H6 := Lib.hid (fun A c W (h : RdB W A 120 c m07b) => ringReturn_any A 120 c _ 8 4 4 3 9 W h (by omega) (by omega) (by omega) (by omega) (by omega))
  have H7 := Lib.hid (fun A c W (h : RdB W A 120 c m07c) => ringUsedN_any A 120 c _ 8 4 W h (by omega) (by omega))
  have H8 := Lib.hid (fun A c W (h : RdB W A 120 c m07c) => ringUsedAt_any A 120 c _ 8 4 0 W h (by omega) (by omega) (by omega))
  have H9 := Lib.hid (fun A c W (h : RdB W A 120 c (List.replicate 120 0)) => ringUsedN_any A 120 c _ 9 4 W h (by omega) (by omega))
  rw [hE0, show rgSetDesc (List.replicate 120 0) 8 4 1 hd07 = m07a from rfl, show hd07.v = #[.int .u64 70000, .int .u32 5, .int .u16 3, .int .u16 2] from rfl] at H1
  rw [hE0, m07_desc, show hd07.v = #[.int .u64 70000, .int .u32 5, .int .u16 3, .int .u16 2] from rfl] at H2
  rw [hE1, show rgOffer m07a 8 4 65535 ((3 : Int) % 18446744073709551616).toNat = m07b from rfl] at H3
  rw [hE1, m07_avail] at H4
  rw [hE1, m07_at] at H5
  rw [hE1, show rgReturn m07b 8 4 4 3 9 = m07c from rfl] at H6
  rw [hE1, m07_used] at H7
  rw [hE1, m07_usedAt.1, m07_usedAt.2] at H8
  rw [hE2, m07_no] at H9
  go_enter Try.func13, Try.ntmps13
  go_wp2_with ((with_reducible refine wp_makeB rfl _ _ rfl .i64 .i64 120 rfl rfl (by omega) ?_); intro w1 ho1 hb1)
  refine named ?_
  intro W1 hW1
  have bW1 : Below w1.heap.size w1 W1 := by rw [hW1]; repeat' (first | exact Below.refl _ _ | (refine Below.alloc ?_ ?_ _; rotate_left; (simp <;> omega)) | refine Below.drew ?_)
  have zW1 := bW1.size
  have q1 : BoxAt W1 w1.heap.size 28 (.slice (some ⟨w.heap.size, 0, none⟩) 120 120) := by rw [hW1]; exact row_old _ (row_at _ rfl)
  have qd : W1.heap[w1.heap.size + 1]? = some (.cells #[.int .u64 70000, .int .u32 5, .int .u16 3, .int .u16 2] 44 (0, 0)) := by rw [hW1]; exact row_at _ (by simp)
  have HW1 := Lib.hid hW1
  clear hW1
  have r1 := ho1.rd.below bW1
  refine (H1.out _ _ W1 r1).mono ?_
  rintro e w2 ⟨A2, c2, rfl, r2, far2, hb2⟩
  go_wp2_with fail
  refine named ?_
  intro W2 hW2
  have bW2 : Below w2.heap.size w2 W2 := by rw [hW2]; repeat' (first | exact Below.refl _ _ | (refine Below.alloc ?_ ?_ _; rotate_left; (simp <;> omega)) | refine Below.drew ?_)
  have zW2 := bW2.size
  have q2 : BoxAt W2 w2.heap.size 28 (.slice A2 120 c2) := by rw [hW2]; exact row_at _ rfl
  have HW2 := Lib.hid hW2
  clear hW2
  have q1 := (q1.up hb2).up bW2
  have qd := row_up (row_up qd hb2) bW2
  have r1 := (r1.below hb2).below bW2
  have r2 := r2.below bW2
  refine (H2.out _ _ W2 r2).mono ?_
  rintro e w3 ⟨rfl, hb3⟩
  have q1 := q1.up hb3
  have q2 := q2.up hb3
  have qd := row_up qd hb3
  have r1 := r1.below hb3
  have r2 := r2.below hb3
  have k2 := (q2.al (.cells #[.int .u64 70000, .int .u32 5, .int .u16 3, .int .u16 2] 44)).c
  go_wp2_with fail
  refine named ?_
  intro W3 hW3
  have bW3 : Below w3.heap.size w3 W3 := by rw [hW3]; repeat' (first | exact Below.refl _ _ | (refine Below.alloc ?_ ?_ _; rotate_left; (simp <;> omega)) | refine Below.drew ?_)
  have zW3 := bW3.size
  have qb : W3.heap[w3.heap.size]? = some (.cells #[.int .u64 70000, .int .u32 5, .int .u16 3, .int .u16 2] 44 (0, 0)) := by rw [hW3]; exact row_at _ rfl
  have HW3 := Lib.hid hW3
  clear hW3
  clear k2
  have q1 := q1.up bW3
  have qd := row_up qd bW3
  have r1 := r1.below bW3
  have r2 := r2.below bW3
  refine (H3.out _ _ W3 r2).mono ?_
  rintro e w4 ⟨A4, c4, rfl, r4, far4, hb4⟩
  have q1 := q1.up hb4
  have qd := row_up qd hb4
  have qb := row_up qb hb4
  have r1 := r1.below hb4
  go_wp2_with fail
  refine named ?_
  intro W4 hW4
  have bW4 : Below w4.heap.size w4 W4 := by rw [hW4]; repeat' (first | exact Below.refl _ _ | (refine Below.alloc ?_ ?_ _; rotate_left; (simp <;> omega)) | refine Below.drew ?_)
  have zW4 := bW4.size
  have q4 : BoxAt W4 w4.heap.size 28 (.slice A4 120 c4) := by rw [hW4]; exact row_at _ rfl
  have HW4 := Lib.hid hW4
  clear hW4
  have q1 := q1.up bW4
  have qd := row_up qd bW4
  have qb := row_up qb bW4
  have r1 := r1.below bW4
  have r4 := r4.below bW4
  refine (H4.out _ _ W4 r4).mono ?_
  rintro e w5 ⟨rfl, hb5⟩
  have q4 := q4.up hb5
  have r4 := r4.below hb5
  have k4 := q4.c
  go_wp2_with fail
  refine (H5.out _ _ w5 r4).mono ?_
  rintro e w6 ⟨rfl, hb6⟩
  have q4 := q4.up hb6
  have r4 := r4.below hb6
  clear k4
  have k4 := q4.c
  go_wp2_with fail
  refine (H6.out _ _ w6 r4).mono ?_
  rintro e w7 ⟨A7, c7, rfl, r7, far7, hb7⟩
  clear k4
  have B47 := below_then hb5 (below_then hb6 hb7)
  have q1 := q1.up B47
  have qd := row_up qd B47
  have qb := row_up qb B47
  have r1 := r1.below B47
  go_wp2_with fail
  refine named ?_
  intro W7 hW7
  have bW7 : Below w7.heap.size w7 W7 := by rw [hW7]; repeat' (first | exact Below.refl _ _ | (refine Below.alloc ?_ ?_ _; rotate_left; (simp <;> omega)) | refine Below.drew ?_)
  have zW7 := bW7.size
  have q7 : BoxAt W7 w7.heap.size 28 (.slice A7 120 c7) := by rw [hW7]; exact row_at _ rfl
  have HW7 := Lib.hid hW7
  clear hW7
  have q1 := q1.up bW7
  have qd := row_up qd bW7
  have qb := row_up qb bW7
  have r1 := r1.below bW7
  have r7 := r7.below bW7
  refine (H7.out _ _ W7 r7).mono ?_
  rintro e w8 ⟨rfl, hb8⟩
  have q7 := q7.up hb8
  have r7 := r7.below hb8
  have k7 := q7.c
  go_wp2_with fail
  refine (H8.out _ _ w8 r7).mono ?_
  rintro e w9 ⟨rfl, hb9⟩
  clear k7
  have B79 := below_then hb8 hb9
  have q1 := q1.up B79
  have qd := row_up qd B79
  have qb := row_up qb B79
  have r1 := r1.below B79
  have k1 := (q1.al (.cells #[.int .u32 3, .int .u32 9] 25)).c
  go_wp2_with fail
  refine named ?_
  intro W9 hW9
  have bW9 : Below w9.heap.size w9 W9 := by rw [hW9]; repeat' (first | exact Below.refl _ _ | (refine Below.alloc ?_ ?_ _; rotate_left; (simp <;> omega)) | refine Below.drew ?_)
  have zW9 := bW9.size
  have qu : W9.heap[w9.heap.size]? = some (.cells #[.int .u32 3, .int .u32 9] 25 (0, 0)) := by rw [hW9]; exact row_at _ rfl
  have HW9 := Lib.hid hW9
  clear hW9
  clear k1
  have q1 := q1.up bW9
  have qd := row_up qd bW9
  have qb := row_up qb bW9
  have r1 := r1.below bW9
  refine (H9.out _ _ W9 r1).mono ?_
  rintro e wa ⟨rfl, hba⟩
  have q1 := q1.up hba
  have qd := row_up qd hba
  have qb := row_up qb hba
  have qu := row_up qu hba
  have k1 := q1.c
  have HS4 := Lib.hid hS4
  have HS3 := Lib.hid hS3
  clear hS4 hS3 hE0 hE1 hE2
  go_wp2_with fail
  refine (ringSize_any 4 _ (by omega)).mono ?_
  rintro e wb ⟨rfl, rfl⟩
  rw [HS4.out]
  go_wp2_with fail
  refine (ringSize_any 3 _ (by omega)).mono ?_
  rintro e wb ⟨rfl, rfl⟩
  rw [HS3.out]
  go_wp2_with fail
  refine (ringCheck_any _ 120 _ 8 4 _ (by omega) (by omega) (by omega)).mono ?_
  rintro e wc ⟨rfl, hbc⟩
  rw [ck07]
  have qd := row_up qd hbc
  have qb := row_up qb hbc
  have qu := row_up qu hbc
  have d0 := (cell_of_row _ _ 0 _ _ _ qd).trans (show (#[.int .u64 70000, .int .u32 5, .int .u16 3, .int .u16 2] : Array Value)[0]? = some (.int .u64 70000) from rfl)
  have d1 := (cell_of_row _ _ 1 _ _ _ qd).trans (show (#[.int .u64 70000, .int .u32 5, .int .u16 3, .int .u16 2] : Array Value)[1]? = some (.int .u32 5) from rfl)
  have d2 := (cell_of_row _ _ 2 _ _ _ qd).trans (show (#[.int .u64 70000, .int .u32 5, .int .u16 3, .int .u16 2] : Array Value)[2]? = some (.int .u16 3) from rfl)
  have d3 := (cell_of_row _ _ 3 _ _ _ qd).trans (show (#[.int .u64 70000, .int .u32 5, .int .u16 3, .int .u16 2] : Array Value)[3]? = some (.int .u16 2) from rfl)
  have f0 := (cell_of_row _ _ 0 _ _ _ qb).trans (show (#[.int .u64 70000, .int .u32 5, .int .u16 3, .int .u16 2] : Array Value)[0]? = some (.int .u64 70000) from rfl)
  have f1 := (cell_of_row _ _ 1 _ _ _ qb).trans (show (#[.int .u64 70000, .int .u32 5, .int .u16 3, .int .u16 2] : Array Value)[1]? = some (.int .u32 5) from rfl)
  have f2 := (cell_of_row _ _ 2 _ _ _ qb).trans (show (#[.int .u64 70000, .int .u32 5, .int .u16 3, .int .u16 2] : Array Value)[2]? = some (.int .u16 3) from rfl)
  have f3 := (cell_of_row _ _ 3 _ _ _ qb).trans (show (#[.int .u64 70000, .int .u32 5, .int .u16 3, .int .u16 2] : Array Value)[3]? = some (.int .u16 2) from rfl)
  have g0 := (cell_of_row _ _ 0 _ _ _ qu).trans (show (#[.int .u32 3, .int .u32 9] : Array Value)[0]? = some (.int .u32 3) from rfl)
  have g1 := (cell_of_row _ _ 1 _ _ _ qu).trans (show (#[.int .u32 3, .int .u32 9] : Array Value)[1]? = some (.int .u32 9) from rfl)
  clear k1 q1 qd qb qu
  go_wp2_with fail
  go_ret
  exact ⟨rfl, below_then (below_then (below_then (below_then (below_then (below_then (below_then (below_then (below_then (below_then (below_then (below_then (below_then (hb1) bW1) hb2) bW2) hb3) bW3) hb4) bW4) B47) bW7) B79) bW9) hba) hbc⟩
end Go.Proofs.Ytnfepikgbdeomaa
