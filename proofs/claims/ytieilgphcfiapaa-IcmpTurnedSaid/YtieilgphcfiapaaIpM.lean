/-
  Layer 20: what must come at any rate.
-/
import Derived.Test.YtieilgphcfiapaaIpL
-- facts: PkAt
namespace Go.Proofs.Ytieilgphcfiapaa
set_option maxRecDepth 20000
open Go.RowKit
set_option linter.unusedVariables false
set_option linter.unusedSimpArgs false

def ipEx : List UInt8 := ipPutL 5 true 8 17 1 2 [97, 98, 99]
theorem ipEx_len : ipEx.length = 23 := by decide +kernel
theorem ipEx_E : ipPutE 8 17 [97, 98, 99] = 0 := by decide +kernel

theorem ipEx_get : ipGet (ipEx ++ [9]) = ⟨5, true, 8, 17, 1, 2, [97, 98, 99]⟩ ∧ ipGetE (ipEx ++ [9]) = 0 := by
  have h := pk_back 5 true 8 17 1 2 [97, 98, 99] [9] (by omega) (by omega) (by omega) (by decide +kernel)
  exact ⟨h.2.1, h.1⟩
theorem ipEx_turned : ipGetE (ipEx.set 15 5) = 6 ∧ ipGet (ipEx.set 15 5) = pkZero := by
  have e : ipGetE (ipEx.set 15 5) = 6 := by decide +kernel
  exact ⟨e, by unfold ipGet; rw [e, if_neg (by decide)]⟩
theorem ipEx_cut : ipGetE (ipEx.take 22) = 5 ∧ ipGet (ipEx.take 22) = pkZero := by
  have e : ipGetE (ipEx.take 22) = 5 := by decide +kernel
  exact ⟨e, by unfold ipGet; rw [e, if_neg (by decide)]⟩
theorem ipEx_no : ipPutL 0 false 4 0 0 0 [] = [] ∧ ipPutE 4 0 [] = 2 := by decide +kernel
set_option maxHeartbeats 1600000 in
theorem heads20 (w : World) : Calls Try.prog 27 #[] w (RetV w (.bool true)) := by
  have kc := kconst
  go_enter Try.func27, Try.ntmps27
  go_wp2_with fail
  refine named ?_
  intro W1 hW1
  have bW1 : Below w.heap.size w W1 := by rw [hW1]; repeat' (first | exact Below.refl _ _ | (refine Below.alloc ?_ ?_ _; rotate_left; (simp <;> omega)) | refine Below.drew ?_)
  have zW1 := bW1.size
  have p1 : PkAt W1 (w.heap.size + 1) 5 true 8 17 1 2 (some ⟨w.heap.size, 0, none⟩) 3 3 := by rw [hW1]; simp [PkAt, go_sem]
  have r1 : RdB W1 (some ⟨w.heap.size, 0, none⟩) 3 3 [97, 98, 99] := by rw [hW1]; exact (RdB.litM w _ _ [97, 98, 99] 3 (by rfl) rfl (by simp [maxLen])).alloc _
  have HW1 := Lib.hid hW1
  clear hW1
  have x1 : w.heap.size + 1 < W1.heap.size := by rw [HW1.out]; simp
  refine (ipPut_any 5 true 8 17 1 2 _ 3 3 [97, 98, 99] W1 (by omega) (by omega) (by omega) (by omega) (by omega) r1).mono ?_
  rintro e w2 ⟨A2, n2, c2, rfl, ho2, hb2⟩
  rw [ipEx_E]
  have ho2 : OwnB w2 W1.heap.size A2 n2 c2 ipEx := ho2
  have hn2 : n2 = 23 := by rw [← ho2.len, ipEx_len]
  subst hn2
  have B2 := below_then bW1 hb2
  have z2 := hb2.size
  have p2 := p1.below hb2 x1
  go_wp2_with (first
    | (at_builtin; refine wp_appB rfl _ _ rfl (hb3.alloc hb3.size _) (by omega) (by have := hb3.size; simp; omega) _ _ _ _ rfl (ho3.alloc _) _ 1 1 [9] rfl (rdK rfl _ _ _ (by rfl) rfl (by simp [maxLen])) (by omega) 24 (ipEx ++ [9]) rfl rfl ?_; intro A4 c4 w4 ho4 hb4 hg4)
    | (at_builtin; refine wp_appB rfl _ _ rfl ((below_self w2).alloc (Nat.le_refl _) _) (Nat.le_refl _) (by simp) _ _ _ _ rfl (own0 w2) _ _ _ _ rfl (ho2.rd.alloc _) (by omega) 23 ipEx (by omega) (by simp) ?_; intro A3 c3 w3 ho3 hb3 hg3))
  have hg4 := ipGet_any A4 24 c4 _ w4 ho4.rd
  rw [ipEx_get.1, ipEx_get.2] at hg4
  refine hg4.mono ?_
  rintro e w5 ⟨A5, n5, c5, rfl, hr5, hb5⟩
  clear hg4
  have B24 := below_then hb4 hb5
  have rb5 := ho2.rd.below B24
  have hc2 := ho2.rd.2.2.1
  have k22 : (22 : Int) ≤ (c2 : Int) := by omega
  go_wp2_with (at_builtin; refine wp_appB rfl _ _ rfl ((below_self _).alloc (Nat.le_refl _) _) (Nat.le_refl _) (by simp) _ _ _ _ rfl (own0' (k := w5.heap.size + 1) (by simp)) _ _ _ _ rfl ((rb5.alloc _).alloc _) (by omega) 23 ipEx (by omega) (by simp) ?_; intro A6 c6 w6 ho6 hb6 hg6; obtain ⟨g6, rfl, hg61, hg62⟩ := ho6.addr (by omega); have c15 : w6.cell? ⟨g6, 15, none⟩ = some (.int .u8 1) := (by have := ho6.rd.cellS 15 (by omega); rw [Nat.zero_add, show ipEx.getD 15 0 = 1 by decide +kernel] at this; exact this); have f15 := ho6.free 15; have x15 : bits .xor .u8 1 4 = 5 := by decide +kernel)
  have ho7 : OwnB (w6.setCell ⟨g6, 15, none⟩ (.int .u8 5)) _ (some ⟨g6, 0, none⟩) 23 c6 (ipEx.set 15 5) := ho6.set_ 15 5
  have hb7 := hb6.setCell (p := ⟨g6, 15, none⟩) hg61 (.int .u8 5)
  have B57 := bstep (below_self w5) hb7
  have hg7 := ipGet_any _ 23 c6 _ _ ho7.rd
  rw [ipEx_turned.1, ipEx_turned.2] at hg7
  refine hg7.mono ?_
  rintro e w8 ⟨A8, n8, c8, rfl, hr8, hb8⟩
  clear hg7
  have hb7z := hb7.size
  have q5 : PkAt (w6.setCell ⟨g6, 15, none⟩ (.int .u8 5)) w5.heap.size 5 true 8 17 1 2 A5 n5 c5 := PkAt.below (by simp [PkAt, go_sem]) hb7 (by simp)
  go_wp2_with fail
  refine named ?_
  intro W9 hW9
  have bW9 : Below w8.heap.size w8 W9 := by rw [hW9]; repeat' (first | exact Below.refl _ _ | (refine Below.alloc ?_ ?_ _; rotate_left; (simp <;> omega)) | refine Below.drew ?_)
  have zW9 := bW9.size
  have HW9 := Lib.hid hW9
  clear hW9
  have B59 := below_then B57 (below_then hb8 bW9)
  have hg9 := ipGet_any A2 22 c2 (ipEx.take 22) W9 ((rb5.below B59).take 22 (by omega))
  rw [ipEx_cut.1, ipEx_cut.2] at hg9
  refine hg9.mono ?_
  rintro e w10 ⟨A10, n10, c10, rfl, hr10, hb10⟩
  clear hg9
  go_wp2_with fail
  refine named ?_
  intro W11 hW11
  have bW11 : Below w10.heap.size w10 W11 := by rw [hW11]; repeat' (first | exact Below.refl _ _ | (refine Below.alloc ?_ ?_ _; rotate_left; (simp <;> omega)) | refine Below.drew ?_)
  have zW11 := bW11.size
  have HW11 := Lib.hid hW11
  clear hW11
  refine (ipPut_any 0 false 4 0 0 0 none 0 0 [] W11 (by omega) (by omega) (by omega) (by omega) (by omega) (RdB.nilB _)).mono ?_
  rintro e w12 ⟨A12, n12, c12, rfl, ho12, hb12⟩
  rw [ipEx_no.2]
  have B912 := below_then hb10 (below_then bW11 hb12)
  have B512 := below_then B59 B912
  have B212 := below_then B24 B512
  have rb := ho2.rd.below B212
  obtain ⟨gb, rfl, _, _⟩ := ho2.addr (by omega)
  have c0 : w12.cell? ⟨gb, 0, none⟩ = some (.int .u8 69) := by have := rb.cellS 0 (by omega); rw [Nat.zero_add, show ipEx.getD 0 0 = 69 by decide +kernel] at this; exact this
  have c3 : w12.cell? ⟨gb, 3, none⟩ = some (.int .u8 23) := by have := rb.cellS 3 (by omega); rw [Nat.zero_add, show ipEx.getD 3 0 = 23 by decide +kernel] at this; exact this
  have c6' : w12.cell? ⟨gb, 6, none⟩ = some (.int .u8 32) := by have := rb.cellS 6 (by omega); rw [Nat.zero_add, show ipEx.getD 6 0 = 32 by decide +kernel] at this; exact this
  have c7 : w12.cell? ⟨gb, 7, none⟩ = some (.int .u8 1) := by have := rb.cellS 7 (by omega); rw [Nat.zero_add, show ipEx.getD 7 0 = 1 by decide +kernel] at this; exact this
  have x2 : w.heap.size + 1 < w2.heap.size := Nat.lt_of_lt_of_le x1 z2
  have B812 : Below (w6.setCell ⟨g6, 15, none⟩ (.int .u8 5)).heap.size (w6.setCell ⟨g6, 15, none⟩ (.int .u8 5)) w12 := below_then hb8 (below_then bW9 B912)
  have p12 := p2.below B212 x2
  have q12 := q5.below B812 (by have := hb7.size; simp at this ⊢; omega)
  have r12 := r1.below (below_then hb2 B212)
  have s12 := hr5.below B512
  have pp := p12
  obtain ⟨a0, a1, a2, a3, a4, a5, a6⟩ := pp
  obtain ⟨d0, d1, d2, d3, d4, d5, d6⟩ := q12
  go_wp2_with fail
  refine (same20_any 5 true 8 17 1 2 _ _ _ _ _ _ [97, 98, 99] w12 r12 s12).mono ?_
  rintro e w13 ⟨rfl, hb13⟩
  have x12 : w.heap.size + 1 < w12.heap.size := Nat.lt_of_lt_of_le x2 B212.size
  have p13 := p12.below hb13 x12
  have x13 : w.heap.size + 1 < w13.heap.size := Nat.lt_of_lt_of_le x12 hb13.size
  clear a0 a1 a2 a3 a4 a5 a6 d0 d1 d2 d3 d4 d5 d6 p12
  obtain ⟨a0, a1, a2, a3, a4, a5, a6⟩ := id p13
  go_wp2_with fail
  refine (ipWhole_any 5 true 8 17 1 2 _ 3 3 w13).mono ?_
  rintro e w14 ⟨rfl, hb14⟩
  rw [show ipWhole true 8 = false from rfl]
  go_wp2_with fail
  refine (ipWhole_any 0 false 0 0 0 0 none 0 0 w14).mono ?_
  rintro e w15 ⟨rfl, hb15⟩
  rw [show ipWhole false 0 = true by decide]
  have p15 := p13.below (below_then hb14 hb15) x13
  have x15 : w.heap.size + 1 < w15.heap.size := Nat.lt_of_lt_of_le x13 (below_then hb14 hb15).size
  clear a0 a1 a2 a3 a4 a5 a6
  obtain ⟨a0, a1, a2, a3, a4, a5, a6⟩ := id p15
  go_wp2_with fail
  refine (ipCheck_any 5 true 8 17 1 2 _ 3 3 w15 (by omega) (by omega) (by omega)).mono ?_
  rintro e w16 ⟨rfl, hb16⟩
  rw [show ipCheck 8 17 3 = true by decide]
  go_wp2_with fail
  refine (ipSum_any 0 0 0 none 0 0 [] w16 (by omega) (by omega) (RdB.nilB _) (by omega)).mono ?_
  rintro e w17 ⟨rfl, hb17⟩
  rw [show ipSumN 0 0 0 [] = 65535 by decide +kernel]
  go_wp2
  go_ret
  exact ⟨rfl, below_then bW1 (below_then hb2 (below_then B212 (below_then hb13 (below_then hb14 (below_then hb15 (below_then hb16 hb17))))))⟩
end Go.Proofs.Ytieilgphcfiapaa
