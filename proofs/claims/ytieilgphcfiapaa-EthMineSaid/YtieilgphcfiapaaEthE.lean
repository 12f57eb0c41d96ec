/-
  Layer 18, frames: what must come at any rate.
-/
import Derived.Test.YtieilgphcfiapaaEthD
-- facts: FrAt, MacAt, mc9
namespace Go.Proofs.Ytieilgphcfiapaa
set_option maxRecDepth 20000
open Go.RowKit
set_option linter.unusedVariables false
set_option linter.unusedSimpArgs false

def mc9 : Mc := ⟨9, 0, 0, 0, 0, 0⟩
theorem put18_heads : ethPutL mcOwn mc9 2054 [1, 2] = [2, 0, 0, 0, 0, 1, 9, 0, 0, 0, 0, 0, 8, 6, 1, 2] ∧ ethPutE [1, 2] = 0 := by decide +kernel
theorem get18_heads : ethGet [2, 0, 0, 0, 0, 1, 9, 0, 0, 0, 0, 0, 8, 6, 1, 2] = ⟨mcOwn, mc9, 2054, [1, 2]⟩ ∧ ethGetE [2, 0, 0, 0, 0, 1, 9, 0, 0, 0, 0, 0, 8, 6, 1, 2] = 0 := ⟨by rfl, by decide +kernel⟩
theorem get18_13 : ethGet (List.replicate 13 0) = frZero ∧ ethGetE (List.replicate 13 0) = 5 := ⟨by rfl, by decide +kernel⟩
theorem put18_167 : ethPutL mcZero mcZero 0 (List.replicate 167 0) = [] ∧ ethPutE (List.replicate 167 0) = 2 := by decide +kernel
set_option maxHeartbeats 1000000 in
theorem heads18 (w : World) : Calls Try.prog 17 #[] w (RetV w (.bool true)) := by
  go_enter Try.func17, Try.ntmps17
  go_wp2_with fail
  refine (ethOwn_any _).mono ?_
  rintro e w1 ⟨rfl, hb1⟩
  go_wp2_with fail
  refine named ?_
  intro W2 hW2
  have bW2 : Below w1.heap.size w1 W2 := by rw [hW2]; repeat' (first | exact Below.refl _ _ | (refine Below.alloc ?_ ?_ _; rotate_left; (simp <;> omega)) | refine Below.drew ?_)
  have zW2 := bW2.size
  have m2 : MacAt W2 w1.heap.size 0 mcOwn := by rw [hW2]; simp [FrAt, MacAt, mc9, go_sem]
  have f2 : FrAt W2 (w1.heap.size + 1 + 1) mcOwn mc9 2054 (some ⟨w1.heap.size + 1, 0, none⟩) 2 2 := by rw [hW2]; simp [FrAt, MacAt, mc9, go_sem]
  have r2 : RdB W2 (some ⟨w1.heap.size + 1, 0, none⟩) 2 2 [1, 2] := by rw [hW2]; exact (rdK (by simp) _ _ _ (by rfl) rfl (by simp [maxLen])).alloc _
  have HW2 := Lib.hid hW2
  clear hW2
  refine (ethPut_any mcOwn mc9 2054 _ _ _ [1, 2] _ (by omega) r2).mono ?_
  rintro e w3 ⟨A3, n3, c3, rfl, ho3, hb3⟩
  rw [put18_heads.1] at ho3
  rw [put18_heads.2]
  go_wp2_with fail
  have hg3 := ethGet_any A3 n3 c3 _ w3 ho3.rd
  rw [get18_heads.1, get18_heads.2] at hg3
  refine hg3.mono ?_
  rintro e w4 ⟨A4, n4, c4, rfl, hr4, hb4⟩
  clear hg3
  go_wp2_with ((with_reducible refine wp_makeK rfl (.const (.int .i64 13)) (.const (.int .i64 13)) rfl .i64 .i64 13 rfl rfl (by omega) (w4.heap.size + 1) (by simp) ?_); intro w5 ho5 hb5)
  have f5 := (frBox w4 mcOwn mc9 2054 A4 n4 c4 _).below hb5 (by simp)
  have hg5 := ethGet_any _ 13 13 _ w5 ho5.rd
  rw [get18_13.1, get18_13.2] at hg5
  refine hg5.mono ?_
  rintro e w6 ⟨A6, n6, c6, rfl, hr6, hb6⟩
  clear hg5
  go_wp2_with ((with_reducible refine wp_makeK rfl (.const (.int .i64 167)) (.const (.int .i64 167)) rfl .i64 .i64 167 rfl rfl (by omega) (w6.heap.size + 1) (by simp) ?_); intro w7 ho7 hb7)
  have hp7 := ethPut_any mcZero mcZero 0 _ _ _ _ w7 (by omega) ho7.rd
  rw [put18_167.1, put18_167.2] at hp7
  refine hp7.mono ?_
  rintro e w8 ⟨A8, n8, c8, rfl, ho8, hb8⟩
  clear hp7
  have B46 : Below w4.heap.size w4 w6 := below_then (bstep (below_self w4) hb5) hb6
  have B68 : Below w6.heap.size w6 w8 := below_then (bstep (below_self w6) hb7) hb8
  have z1 := hb1.size
  have z3 := hb3.size
  have z4 := hb4.size
  have z46 := B46.size
  have z68 := B68.size
  have z5 := hb5.size
  have z6 := hb6.size
  simp at z5
  have B28 := below_then (below_then hb3 hb4) (below_then B46 B68)
  have h20 : w1.heap.size + 2 < W2.heap.size := by rw [HW2.out]; simp
  have m8 := m2.below B28 (by omega)
  have f8 := f2.below B28 (by omega)
  have r8 := r2.below B28
  have g8 := f5.below (below_then hb6 B68) (by omega)
  have hr8 := hr4.below (below_then B46 B68)
  have hb8' := ho3.rd.below (below_then hb4 (below_then B46 B68))
  have hn3 : n3 = 16 := ho3.len.symm
  subst hn3
  obtain ⟨b, o, u, rfl, _⟩ := hb8'.at_ 0 (by omega)
  have c12 : w8.cell? ⟨b, o + 12, none⟩ = some (.int .u8 8) := hb8'.cellS 12 (by omega)
  have c13 : w8.cell? ⟨b, o + 13, none⟩ = some (.int .u8 6) := hb8'.cellS 13 (by omega)
  have q := fun (W : World) => (show (binOp .eql 23 (.agg #[.int .u8 (mcOwn.a0.toNat : Int), .int .u8 (mcOwn.a1.toNat : Int), .int .u8 (mcOwn.a2.toNat : Int), .int .u8 (mcOwn.a3.toNat : Int), .int .u8 (mcOwn.a4.toNat : Int), .int .u8 (mcOwn.a5.toNat : Int)]) (.agg #[.int .u8 2, .int .u8 0, .int .u8 0, .int .u8 0, .int .u8 0, .int .u8 1])).run Try.prog W = .ok (.bool true) W from by
    have := run_eql_mac W mcOwn mcOwn
    rwa [mcEq_self] at this)
  obtain ⟨m80, m81, m82, m83, m84, m85⟩ := m8
  obtain ⟨⟨d80, d81, d82, d83, d84, d85⟩, ⟨s80, s81, s82, s83, s84, s85⟩, k8, v8⟩ := id f8
  obtain ⟨⟨gd0, gd1, gd2, gd3, gd4, gd5⟩, ⟨gs0, gs1, gs2, gs3, gs4, gs5⟩, gk, gv⟩ := g8
  go_wp2_with fail
  refine (same18_any mcOwn mc9 2054 _ _ _ [1, 2] mcOwn mc9 2054 _ _ _ [1, 2] w8 r8 hr8).mono ?_
  rintro e w9 ⟨rfl, hb9⟩
  rw [show frSame mcOwn mc9 2054 [1, 2] mcOwn mc9 2054 [1, 2] = true from by decide +kernel]
  obtain ⟨⟨d90, d91, d92, d93, d94, d95⟩, ⟨s90, s91, s92, s93, s94, s95⟩, k9, v9⟩ := f8.below hb9 (by omega)
  clear m80 m81 m82 m83 m84 m85 d80 d81 d82 d83 d84 d85 s80 s81 s82 s83 s84 s85 gd0 gd1 gd2 gd3 gd4 gd5 gs0 gs1 gs2 gs3 gs4 gs5 k8 v8 gk gv q c12 c13
  go_wp2_with fail
  refine (ethMine_any mcOwn mc9 2054 _ _ _ w9).mono ?_
  rintro e w10 ⟨rfl, hb10⟩
  rw [show ethMine mcOwn = true from by decide +kernel]
  go_wp2_with fail
  refine (ethMine_any mcZero mcZero 0 none 0 0 w10).mono ?_
  rintro e w11 ⟨rfl, hb11⟩
  rw [show ethMine mcZero = false from by decide +kernel]
  go_wp2_with fail
  refine (ethAll_any w11).mono ?_
  rintro e w12 ⟨rfl, hb12⟩
  go_wp2_with fail
  refine (ethMine_any mcAll mcZero 0 none 0 0 w12).mono ?_
  rintro e w13 ⟨rfl, hb13⟩
  rw [show ethMine mcAll = true from by decide +kernel]
  go_wp2
  go_ret
  exact ⟨rfl, below_then (below_then hb1 (below_then bW2 B28)) (below_then (below_then (below_then hb9 hb10) (below_then hb11 hb12)) hb13)⟩
end Go.Proofs.Ytieilgphcfiapaa
