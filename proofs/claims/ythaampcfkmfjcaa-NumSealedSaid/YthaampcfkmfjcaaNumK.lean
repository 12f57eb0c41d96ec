/-
  What must come at any rate, layer 1.
-/
import Derived.Test.YthaampcfkmfjcaaNumJ
import Derived.Test.YthaampcfkmfjcaaCrcB
namespace Go.Proofs.Ythaampcfkmfjcaa
open Go.RowKit
set_option linter.unusedVariables false
set_option linter.unusedSimpArgs false

theorem decI_m12 : decI (-12) = [45, 49, 50] := by
  unfold decI
  rw [if_pos (by decide), show (-12 : Int).natAbs = 12 from rfl, decL_big (by decide), show 12 / 10 = 1 from rfl, decL_small (by decide)]
  rfl
theorem decI_7 : decI 7 = [55] := by
  unfold decI
  rw [if_neg (by decide), show (7 : Int).natAbs = 7 from rfl, decL_small (by decide)]
  rfl
theorem ok_m12 : parseOk [45, 49, 50] = true := by
  unfold parseOk
  rw [show parseRest [45, 49, 50] = [49, 50] from rfl, show parseU [45, 49, 50] = -12 from by decide, show IntKind.i64.wrap (-12) = -12 from by decide, decI_m12]
  decide
theorem n_m12 : parseN [45, 49, 50] = -12 := by
  unfold parseN
  rw [if_pos ok_m12]; decide
theorem ok_007 : parseOk [48, 48, 55] = false := by
  unfold parseOk
  rw [show parseRest [48, 48, 55] = [48, 48, 55] from rfl, show parseU [48, 48, 55] = 7 from by decide, show IntKind.i64.wrap 7 = 7 from by decide, decI_7]
  decide

set_option maxHeartbeats 800000 in
theorem heads01 (w : World) : Calls Try.prog 41 #[] w (RetV w (.bool true)) := by
  go_enter Try.func41, Try.ntmps41
  go_wp2_with fail
  refine (parse_any [45, 49, 50] _ (by decide)).mono ?_
  rintro e w1 ⟨rfl, hb1⟩
  rw [ok_m12, n_m12]
  go_wp2_with fail
  refine (parse_any [48, 48, 55] _ (by decide)).mono ?_
  rintro e w2 ⟨rfl, hb2⟩
  rw [ok_007]
  go_wp2_with fail
  refine (le_any 258 2 _ (by decide)).mono ?_
  rintro e w3 ⟨A3, n3, c3, rfl, ho3, hb3⟩
  rw [show leB 258 (clamp 2) = [2, 1] by decide] at ho3
  obtain rfl : n3 = 2 := ho3.len.symm
  go_wp2_with fail
  refine (bytes_any A3 _ 2 c3 2 2 [2, 1] [2, 1] _ (ho3.rd.alloc _) (RdB.litM w3 _ _ [2, 1] 2 (by rfl) rfl (by simp [maxLen]))).mono ?_
  rintro e w4 ⟨rfl, rfl⟩
  rw [decide_eq_true rfl]
  go_wp2_with fail
  refine (be_any 258 2 _ (by decide)).mono ?_
  rintro e w5 ⟨A5, n5, c5, rfl, ho5, hb5⟩
  rw [show beB 258 (clamp 2) = [1, 2] by decide] at ho5
  obtain rfl : n5 = 2 := ho5.len.symm
  go_wp2_with fail
  refine (bytes_any A5 _ 2 c5 2 2 [1, 2] [1, 2] _ (ho5.rd.alloc _) (RdB.litM w5 _ _ [1, 2] 2 (by rfl) rfl (by simp [maxLen]))).mono ?_
  rintro e w6 ⟨rfl, rfl⟩
  rw [decide_eq_true rfl]
  go_wp2_with fail
  refine (fromLe_any (some ⟨w5.heap.size + 1, 0, none⟩) 2 2 [2, 1] _ (by simpa [Nat.add_assoc] using RdB.litM (w5.alloc (.cells #[.int .u8 1, .int .u8 2] 5)) #[.int .u8 2, .int .u8 1] (0, 0) [2, 1] 2 (by rfl) rfl (by simp [maxLen]))).mono ?_
  rintro e w6 ⟨rfl, rfl⟩
  rw [show fromLe [2, 1] = 258 by decide]
  go_wp2_with fail
  refine (fromBe_any (some ⟨w5.heap.size + 1 + 1, 0, none⟩) 2 2 [1, 2] _ (by simpa [Nat.add_assoc] using RdB.litM ((w5.alloc (.cells #[.int .u8 1, .int .u8 2] 5)).alloc (.cells #[.int .u8 2, .int .u8 1] 5)) #[.int .u8 1, .int .u8 2] (0, 0) [1, 2] 2 (by rfl) rfl (by simp [maxLen]))).mono ?_
  rintro e w6 ⟨rfl, rfl⟩
  rw [show fromBe [1, 2] = 258 by decide]
  go_wp2_with fail
  refine (numCheck_any (some ⟨w5.heap.size + 1 + 1 + 1, 0, none⟩) 4 4 [0, 1, 0, 2] _ (by simpa [Nat.add_assoc] using RdB.litM (((w5.alloc (.cells #[.int .u8 1, .int .u8 2] 5)).alloc (.cells #[.int .u8 2, .int .u8 1] 5)).alloc (.cells #[.int .u8 1, .int .u8 2] 5)) #[.int .u8 0, .int .u8 1, .int .u8 0, .int .u8 2] (0, 0) [0, 1, 0, 2] 4 (by rfl) rfl (by simp [maxLen]))).mono ?_
  rintro e w6 ⟨rfl, rfl⟩
  rw [show numCheck [0, 1, 0, 2] = 65532 by decide]
  go_wp2_with fail
  refine (numCheck_any none 0 0 [] _ (RdB.nilB _)).mono ?_
  rintro e w6 ⟨rfl, rfl⟩
  rw [show numCheck [] = 65535 by decide]
  go_wp2_with fail
  refine (dec_any (-12) _ (by omega)).mono ?_
  rintro e w7 ⟨rfl, hb7⟩
  rw [decI_m12]
  have hs : (strOf [45, 49, 50]).toList = [45, 49, 50] := by rw [Lib.toList_data]; rfl
  go_wp2
  go_ret
  have B5 := below_then (below_then hb1 hb2) (below_then hb3 (bstep (below_self w3) hb5))
  have hz := B5.size
  exact ⟨rfl, below_then ((((B5.alloc hz _).alloc (by simp; omega) _).alloc (by simp; omega) _).alloc (by simp; omega) _) hb7⟩
end Go.Proofs.Ythaampcfkmfjcaa
