/-
  Layer 23: what must come at any rate.
-/
import Derived.Test.YtndabecdfccjlaaUdpP
namespace Go.Proofs.Ytndabecdfccjlaa
set_option maxRecDepth 20000
open Go.RowKit
set_option linter.unusedVariables false
set_option linter.unusedSimpArgs false
set_option maxHeartbeats 8000000

def udEx : List UInt8 := udL 1 2 7 9 [97, 98]
theorem udEx_len : udEx.length = 10 := by decide +kernel
theorem udEx_get : udGetE 1 2 (udEx ++ [5]) = 0 ∧ udF 1 2 (udEx ++ [5]) = 7 ∧ udT 1 2 (udEx ++ [5]) = 9 ∧ udD 1 2 (udEx ++ [5]) = [97, 98] := by
  have h := ud_back 1 2 7 9 [97, 98] [5] (by omega) (by omega) (by omega) (by omega) (by decide)
  exact ⟨h.1, h.2.1, h.2.2.1, h.2.2.2.1⟩
theorem udEx_other : udGetE 1 3 udEx = 6 ∧ udF 1 3 udEx = 0 ∧ udT 1 3 udEx = 0 ∧ udD 1 3 udEx = [] := by
  have e : udGetE 1 3 udEx = 6 := by decide +kernel
  refine ⟨e, ?_, ?_, ?_⟩
  · unfold udF; rw [e, if_neg (by decide)]
  · unfold udT; rw [e, if_neg (by decide)]
  · unfold udD; rw [e, if_neg (by decide)]
theorem udEx_short : udGetE 1 2 (List.replicate 7 0) = 5 ∧ udF 1 2 (List.replicate 7 0) = 0 ∧ udT 1 2 (List.replicate 7 0) = 0 ∧ udD 1 2 (List.replicate 7 0) = [] := by
  have e : udGetE 1 2 (List.replicate 7 0) = 5 := by decide +kernel
  refine ⟨e, ?_, ?_, ?_⟩
  · unfold udF; rw [e, if_neg (by decide)]
  · unfold udT; rw [e, if_neg (by decide)]
  · unfold udD; rw [e, if_neg (by decide)]

theorem heads23 (w : World) : Calls Try.prog 21 #[] w (RetV w (.bool true)) := by
  have kc := kconst
  go_enter Try.func21, Try.ntmps21
  go_wp2_with fail
  refine named ?_
  intro W1 hW1
  have bW1 : Below w.heap.size w W1 := by rw [hW1]; repeat' (first | exact Below.refl _ _ | (refine Below.alloc ?_ ?_ _; rotate_left; (simp <;> omega)) | refine Below.drew ?_)
  have zW1 := bW1.size
  have r1 : RdB W1 (some ⟨w.heap.size, 0, none⟩) 2 2 [97, 98] := by rw [hW1]; exact RdB.litM w _ _ [97, 98] 2 (by rfl) rfl (by simp [maxLen])
  have HW1 := Lib.hid hW1
  clear hW1
  have hh := udpPut_any 1 2 7 9 (some ⟨w.heap.size, 0, none⟩) 2 2 [97, 98] W1 (by omega) (by omega) r1
  rw [show udPutE 7 9 2 = 0 by decide +kernel, show udPutL 1 2 7 9 [97, 98] = udEx by decide +kernel] at hh
  refine hh.mono ?_
  clear hh
  rintro e w2 ⟨A2, n2, c2, rfl, ho2, hb2⟩
  have hn2 : n2 = 10 := by rw [← ho2.len, udEx_len]
  subst hn2
  go_wp2_with (first
    | (at_builtin; refine wp_appB rfl _ _ rfl (hb3.alloc hb3.size _) (by omega) (by have := hb3.size; simp; omega) A3 10 c3 udEx rfl (ho3.alloc _) (some ⟨w3.heap.size, 0, none⟩) 1 1 [5] rfl (rdK rfl _ _ _ (by rfl) rfl (by simp [maxLen])) (by omega) 11 (udEx ++ [5]) rfl rfl ?_; intro A4 c4 w4 ho4 hb4 hg4)
    | (at_builtin; refine wp_appB rfl _ _ rfl ((below_self w2).alloc (Nat.le_refl _) _) (Nat.le_refl _) (by simp) _ _ _ _ rfl (own0 w2) A2 10 c2 udEx rfl (ho2.rd.alloc _) (by omega) 10 udEx (by omega) (by simp) ?_; intro A3 c3 w3 ho3 hb3 hg3))
  have hh := udpGet_any 1 2 A4 11 c4 (udEx ++ [5]) w4 (by omega) (by omega) ho4.rd (by omega)
  rw [udEx_get.1, udEx_get.2.1, udEx_get.2.2.1, udEx_get.2.2.2] at hh
  refine hh.mono ?_
  clear hh
  rintro e w5 ⟨A5, n5, c5, rfl, hr5, hb5⟩
  have B25 := below_then hb4 hb5
  go_wp2_with fail
  have hh := udpGet_any 1 3 A2 10 c2 udEx w5 (by omega) (by omega) (ho2.rd.below B25) (by omega)
  rw [udEx_other.1, udEx_other.2.1, udEx_other.2.2.1, udEx_other.2.2.2] at hh
  refine hh.mono ?_
  clear hh
  rintro e w6 ⟨A6, n6, c6, rfl, hr6, hb6⟩
  go_wp2_with fail
  have hh := udpPut_any 1 2 0 9 none 0 0 [] w6 (by omega) (by omega) (RdB.nilB _)
  rw [show udPutE 0 9 0 = 2 by decide +kernel, show udPutL 1 2 0 9 [] = [] by decide +kernel] at hh
  refine hh.mono ?_
  clear hh
  rintro e w7 ⟨A7, n7, c7, rfl, ho7, hb7⟩
  go_wp2_with (refine wp_makeK rfl _ _ rfl .i64 .i64 7 rfl rfl (by omega) w7.heap.size rfl ?_; intro w8 ho8 hb8)
  have hh := udpGet_any 1 2 _ 7 7 (List.replicate 7 0) w8 (by omega) (by omega) ho8.rd (by omega)
  rw [udEx_short.1, udEx_short.2.1, udEx_short.2.2.1, udEx_short.2.2.2] at hh
  refine hh.mono ?_
  clear hh
  rintro e w9 ⟨A9, n9, c9, rfl, hr9, hb9⟩
  have B59 := below_then hb6 (below_then hb7 (below_then hb8 hb9))
  have B29 := below_then B25 B59
  obtain ⟨g2, rfl, _, _⟩ := ho2.addr (by omega)
  have b5 := (ho2.rd.below B29).cellS 5 (by omega)
  rw [Nat.zero_add, show udEx.getD 5 0 = 10 by decide +kernel] at b5
  have b5 : w9.cell? ⟨g2, 5, none⟩ = some (.int .u8 10) := b5
  have k1 := (hr5.below B59).str
  have k2 : (strOf [97, 98]).toList = [97, 98] := by decide +kernel
  go_wp2
  go_ret
  exact ⟨rfl, below_then bW1 (below_then hb2 B29)⟩
end Go.Proofs.Ytndabecdfccjlaa
