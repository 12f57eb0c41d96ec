/-
  Layer 22: Refuse; what must come at any rate.
-/
import Derived.Test.YtieilgphcfiapaaIcmp
-- facts: PkAt
namespace Go.Proofs.Ytieilgphcfiapaa
set_option maxRecDepth 20000
open Go.RowKit
set_option linter.unusedVariables false
set_option linter.unusedSimpArgs false
set_option maxHeartbeats 8000000

def refuseL (P : List UInt8) (pe : Int) : List UInt8 := if pe = 0 then smd ([3, 3, 0, 0, 0, 0, 0, 0] ++ P.take 28) else []
theorem refuse_any (id : Nat) (more : Bool) (place proto : Int) (src dst : Nat) (A : Option Addr) (n c : Nat) (xs : List UInt8) (w : World) (hid : id < 65536) (hp : -9223372036854775808 ≤ place ∧ place ≤ 9223372036854775807) (ho : -9223372036854775808 ≤ proto ∧ proto ≤ 9223372036854775807) (hsrc : src < 4294967296) (hdst : dst < 4294967296) (hr : RdB w A n c xs) :
    Calls Try.prog 62 #[.agg #[.int .u16 id, .bool more, .int .i64 place, .int .i64 proto, .int .u32 src, .int .u32 dst, .slice A n c]] w (RetB w (refuseL (ipPutL id more place proto src dst xs) (ipPutE place proto xs))) := by
  have hpe0 : (ipPutE place proto xs = 0 ∧ (ipPutL id more place proto src dst xs).length ≤ 166) ∨ ipPutE place proto xs = 2 := by
    unfold ipPutE ipPutL
    cases hc : ipCheck place proto xs.length with
    | true =>
      left
      have := ((ipCheck_iff _ _ _).1 hc).2.2.2.2.2
      rw [if_pos rfl, if_pos rfl]
      refine ⟨rfl, ?_⟩
      rw [List.length_append, ipS_length]; omega
    | false => right; rw [if_neg (by decide)]
  obtain ⟨pe, hpe⟩ : ∃ pe, ipPutE place proto xs = pe := ⟨ipPutE place proto xs, rfl⟩
  obtain ⟨P, hP⟩ : ∃ P, ipPutL id more place proto src dst xs = P := ⟨ipPutL id more place proto src dst xs, rfl⟩
  rw [hpe, hP]
  rw [hpe, hP] at hpe0
  have HPE := Lib.hid hpe
  have HP := Lib.hid hP
  clear hpe hP
  go_enter Try.func62, Try.ntmps62
  go_wp2_with fail
  refine named ?_
  intro W1 hW1
  have bW1 : Below w.heap.size w W1 := by rw [hW1]; repeat' (first | exact Below.refl _ _ | (refine Below.alloc ?_ ?_ _; rotate_left; (simp <;> omega)) | refine Below.drew ?_)
  have zW1 := bW1.size
  have HW1 := Lib.hid hW1
  clear hW1
  have hh := ipPut_any id more place proto src dst A n c xs W1 hid hp ho hsrc hdst (hr.below bW1)
  rw [HPE.out, HP.out] at hh
  refine hh.mono ?_
  clear hh
  rintro e w2 ⟨A2, n2, c2, rfl, ho2, hb2⟩
  have B2 := below_then bW1 hb2
  rcases hpe0 with ⟨rfl, hPl⟩ | rfl
  · have hn2 := ho2.len
    have hc2 := ho2.rd.2.2.1
    have hm : min (28 : Int) (n2 : Int) = ((min 28 n2 : Nat) : Int) := by omega
    obtain ⟨q, hq⟩ : ∃ q, min 28 n2 = q := ⟨_, rfl⟩
    rw [hq] at hm
    have hq2 : q ≤ n2 := by omega
    have hq3 : q ≤ 28 := by omega
    have kq1 : (0 : Int) ≤ (q : Int) := by omega
    have kq2 : (q : Int) ≤ (c2 : Int) := by omega
    go_wp2_with (refine wp_makeK rfl _ _ rfl .i64 .i64 8 rfl rfl (by omega) w2.heap.size rfl ?_; intro w3 ho3 hb3; have f0 := ho3.free 0; have f1 := ho3.free 1; have c0 := ho3.rd.cellS 0 (by omega); have c1 := ho3.rd.cellS 1 (by omega); rw [Nat.zero_add] at c0 c1)
    obtain ⟨V, hV⟩ : ∃ V, V = (w3.setCell ⟨w2.heap.size, 0, none⟩ (.int .u8 3)).setCell ⟨w2.heap.size, 1, none⟩ (.int .u8 3) := ⟨_, rfl⟩
    have oV : OwnB V w2.heap.size (some ⟨w2.heap.size, 0, none⟩) 8 8 [3, 3, 0, 0, 0, 0, 0, 0] := by
      rw [hV]
      exact (ho3.set_ 0 3).set_ 1 3
    have bV : Below w2.heap.size w2 V := by rw [hV]; exact (hb3.setCell (p := ⟨w2.heap.size, 0, none⟩) (Nat.le_refl _) _).setCell (p := ⟨w2.heap.size, 1, none⟩) (Nat.le_refl _) _
    have zV : V.heap.size = w3.heap.size := by rw [hV]; simp
    rw [← hV]
    have HV := Lib.hid hV
    clear hV c0 c1 f0 f1
    rw [← zV]
    refine named ?_
    intro W4 hW4
    have bW4 : Below V.heap.size V W4 := by rw [hW4]; exact (below_self V).alloc (Nat.le_refl _) _
    have hrow : Rd W4 (some ⟨V.heap.size, 0, none⟩) [.slice (some ⟨w2.heap.size, 0, none⟩) 8 8, .slice A2 q c2] := by
      rw [hW4]; exact Rd.new V #[.slice (some ⟨w2.heap.size, 0, none⟩) 8 8, .slice A2 q c2] _
    clear hW4
    have r0 := oV.rd.below bW4
    have r1 := ((ho2.rd.below bV).below bW4).take q hq2
    have hlen : ([[3, 3, 0, 0, 0, 0, 0, 0], P.take q] : List (List UInt8)).flatten.length ≤ 70368744177664 := by simp; omega
    refine (concat_any (some ⟨V.heap.size, 0, none⟩) 2 2 [.slice (some ⟨w2.heap.size, 0, none⟩) 8 8, .slice A2 q c2] [[3, 3, 0, 0, 0, 0, 0, 0], P.take q] W4 hrow rfl (by omega) ⟨⟨_, _, _, rfl, r0⟩, ⟨_, _, _, rfl, r1⟩, trivial⟩ hlen).mono ?_
    rintro e w5 ⟨A5, n5, c5, rfl, ho5, hb5⟩
    have eP : P.take q = P.take 28 := by
      rcases Nat.lt_or_ge n2 28 with h | h
      · rw [List.take_of_length_le (by omega), List.take_of_length_le (by omega)]
      · rw [show q = 28 by omega]
    rw [show [[3, 3, 0, 0, 0, 0, 0, 0], P.take q].flatten = [3, 3, 0, 0, 0, 0, 0, 0] ++ P.take q by simp, eP] at ho5
    have hn5 : 8 ≤ n5 ∧ n5 ≤ 36 := by rw [← ho5.len, List.length_append, List.length_take]; simp; omega
    go_wp2_with fail
    refine (summed_any A5 n5 c5 _ w5 ho5.rd (by omega) (by omega)).mono ?_
    rintro e w6 ⟨A6, n6, c6, rfl, ho6, hb6⟩
    go_wp2
    go_ret
    have z1 := B2.size
    have z2 := bV.size
    have z3 := bW4.size
    have z4 := hb5.size
    exact ⟨_, _, _, rfl, OwnB.mono ho6 (by omega), below_then B2 (below_then bV (below_then bW4 (below_then hb5 hb6)))⟩
  · go_wp2
    go_ret
    exact ⟨none, 0, 0, rfl, OwnB.nilB _ _, B2⟩

def q22 : List UInt8 := [8, 0, 247, 255, 0, 0, 0, 0]
def p22 : List UInt8 := [8, 0, 247, 254, 0, 0, 0, 0]
def r22 : List UInt8 := [0, 0, 255, 255, 0, 0, 0, 0]
def x22 : List UInt8 := refuseL (ipPutL 0 false 0 17 0 0 (List.replicate 20 0)) 0
theorem x22_len : x22.length = 36 := by decide +kernel
theorem x22_0 : x22.getD 0 0 = 3 := by decide +kernel
theorem x22_1 : x22.getD 1 0 = 3 := by decide +kernel
theorem x22_ck : numCheck x22 = 0 := by decide +kernel

theorem heads22 (w : World) : Calls Try.prog 58 #[] w (RetV w (.bool true)) := by
  go_enter Try.func58, Try.ntmps58
  go_wp2_with fail
  refine named ?_
  intro W1 hW1
  have bW1 : Below w.heap.size w W1 := by rw [hW1]; repeat' (first | exact Below.refl _ _ | (refine Below.alloc ?_ ?_ _; rotate_left; (simp <;> omega)) | refine Below.drew ?_)
  have zW1 := bW1.size
  have r1 : RdB W1 (some ⟨w.heap.size, 0, none⟩) 8 8 q22 := by rw [hW1]; exact RdB.litM w _ _ q22 8 (by rfl) rfl (by simp [maxLen])
  have HW1 := Lib.hid hW1
  clear hW1
  have hh := echo_any _ 8 8 q22 W1 r1 (by omega)
  rw [show echoE 8 q22 = 0 by decide +kernel, show echoL q22 0 = r22 by decide +kernel] at hh
  refine hh.mono ?_
  clear hh
  rintro e w2 ⟨A2, n2, c2, rfl, ho2, hb2⟩
  go_wp2_with fail
  refine named ?_
  intro W3 hW3
  have bW3 : Below w2.heap.size w2 W3 := by rw [hW3]; repeat' (first | exact Below.refl _ _ | (refine Below.alloc ?_ ?_ _; rotate_left; (simp <;> omega)) | refine Below.drew ?_)
  have zW3 := bW3.size
  have r3 : RdB W3 (some ⟨w2.heap.size, 0, none⟩) 8 8 p22 := by rw [hW3]; exact RdB.litM w2 _ _ p22 8 (by rfl) rfl (by simp [maxLen])
  have HW3 := Lib.hid hW3
  clear hW3
  have hh := echo_any _ 8 8 p22 W3 r3 (by omega)
  rw [show echoE 8 p22 = 6 by decide +kernel, show echoL p22 6 = [] by decide +kernel] at hh
  refine hh.mono ?_
  clear hh
  rintro e w4 ⟨A4, n4, c4, rfl, ho4, hb4⟩
  go_wp2_with fail
  refine named ?_
  intro W5 hW5
  have bW5 : Below w4.heap.size w4 W5 := by rw [hW5]; repeat' (first | exact Below.refl _ _ | (refine Below.alloc ?_ ?_ _; rotate_left; (simp <;> omega)) | refine Below.drew ?_)
  have zW5 := bW5.size
  have r5 : RdB W5 (some ⟨w4.heap.size, 0, none⟩) 8 8 r22 := by rw [hW5]; exact RdB.litM w4 _ _ r22 8 (by rfl) rfl (by simp [maxLen])
  have HW5 := Lib.hid hW5
  clear hW5
  have hh := echo_any _ 8 8 r22 W5 r5 (by omega)
  rw [show echoE 8 r22 = 180 by decide +kernel, show echoL r22 180 = [] by decide +kernel] at hh
  refine hh.mono ?_
  clear hh
  rintro e w6 ⟨A6, n6, c6, rfl, ho6, hb6⟩
  go_wp2_with (refine wp_makeK rfl _ _ rfl .i64 .i64 7 rfl rfl (by omega) w6.heap.size rfl ?_; intro w7 ho7 hb7)
  have hh := echo_any _ 7 7 (List.replicate 7 0) w7 ho7.rd (by omega)
  rw [show echoE 7 (List.replicate 7 0) = 5 by decide +kernel, show echoL (List.replicate 7 0) 5 = [] by decide +kernel] at hh
  refine hh.mono ?_
  clear hh
  rintro e w8 ⟨A8, n8, c8, rfl, ho8, hb8⟩
  go_wp2_with (refine wp_makeK rfl _ _ rfl .i64 .i64 20 rfl rfl (by omega) w8.heap.size rfl ?_; intro w9 ho9 hb9)
  have hh := refuse_any 0 false 0 17 0 0 _ 20 20 (List.replicate 20 0) w9 (by omega) (by omega) (by omega) (by omega) (by omega) ho9.rd
  rw [show ipPutE 0 17 (List.replicate 20 0) = 0 by decide +kernel, show refuseL (ipPutL 0 false 0 17 0 0 (List.replicate 20 0)) 0 = x22 from rfl] at hh
  refine hh.mono ?_
  clear hh
  rintro e w10 ⟨A10, n10, c10, rfl, ho10, hb10⟩
  have hn10 : n10 = 36 := by rw [← ho10.len, x22_len]
  subst hn10
  go_wp2_with fail
  refine named ?_
  intro W11 hW11
  have bW11 : Below w10.heap.size w10 W11 := by rw [hW11]; repeat' (first | exact Below.refl _ _ | (refine Below.alloc ?_ ?_ _; rotate_left; (simp <;> omega)) | refine Below.drew ?_)
  have zW11 := bW11.size
  have r11 : RdB W11 (some ⟨w10.heap.size, 0, none⟩) 8 8 r22 := by rw [hW11]; exact RdB.litM w10 _ _ r22 8 (by rfl) rfl (by simp [maxLen])
  have HW11 := Lib.hid hW11
  clear hW11
  have B211 := below_then (below_then bW3 hb4) (below_then (below_then bW5 hb6) (below_then (below_then hb7 hb8) (below_then (below_then hb9 hb10) bW11)))
  refine (bytes_any A2 (some ⟨w10.heap.size, 0, none⟩) n2 c2 8 8 r22 r22 W11 (ho2.rd.below B211) r11).mono ?_
  rintro e w12 ⟨rfl, rfl⟩
  rw [decide_eq_true rfl]
  have o11 := ho10.rd.below bW11
  obtain ⟨g, rfl, _, _⟩ := ho10.addr (by omega)
  have c0 := o11.cellS 0 (by omega)
  have c1 := o11.cellS 1 (by omega)
  rw [Nat.zero_add, x22_0] at c0
  rw [Nat.zero_add, x22_1] at c1
  have c0 : W11.cell? ⟨g, 0, none⟩ = some (.int .u8 3) := c0
  have c1 : W11.cell? ⟨g, 1, none⟩ = some (.int .u8 3) := c1
  go_wp2_with fail
  have hh := icmpHolds_any _ 36 c10 x22 W11 o11
  rw [x22_ck, show (decide (8 ≤ 36) && decide ((0 : Nat) = 0)) = true from rfl] at hh
  refine hh.mono ?_
  clear hh
  rintro e w13 ⟨rfl, rfl⟩
  go_wp2_with fail
  have hh := refuse_any 0 false 1 0 0 0 none 0 0 [] W11 (by omega) (by omega) (by omega) (by omega) (by omega) (RdB.nilB _)
  rw [show ipPutE 1 0 [] = 2 by decide +kernel, show refuseL (ipPutL 0 false 1 0 0 0 []) 2 = [] from rfl] at hh
  refine hh.mono ?_
  clear hh
  rintro e w14 ⟨A14, n14, c14, rfl, ho14, hb14⟩
  have hn14 : n14 = 0 := by rw [← ho14.len]; rfl
  subst hn14
  go_wp2
  go_ret
  exact ⟨rfl, below_then (below_then bW1 hb2) (below_then B211 hb14)⟩
end Go.Proofs.Ytieilgphcfiapaa
