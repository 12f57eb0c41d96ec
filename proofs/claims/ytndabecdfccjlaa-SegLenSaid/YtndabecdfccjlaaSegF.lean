/-
  The laws SegDiff, SegLen.
-/
import Derived.Test.YtndabecdfccjlaaSegE
namespace Go.Proofs.Ytndabecdfccjlaa
set_option maxRecDepth 20000
open Go.RowKit
set_option linter.unusedVariables false
set_option linter.unusedSimpArgs false
set_option maxHeartbeats 8000000

theorem sgDiff_add (a b c : Nat) (ha : a < 4294967296) (hb : b < 4294967296) : sgDiff ((a + c) % 4294967296) ((b + c) % 4294967296) = sgDiff a b := by
  unfold sgDiff
  have e : ((a + c) % 4294967296 + 4294967296 - (b + c) % 4294967296) % 4294967296 = (a + 4294967296 - b) % 4294967296 := by omega
  rw [e]
theorem sgDiff_bounds (a b : Nat) : -2147483648 ≤ sgDiff a b ∧ sgDiff a b < 2147483648 := by
  unfold sgDiff; split <;> omega
theorem sgDiff_back (a b : Nat) (ha : a < 4294967296) (hb : b < 4294967296) : ((b : Int) + sgDiff a b % 4294967296) % 4294967296 = (a : Int) := by
  unfold sgDiff; split <;> omega
theorem sgDiff_turn (a b : Nat) (ha : a < 4294967296) (hb : b < 4294967296) (h : sgDiff a b ≠ -2147483648) : sgDiff b a = - sgDiff a b := by
  unfold sgDiff at *
  by_cases h1 : (a + 4294967296 - b) % 4294967296 < 2147483648
  · rw [if_pos h1] at h ⊢
    by_cases h2 : (b + 4294967296 - a) % 4294967296 < 2147483648
    · rw [if_pos h2]; omega
    · rw [if_neg h2]; omega
  · rw [if_neg h1] at h ⊢
    by_cases h2 : (b + 4294967296 - a) % 4294967296 < 2147483648
    · rw [if_pos h2]; omega
    · rw [if_neg h2]; omega

theorem segDiff_law (a b c : Nat) (w : World) (ha : a < 4294967296) (hb : b < 4294967296) (hc : c < 4294967296) :
    Calls Try.prog 5 #[.int .u32 a, .int .u32 b, .int .u32 c] w (RetV w (.bool true)) := by
  have hadd := sgDiff_add a b c ha hb
  have hbk := sgDiff_back a b ha hb
  have hbd := sgDiff_bounds a b
  have htn := sgDiff_turn a b ha hb
  have h1 : IntKind.u32.wrap ((a : Int) + (c : Int)) = (((a + c) % 4294967296 : Nat) : Int) := by rw [IntKind.wrap_u32]; omega
  have h2 : IntKind.u32.wrap ((b : Int) + (c : Int)) = (((b + c) % 4294967296 : Nat) : Int) := by rw [IntKind.wrap_u32]; omega
  obtain ⟨a2, ha2⟩ : ∃ x, (a + c) % 4294967296 = x := ⟨_, rfl⟩
  obtain ⟨b2, hb2⟩ : ∃ x, (b + c) % 4294967296 = x := ⟨_, rfl⟩
  have ga2 : a2 < 4294967296 := by omega
  have gb2 : b2 < 4294967296 := by omega
  rw [ha2] at h1 hadd
  rw [hb2] at h2 hadd
  obtain ⟨d, hd⟩ : ∃ d, sgDiff a b = d := ⟨sgDiff a b, rfl⟩
  rw [hd] at hadd hbk hbd htn
  have HD := Lib.hid hd
  have HA := Lib.hid hadd
  have HT := Lib.hid htn
  have w1 : IntKind.u32.wrap d = d % 4294967296 := by rw [IntKind.wrap_u32]
  have w2 : IntKind.u32.wrap ((b : Int) + d % 4294967296) = (a : Int) := by rw [IntKind.wrap_u32]; exact hbk
  have k0 : (d == d) = true := by simp
  have k1 : ((a : Int) == (a : Int)) = true := by simp
  have k2 : decide (-2147483648 ≤ d) = true := decide_eq_true hbd.1
  have k3 : decide (d < 2147483648) = true := decide_eq_true hbd.2
  clear ha2 hb2 hd hadd htn
  go_enter Try.func5, Try.ntmps5
  go_wp2_with fail
  have hh := sgDiff_any a b w ha hb
  rw [HD.out] at hh
  refine hh.mono ?_
  clear hh
  rintro e v1 ⟨rfl, hv1⟩
  go_wp2_with fail
  have hh := sgDiff_any a2 b2 v1 ga2 gb2
  rw [HA.out] at hh
  refine hh.mono ?_
  clear hh
  rintro e v2 ⟨rfl, hv2⟩
  by_cases hm : d = -2147483648
  · have k4 : (d == -2147483648) = true := by rw [beq_iff_eq]; exact hm
    clear hm
    go_wp2_with fail
    refine (heads24 _).mono ?_
    rintro e v3 ⟨rfl, hv3⟩
    go_wp2
    go_ret
    exact ⟨rfl, below_then hv1 (below_then hv2 hv3)⟩
  · have k4 : (d == -2147483648) = false := by rw [beq_eq_false_iff_ne]; exact hm
    have k5 : IntKind.i64.wrap (-d) = -d := IntWalk.i64_in _ (by omega)
    have k6 : (-d == -d) = true := by simp
    go_wp2_with fail
    have hh := sgDiff_any b a v2 hb ha
    rw [HT.out hm] at hh
    refine hh.mono ?_
    clear hh
    rintro e v3 ⟨rfl, hv3⟩
    go_wp2_with fail
    refine (heads24 _).mono ?_
    rintro e v4 ⟨rfl, hv4⟩
    go_wp2
    go_ret
    exact ⟨rfl, below_then hv1 (below_then hv2 (below_then hv3 hv4))⟩

theorem segLen_law (sp dp : Int) (sq ak : Nat) (fl wn : Int) (A : Option Addr) (n c : Nat) (xs : List UInt8) (w : World) (hsp : -9223372036854775808 ≤ sp ∧ sp ≤ 9223372036854775807) (hdp : -9223372036854775808 ≤ dp ∧ dp ≤ 9223372036854775807) (hq : sq < 4294967296) (ha : ak < 4294967296) (hfl : -9223372036854775808 ≤ fl ∧ fl ≤ 9223372036854775807) (hwn : -9223372036854775808 ≤ wn ∧ wn ≤ 9223372036854775807) (hr : RdB w A n c xs) :
    Calls Try.prog 3 #[.agg #[.int .i64 sp, .int .i64 dp, .int .u32 sq, .int .u32 ak, .int .i64 fl, .int .i64 wn, .slice A n c]] w (RetV w (.bool true)) := by
  have hn := hr.n63
  have hl := hr.2.1
  go_enter Try.func3, Try.ntmps3
  go_wp2_with fail
  refine named ?_
  intro W1 hW1
  have bW1 : Below w.heap.size w W1 := by rw [hW1]; repeat' (first | exact Below.refl _ _ | (refine Below.alloc ?_ ?_ _; rotate_left; (simp <;> omega)) | refine Below.drew ?_)
  have zW1 := bW1.size
  have P1 : SgAt W1 w.heap.size sp dp sq ak fl wn A n c := by rw [hW1]; exact row1 ..
  have HW1 := Lib.hid hW1
  clear hW1
  refine (refCheck24_any sp dp sq ak fl wn A n c W1 hn).mono ?_
  rintro e w2 ⟨rfl, hb2⟩
  have P2 := P1.below hb2 P1.lt
  have B2 := below_then bW1 hb2
  cases hck : sgCheck sp dp fl wn n with
  | false =>
    go_wp2_with fail
    refine (heads24 _).mono ?_
    rintro e w9 ⟨rfl, hb9⟩
    go_wp2
    go_ret
    exact ⟨rfl, below_then B2 hb9⟩
  | true =>
    obtain ⟨g1, g2, g3, ⟨g4, g5⟩, g6⟩ := (sgCheck_iff _ _ _ _ _).1 hck
    have hE : sgPutE sp dp fl wn xs = 0 := by unfold sgPutE; rw [hl, if_pos hck]
    have hL : (sgPutL 1 2 sp dp sq ak fl wn xs).length = 20 + n := by
      unfold sgPutL
      rw [hl, if_pos hck]
      unfold sgL sgZ
      simp [beB_length, sgH_length, hl]; omega
    obtain ⟨f, rfl⟩ : ∃ f : Nat, fl = (f : Int) := ⟨fl.toNat, by omega⟩
    have eL : sgLen (f : Int) n = n + f / 2 % 2 + f % 2 := by unfold sgLen; rw [if_neg (by omega)]; omega
    have k2 : bits .and .i64 (f : Int) 2 = ((f / 2 % 2 * 2 : Nat) : Int) := by rw [← and_two]; exact and64 f 2 (by omega) (by omega)
    have k1 : bits .and .i64 (f : Int) 1 = ((f % 2 : Nat) : Int) := by rw [← Nat.and_one_is_mod]; exact and64 f 1 (by omega) (by omega)
    obtain ⟨a0, a1, a2, a3, a4, a5, a6, af⟩ := P2.cells
    clear af
    have HP := Lib.hid (segPut_any 1 2 sp dp sq ak (f : Int) wn A n c xs w2 (by omega) (by omega) hq ha (hr.below B2))
    have HE := Lib.hid hE
    have HL := Lib.hid hL
    have hc1 : f / 2 % 2 = 0 ∨ f / 2 % 2 = 1 := by omega
    have hc2 : f % 2 = 0 ∨ f % 2 = 1 := by omega
    have key : ∀ (p q : Nat), f / 2 % 2 = p → f % 2 = q → (p = 0 ∨ p = 1) → (q = 0 ∨ q = 1) → True := fun _ _ _ _ _ _ => trivial
    have kl : IntKind.i64.wrap (20 + (n : Int)) = 20 + (n : Int) := IntWalk.i64_in _ (by omega)
    have kq : ((20 + (n : Int)) == (20 + (n : Int))) = true := by simp
    clear hE hL key
    rcases hc1 with h1 | h1 <;> rcases hc2 with h2 | h2 <;> rw [h1] at k2 eL <;> rw [h2] at k1 eL
    all_goals
      go_wp2_with fail
      refine HP.out.mono ?_
      rintro e w3 ⟨A3, n3, c3, rfl, ho3, hb3⟩
      rw [HE.out]
      have hn3 : n3 = 20 + n := by rw [← ho3.len, HL.out]
      subst hn3
      clear a0 a1 a2 a3 a4 a5 a6
      obtain ⟨a0, a1, a2, a3, a4, a5, a6, af⟩ := (P2.below hb3 P2.lt).cells
      clear af
      go_wp2_with fail
      have hh := sgLen_any sp dp sq ak (f : Int) wn A n c w3 (by omega) (by omega)
      rw [eL] at hh
      refine hh.mono ?_
      clear hh
      rintro e w4 ⟨rfl, hb4⟩
      clear a0 a1 a2 a3 a4 a5 a6
      obtain ⟨a0, a1, a2, a3, a4, a5, a6, af⟩ := (P2.below (below_then hb3 hb4) P2.lt).cells
      clear af
      go_wp2_with fail
      refine (heads24 _).mono ?_
      rintro e w5 ⟨rfl, hb5⟩
      go_wp2
      go_ret
      exact ⟨rfl, below_then B2 (below_then hb3 (below_then hb4 hb5))⟩
end Go.Proofs.Ytndabecdfccjlaa
