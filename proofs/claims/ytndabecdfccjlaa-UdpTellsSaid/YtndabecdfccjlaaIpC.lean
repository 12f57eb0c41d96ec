/-
  Layer 20: what is carried is summed up; two bytes.
-/
import Derived.Test.YtndabecdfccjlaaIpB
namespace Go.Proofs.Ytndabecdfccjlaa
set_option maxRecDepth 20000
open Go.RowKit
set_option linter.unusedVariables false
set_option linter.unusedSimpArgs false

/-- What is summed ahead of what is carried. -/
def ipPs (src dst p n : Nat) : List UInt8 := [] ++ beB src 4 ++ beB dst 4 ++ beB p 2 ++ beB n 2
theorem ipPs_length (src dst p n : Nat) : (ipPs src dst p n).length = 12 := by simp [ipPs, beB_length]
def ipSumN (src dst : Nat) (proto : Int) (xs : List UInt8) : Nat := numCheck (ipPs src dst (proto % 256).toNat xs.length ++ xs)
theorem ipSumN_lt (src dst : Nat) (proto : Int) (xs : List UInt8) : ipSumN src dst proto xs < 65536 := by unfold ipSumN numCheck; omega

theorem ipSum_any (src dst : Nat) (proto : Int) (A : Option Addr) (n c : Nat) (xs : List UInt8) (w : World) (hsrc : src < 4294967296) (hdst : dst < 4294967296) (hr : RdB w A n c xs) (hn : n ≤ 1000000) :
    Calls Try.prog 49 #[.int .u32 src, .int .u32 dst, .int .i64 proto, .slice A n c] w (RetV w (.int .u16 (ipSumN src dst proto xs : Nat))) := by
  have hl := hr.2.1
  obtain ⟨p, hp⟩ : ∃ p, p = (proto % 256).toNat := ⟨_, rfl⟩
  have hp8 : p < 256 := by omega
  have hp1 : IntKind.u8.wrap proto = (p : Int) := by rw [IntKind.wrap_u8]; omega
  have hp2 : proto % 256 = (p : Int) := by omega
  have hS : ipSumN src dst proto xs = numCheck (ipPs src dst p n ++ xs) := by unfold ipSumN; rw [← hp, hl]
  rw [hS]
  have cl2 : clamp 2 = 2 := rfl
  have cl4 : clamp 4 = 4 := rfl
  have HC2 := Lib.hid cl2
  have HC4 := Lib.hid cl4
  clear hS hp cl2 cl4 hl
  go_enter Try.func49, Try.ntmps49
  go_wp2_with (go_at_call 81; go_in)
  refine named ?_
  intro W3 hW3
  have bW3 : Below w.heap.size w W3 := by rw [hW3]; repeat' (first | exact Below.refl _ _ | (refine Below.alloc ?_ ?_ _; rotate_left; (simp <;> omega)) | refine Below.drew ?_)
  have zW3 := bW3.size
  have b3 : BldAt w W3 w.heap.size (w.heap.size + 1) [] := by rw [hW3]; exact bld0 ..
  have HW3 := Lib.hid hW3
  clear hW3
  refine (builder1_any src 4 w _ _ _ _ (by omega) (by simp [beB_length]) b3).mono ?_
  rintro e w4 ⟨rfl, b4⟩
  rw [HC4.out] at b4
  go_wp2_with fail
  refine (builder1_any dst 4 w _ _ _ _ (by omega) (by simp [beB_length]) b4).mono ?_
  rintro e w5 ⟨rfl, b5⟩
  rw [HC4.out] at b5
  go_wp2_with fail
  refine (builder1_any p 2 w _ _ _ _ (by omega) (by simp [beB_length]) b5).mono ?_
  rintro e w6 ⟨rfl, b6⟩
  rw [HC2.out] at b6
  go_wp2_with fail
  refine (builder1_any n 2 w _ _ _ _ (by omega) (by simp [beB_length]) b6).mono ?_
  rintro e w7 ⟨rfl, b7⟩
  rw [HC2.out] at b7
  have H : BldAt w w7 w.heap.size (w.heap.size + 1) (ipPs src dst p n) := b7
  obtain ⟨h1, h2, h3, h4, h5, h6, A4, n4, c4, h7, h8⟩ := H
  have hn4 : n4 = 12 := by rw [← h8.len, ipPs_length]
  subst hn4
  go_wp2_with (at_builtin; refine wp_appB rfl _ _ rfl h1 (by omega) (by omega) _ _ _ _ rfl h8 _ _ _ _ rfl (hr.below h1) (by omega) (12 + n) (ipPs src dst p n ++ xs) rfl rfl ?_; intro A16 c16 w16 ho16 hb16 hg16)
  refine (numCheck_any _ _ _ _ _ ho16.rd).mono ?_
  rintro e w17 ⟨rfl, rfl⟩
  go_wp2
  go_ret
  exact ⟨rfl, hb16⟩

theorem two_any (x : Nat) (w : World) (hx : x < 9223372036854775808) :
    Calls Try.prog 87 #[.int .i64 x] w (RetB w (beB x 2)) := by
  have cl2 : clamp 2 = 2 := rfl
  have HC2 := Lib.hid cl2
  clear cl2
  go_enter Try.func87, Try.ntmps87
  go_wp2_with fail
  refine (refBe_any x 2 _ (by omega)).mono ?_
  rintro e w1 ⟨A1, n1, c1, rfl, ho1, hb1⟩
  rw [HC2.out] at ho1
  go_wp2
  go_ret
  exact ⟨_, _, _, rfl, ho1, hb1⟩

theorem beB_p (p : Nat) (h : p < 256) : beB p 2 = [0, UInt8.ofNat p] := by
  rw [beB_two, show p / 256 = 0 by omega]; rfl
theorem refSum20_any (src dst : Nat) (proto : Int) (A : Option Addr) (n c : Nat) (xs : List UInt8) (w : World) (hsrc : src < 4294967296) (hdst : dst < 4294967296) (hr : RdB w A n c xs) (hn : n ≤ 900000) :
    Calls Try.prog 61 #[.int .u32 src, .int .u32 dst, .int .i64 proto, .slice A n c] w (RetV w (.int .u16 (ipSumN src dst proto xs : Nat))) := by
  have hl := hr.2.1
  obtain ⟨p, hp⟩ : ∃ p, p = (proto % 256).toNat := ⟨_, rfl⟩
  have hp8 : p < 256 := by omega
  have hp1 : IntKind.u8.wrap proto = (p : Int) := by rw [IntKind.wrap_u8]; omega
  have hp2 : proto % 256 = (p : Int) := by omega
  have hS : ipSumN src dst proto xs = numCheck (ipPs src dst p n ++ xs) := by unfold ipSumN; rw [← hp, hl]
  rw [hS]
  have cl4 : clamp 4 = 4 := rfl
  have HC4 := Lib.hid cl4
  have HBP := Lib.hid (beB_p p hp8)
  clear hS hp cl4 hl
  go_enter Try.func61, Try.ntmps61
  go_wp2_with fail
  refine (refBe_any src 4 _ (by omega)).mono ?_
  rintro e w1 ⟨A1, n1, c1, rfl, ho1, hb1⟩
  rw [HC4.out] at ho1
  have hn1 : n1 = 4 := by rw [← ho1.len, beB_length]
  subst hn1
  go_wp2_with fail
  refine (refBe_any dst 4 _ (by omega)).mono ?_
  rintro e w2 ⟨A2, n2, c2, rfl, ho2, hb2⟩
  rw [HC4.out] at ho2
  have hn2 : n2 = 4 := by rw [← ho2.len, beB_length]
  subst hn2
  have B2 := below_then hb1 hb2
  have ho1' := ho1.below hb2
  have z1 := hb1.size
  have z2 := hb2.size
  go_wp2_with (first
    | (at_builtin; refine wp_appB rfl _ _ rfl (hb3.alloc hb3.size _) (by omega) (by have := hb3.size; simp; omega) _ _ _ _ rfl (ho3.alloc _) _ 2 2 [0, UInt8.ofNat p] rfl (rdK rfl _ _ _ (by simp [vB]; omega) rfl (by simp [maxLen])) (by omega) 10 (beB src 4 ++ beB dst 4 ++ [0, UInt8.ofNat p]) rfl rfl ?_; intro A4 c4 w4 ho4 hb4 hg4)
    | (at_builtin; refine wp_appB rfl _ _ rfl B2 (Nat.le_refl _) (by omega) _ _ _ _ rfl ho1' _ _ _ _ rfl ho2.rd (by omega) 8 (beB src 4 ++ beB dst 4) rfl rfl ?_; intro A3 c3 w3 ho3 hb3 hg3))
  refine (two_any n _ (by omega)).mono ?_
  rintro e w5 ⟨A5, n5, c5, rfl, ho5, hb5⟩
  have hn5 : n5 = 2 := by rw [← ho5.len, beB_length]
  subst hn5
  have B5 := below_then hb4 hb5
  have ho4' := ho4.below hb5
  have z4 := hb4.size
  have z5 := hb5.size
  go_wp2_with (first
    | (at_builtin; refine wp_appB rfl _ _ rfl hb6 (Nat.le_refl _) hb6.size _ _ _ _ rfl ho6 _ _ _ _ rfl (hr.below hb6) (by omega) (12 + n) (ipPs src dst p n ++ xs) rfl (by unfold ipPs; rw [HBP.out]; simp) ?_; intro A7 c7 w7 ho7 hb7 hg7)
    | (at_builtin; refine wp_appB rfl _ _ rfl B5 (Nat.le_refl _) (by omega) _ _ _ _ rfl ho4' _ _ _ _ rfl ho5.rd (by omega) 12 (beB src 4 ++ beB dst 4 ++ [0, UInt8.ofNat p] ++ beB n 2) rfl rfl ?_; intro A6 c6 w6 ho6 hb6 hg6))
  refine (refNumCheck_any _ _ _ _ _ ho7.rd (by omega)).mono ?_
  rintro e w8 ⟨rfl, rfl⟩
  go_wp2
  go_ret
  exact ⟨rfl, hb7⟩
end Go.Proofs.Ytndabecdfccjlaa
