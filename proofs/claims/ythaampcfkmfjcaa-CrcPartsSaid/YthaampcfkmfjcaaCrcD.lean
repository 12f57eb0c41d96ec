/-
  The walks of CrcHolds, CrcParts and CrcBurst.
-/
import Derived.Test.YthaampcfkmfjcaaCrcC
namespace Go.Proofs.Ythaampcfkmfjcaa
open Go.RowKit
set_option linter.unusedVariables false
set_option linter.unusedSimpArgs false

theorem crcHolds_law (A : Option Addr) (n c : Nat) (xs : List UInt8) (w : World) (hr : RdB w A n c xs) :
    Calls Try.prog 3 #[.slice A n c] w (RetV w (.bool true)) := by
  by_cases hn : 2000 < n
  · have hd : (2000 : Int) < (n : Int) := by omega
    go_enter Try.func3, Try.ntmps3
    go_wp2_with (go_at_call 15; refine (heads02 _).mono ?_; rintro e w1 ⟨rfl, hb1⟩)
    go_ret
    exact ⟨rfl, hb1⟩
  have hd : ¬ ((2000 : Int) < (n : Int)) := by omega
  have hn63 := hr.n63
  have hnc := hr.2.2.1
  go_enter Try.func3, Try.ntmps3
  go_wp2_with fail
  refine (closed_any _ _ _ xs _ hr (by omega)).mono ?_
  rintro e w1 ⟨A1, n1, c1, rfl, ho1, hb1⟩
  have hl1 : n1 = n + 4 := by rw [← ho1.len, ← hr.2.1]; simp [crcClosed, le4_length]
  have hc1 := ho1.rd.2.2.1
  subst hl1
  have k1 : (n : Int) ≤ (c1 : Int) := by omega
  have k2 : (0 : Int) ≤ (n : Int) := by omega
  go_wp2_with fail
  refine (holds_any _ _ _ _ _ ho1.rd (by omega)).mono ?_
  rintro e w2 ⟨rfl, hb2⟩
  have B2 := below_then hb1 hb2
  rw [crcHolds_closed]
  go_wp2_with fail
  have hx : (crcClosed xs).take n = xs := by rw [← hr.2.1]; simp [crcClosed]
  have hr2 := (ho1.rd.below hb2).take n (by omega)
  rw [hx] at hr2
  refine (bytes_any _ _ _ _ _ _ xs xs _ hr2 (hr.below B2)).mono ?_
  rintro e w3 ⟨rfl, rfl⟩
  rw [show decide (xs = xs) = true by simp]
  have HX := Lib.hid hx
  clear hx
  go_wp2_with fail
  refine (holds_any _ _ _ xs _ (hr.below B2) (by omega)).mono ?_
  rintro e w3 ⟨rfl, hb3⟩
  have B3 := below_then B2 hb3
  cases hh : crcHolds xs with
  | false =>
    have HH := Lib.hid hh
    clear hh
    go_wp2_with fail
    refine (heads02 _).mono ?_
    rintro e w4 ⟨rfl, hb4⟩
    go_wp2
    go_ret
    exact ⟨rfl, below_then B3 hb4⟩
  | true =>
    have h4 : 4 ≤ n := by
      have := hh
      unfold crcHolds at this
      rw [hr.2.1] at this
      simp at this
      exact this.1
    obtain ⟨m, rfl⟩ : ∃ m, n = m + 4 := ⟨n - 4, by omega⟩
    have hcl : crcClosed (xs.take m) = xs := by
      have h := crcHolds_as xs (by rw [hr.2.1]; exact h4)
      rw [hh, hr.2.1, show m + 4 - 4 = m by omega] at h
      simpa using h.symm
    have HC := Lib.hid hcl
    have HH := Lib.hid hh
    clear hcl hh
    have d1 : decide ((4 : Int) ≤ ((m + 4 : Nat) : Int)) = true := by simp; omega
    have d2 : decide ((4 : Int) ≤ (m : Int) + 4) = true := by simp; omega
    have d3 : decide ((0 : Int) ≤ (m : Int)) = true := by simp
    have k3 : (m : Int) ≤ (c : Int) := by omega
    have k5 : IntKind.i64.wrap (m : Int) = (m : Int) := IntWalk.i64_in _ (by omega)
    go_wp2_with fail
    refine (closed_any _ _ _ (xs.take m) _ ((hr.below B3).take m (by omega)) (by omega)).mono ?_
    rintro e w4 ⟨A4, n4, c4, rfl, ho4, hb4⟩
    have B4 := below_then B3 hb4
    go_wp2_with fail
    refine (bytes_any _ _ _ _ _ _ (crcClosed (xs.take m)) xs _ ho4.rd (hr.below B4)).mono ?_
    rintro e w5 ⟨rfl, rfl⟩
    rw [show decide (crcClosed (xs.take m) = xs) = true from decide_eq_true HC.out]
    go_wp2_with fail
    refine (heads02 _).mono ?_
    rintro e w5 ⟨rfl, hb5⟩
    go_wp2
    go_ret
    exact ⟨rfl, below_then B4 hb5⟩

def PartsI (m : Nat) (xs ys : List UInt8) (v i : Value) : Prop := ∃ k, k ≤ m ∧ i = .int .i64 (k : Nat) ∧ v = .int .u32 (crcReg 4294967295 (xs ++ ys.take k) : Nat)

theorem crcParts_law (A : Option Addr) (n c : Nat) (xs : List UInt8) (A' : Option Addr) (m d : Nat) (ys : List UInt8) (w : World) (hr : RdB w A n c xs) (hs : RdB w A' m d ys) :
    Calls Try.prog 5 #[.slice A n c, .slice A' m d] w (RetV w (.bool true)) := by
  have e0 := crcReg_lt xs 4294967295 (by omega)
  by_cases hbig : 1500 < n ∨ 1500 < m
  · by_cases hn : 1500 < n
    · have hd : decide ((1500 : Int) < (n : Int)) = true := by simp; omega
      go_enter Try.func5, Try.ntmps5
      go_wp2_with (go_at_call 15; refine (heads02 _).mono ?_; rintro e w1 ⟨rfl, hb1⟩)
      go_ret
      exact ⟨rfl, hb1⟩
    · have hd : decide ((1500 : Int) < (n : Int)) = false := by simp; omega
      have hd2 : decide ((1500 : Int) < (m : Int)) = true := by simp; omega
      go_enter Try.func5, Try.ntmps5
      go_wp2_with (go_at_call 15; refine (heads02 _).mono ?_; rintro e w1 ⟨rfl, hb1⟩)
      go_ret
      exact ⟨rfl, hb1⟩
  have hd : decide ((1500 : Int) < (n : Int)) = false := by simp; omega
  have hd2 : decide ((1500 : Int) < (m : Int)) = false := by simp; omega
  have hn63 := hs.n63
  go_enter Try.func5, Try.ntmps5
  go_wp2_with fail
  refine (crcOf_any _ _ _ xs _ hr).mono ?_
  rintro e w1 ⟨rfl, hb1⟩
  have e1 : bits .xor .u32 IntKind.u32.max (crcOf xs : Int) = (crcReg 4294967295 xs : Int) := by
    rw [not_u32 _ (crcOf_lt xs)]
    unfold crcOf
    rw [show 4294967295 - (4294967295 - crcReg 4294967295 xs) = crcReg 4294967295 xs by omega]
  go_wp2
  go_loop [5, 6] (PartsI m xs ys) (fun _ i => m - (intOf i).toNat)
  case atStart => exact ⟨0, Nat.zero_le _, rfl, by rw [List.take_zero, List.append_nil]⟩
  case round =>
    obtain ⟨k, hk, rfl, rfl⟩ := hrel
    by_cases hlt : k < m
    · obtain ⟨b, o, u, rfl, hb, hxk, hcell⟩ := (hs.below hb1).at_ k hlt
      have hst : crcReg 4294967295 (xs ++ ys.take (k + 1)) = crcNext (crcReg 4294967295 (xs ++ ys.take k)) u.toNat := by
        rw [List.take_add_one, hxk, ← List.append_assoc]; exact crcReg_snoc _ _ _
      have hy := crcReg_lt (xs ++ ys.take k) 4294967295 (by omega)
      have hu := u.toNat_lt
      have HS := Lib.hid hst
      clear hst hxk
      generalize hG : crcReg 4294967295 (xs ++ ys.take k) = R at *
      clear hG
      go_wp2_with (go_at_call 21; refine (crcNext_any _ _ hy hu _).mono ?_; rintro e w' ⟨rfl, rfl⟩)
      go_round
      case rel => exact ⟨k + 1, by omega, by go_num, by rw [HS.out]⟩
      case measure => simp [intOf] <;> omega
    · obtain rfl : k = m := by omega
      have hall : ys.take k = ys := List.take_of_length_le (by rw [hs.2.1]; omega)
      rw [hall]
      have hy := crcReg_lt (xs ++ ys) 4294967295 (by omega)
      have e5 := not_u32 _ hy
      have ho : crcOf (xs ++ ys) = 4294967295 - crcReg 4294967295 (xs ++ ys) := rfl
      generalize hG : crcReg 4294967295 (xs ++ ys) = R at *
      have HO := Lib.hid ho
      clear ho hall hG
      have hlen := hr.2.1
      have hlen2 := hs.2.1
      have HL := Lib.hid hlen
      have HL2 := Lib.hid hlen2
      clear hlen hlen2
      go_wp2_with (first
        | (at_builtin; refine wp_appB rfl _ _ rfl hb4 (Nat.le_refl _) hb4.size _ _ _ _ rfl ho4 _ _ _ _ rfl (hs.below (below_then hb1 hb4)) (by omega) _ _ rfl rfl ?_; intro A5 c5 w5 ho5 hb5 hg5)
        | (at_builtin; refine wp_appB rfl _ _ rfl ((below_self w1).alloc (Nat.le_refl _) _) (Nat.le_refl _) (by simp) _ _ _ _ rfl (own0 w1) _ _ _ _ rfl ((hr.below hb1).alloc _) (by omega) n xs (by omega) (by simp) ?_; intro A4 c4 w4 ho4 hb4 hg4))
      refine (crcOf_any _ _ _ _ _ ho5.rd).mono ?_
      rintro e w6 ⟨rfl, hb6⟩
      have B6 := below_then (below_then hb1 hb5) hb6
      rw [HO.out]
      go_wp2_with fail
      refine (heads02 _).mono ?_
      rintro e w7 ⟨rfl, hb7⟩
      go_wp2
      go_ret
      exact ⟨rfl, below_then B6 hb7⟩
end Go.Proofs.Ythaampcfkmfjcaa
