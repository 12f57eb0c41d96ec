/-
  The walks of package crc and of the reference of layer 2.
-/
import Derived.Test.YtnfepikgbdeomaaCrcMath
import Derived.Test.YtnfepikgbdeomaaSl
namespace Go.Proofs.Ytnfepikgbdeomaa
set_option maxRecDepth 20000
open Go.RowKit
set_option linter.unusedVariables false
set_option linter.unusedSimpArgs false

theorem crcNext_any (x c : Nat) (hx : x < 4294967296) (hc : c < 256) (w : World) :
    Calls Try.prog 170 #[.int .u32 x, .int .u8 c] w fun e w' => e = .returned (.int .u32 (crcNext x c)) ∧ w = w' := by
  have e1 := u32_xor_nat x c hx (by omega)
  have hlt : x ^^^ c < 4294967296 := Nat.xor_lt_two_pow (n := 32) (by omega) (by omega)
  have H := hlt
  go_enter Try.func170, Try.ntmps170
  go_wp2
  go_step3
  go_wp2
  go_step3
  go_wp2
  go_loop [0, 5] (fun a b => ∃ k y : Nat, k ≤ 8 ∧ y < 4294967296 ∧ crcBits k y = crcNext x c ∧ a = .int .u32 y ∧ b = .int .i64 k) (fun _ b => (intOf b).toNat)
  case atStart => exact ⟨8, _, Nat.le_refl _, hlt, rfl, rfl, rfl⟩
  case round =>
    obtain ⟨k, y, hk, hy, hr, rfl, rfl⟩ := hrel
    have HR := Lib.hid hr
    clear hr
    rcases Nat.eq_zero_or_pos k with rfl | hpos
    · go_wp2
      go_ret
      exact ⟨by rw [← HR.out]; rfl, rfl⟩
    · obtain ⟨j, rfl⟩ : ∃ j, k = j + 1 := ⟨k - 1, by omega⟩
      have hb : crcBit y < 4294967296 := crcBit_lt hy
      have e2 := u32_and_nat y 1 hy (by omega)
      rw [nat_mask1] at e2
      have k0 : (((j + 1 : Nat) : Int) == 0) = false := by simp; omega
      by_cases he : y % 2 = 0
      · have hB : crcBit y = y / 2 := by unfold crcBit; rw [if_pos he]
        have HB := Lib.hid hB
        have e3 : bits .and .u32 (y : Int) 1 = 0 := by rw [show (1 : Int) = ((1 : Nat) : Int) from rfl, e2, he]; rfl
        clear e2 hB he
        go_wp2
        go_round
        case rel => exact ⟨j, crcBit y, by omega, hb, HR.out, by rw [HB.out]; go_num, by go_num⟩
        case measure => simp [intOf] <;> omega
      · have hB : crcBit y = y / 2 ^^^ 2197175160 := by unfold crcBit; rw [if_neg he]
        have HB := Lib.hid hB
        have e3 : bits .and .u32 (y : Int) 1 = 1 := by rw [show (bits .and .u32 (y : Int) 1 : Int) = _ from e2, show y % 2 = 1 by omega]; rfl
        have e4 : bits .xor .u32 ((y : Int) / 2) 2197175160 = ((y / 2 ^^^ 2197175160 : Nat) : Int) := u32_xor_nat (y / 2) 2197175160 (by omega) (by omega)
        clear e2 hB he
        go_wp2
        go_round
        case rel => exact ⟨j, crcBit y, by omega, hb, HR.out, by rw [HB.out], by go_num⟩
        case measure => simp [intOf] <;> omega

theorem refNext_any (x c : Nat) (hx : x < 4294967296) (hc : c < 256) (w : World) :
    Calls Try.prog 130 #[.int .u32 x, .int .u8 c] w fun e w' => e = .returned (.int .u32 (crcNext x c)) ∧ w = w' := by
  have e1 := u32_xor_nat x c hx (by omega)
  have hlt : x ^^^ c < 4294967296 := Nat.xor_lt_two_pow (n := 32) (by omega) (by omega)
  have H := hlt
  go_enter Try.func130, Try.ntmps130
  go_wp2
  go_loop [0, 5] (fun a b => ∃ k y i : Nat, k + i = 8 ∧ y < 4294967296 ∧ crcBits k y = crcNext x c ∧ a = .int .u32 y ∧ b = .int .i64 i) (fun _ b => 8 - (intOf b).toNat)
  case atStart => exact ⟨8, _, 0, rfl, hlt, rfl, rfl, rfl⟩
  case round =>
    obtain ⟨k, y, i, hk, hy, hr, rfl, rfl⟩ := hrel
    have HR := Lib.hid hr
    have hk1 : k + i ≤ 8 := by omega
    have hk2 : 8 ≤ k + i := by omega
    clear hr hk
    rcases Nat.eq_zero_or_pos k with rfl | hpos
    · have hi : ¬ ((i : Int) < 8) := by omega
      go_wp2
      go_ret
      exact ⟨by rw [← HR.out]; rfl, rfl⟩
    · obtain ⟨j, rfl⟩ : ∃ j, k = j + 1 := ⟨k - 1, by omega⟩
      have hb : crcBit y < 4294967296 := crcBit_lt hy
      have hi : (i : Int) < 8 := by omega
      by_cases he : y % 2 = 0
      · have hB : crcBit y = y / 2 := by unfold crcBit; rw [if_pos he]
        have HB := Lib.hid hB
        have e3 : ((y : Int) % 2 == 1) = false := by simp; omega
        clear hB he
        go_wp2
        go_round
        case rel => exact ⟨j, crcBit y, i + 1, by omega, hb, HR.out, by rw [HB.out]; go_num, by go_num⟩
        case measure => simp [intOf] <;> omega
      · have hB : crcBit y = y / 2 ^^^ 2197175160 := by unfold crcBit; rw [if_neg he]
        have HB := Lib.hid hB
        have e3 : ((y : Int) % 2 == 1) = true := by simp; omega
        have e4 : bits .xor .u32 ((y : Int) / 2) 2197175160 = ((y / 2 ^^^ 2197175160 : Nat) : Int) := u32_xor_nat (y / 2) 2197175160 (by omega) (by omega)
        clear hB he
        go_wp2
        go_round
        case rel => exact ⟨j, crcBit y, i + 1, by omega, hb, HR.out, by rw [HB.out], by go_num⟩
        case measure => simp [intOf] <;> omega

/-! ### crc.Of -/
theorem not_u32 (r : Nat) (h : r < 4294967296) : bits .xor .u32 IntKind.u32.max (r : Int) = ((4294967295 - r : Nat) : Int) := by
  rw [show IntKind.u32.max = ((4294967295 : Nat) : Int) from by decide, u32_xor_nat _ _ (by omega) h, Nat.xor_comm, ← not_xor h]
def GoingI (g n x : Nat) (xs : List UInt8) (w : World) (i : Value) (wr : World) : Prop :=
  ∃ k, k ≤ n ∧ i = .int .i64 (k : Nat) ∧ wr.cell? ⟨g, 0, none⟩ = some (.int .u32 (crcReg x (xs.take k) : Nat)) ∧ wr.frozen? ⟨g, 0, none⟩ = false ∧ Below g w wr
def RetG (g : Nat) (w : World) (v : Value) (e : Ending) (w' : World) : Prop := e = .returned v ∧ Below g w w'

theorem going_any (A : Option Addr) (n c g x : Nat) (xs : List UInt8) (w : World) (hr : RdB w A n c xs) (hl : 0 < n → ∀ a, A = some a → a.block < g) (hx : x < 4294967296)
    (hc : w.cell? ⟨g, 0, none⟩ = some (.int .u32 x)) (hf : w.frozen? ⟨g, 0, none⟩ = false) :
    Calls Try.prog 169 #[.slice A n c, .pointer (some ⟨g, 0, none⟩)] w (RetG g w (.int .u32 ((4294967295 - crcReg x xs : Nat) : Int))) := by
  have hn63 : n ≤ 9223372036854775807 := by have := hr.2.2; unfold maxLen at this; omega
  go_enter Try.func169, Try.ntmps169
  go_wp2
  go_loopw [8] (GoingI g n x xs w) (fun i _ => n - (intOf i).toNat)
  case atStart => exact ⟨0, Nat.zero_le _, rfl, hc, hf, Below.refl _ _⟩
  case round =>
    obtain ⟨k, hk, rfl, hc1, hf1, hb1⟩ := hrel
    clear hc hf
    by_cases hlt : k < n
    · obtain ⟨b, o, u, rfl, hb, hxk, hcell⟩ := hr.at_ k hlt
      have hbg : b < g := hl (by omega) _ rfl
      have hcell1 : wr.cell? ⟨b, o + k, none⟩ = some (.int .u8 (u.toNat : Int)) := (hb1.cell (p := ⟨b, o + k, none⟩) hbg).trans hcell
      have hs : crcReg x (xs.take (k + 1)) = crcNext (crcReg x (xs.take k)) u.toNat := by
        rw [List.take_add_one, hxk]; exact crcReg_snoc _ _ _
      have hy := crcReg_lt (xs.take k) x hx
      have hu := u.toNat_lt
      have hne : ¬ (g = b) := by omega
      have HS := Lib.hid hs
      clear hs hxk hcell
      go_wp2_with (go_at_call 170; refine (crcNext_any _ _ hy hu _).mono ?_; rintro e w' ⟨rfl, rfl⟩)
      go_roundw
      case rel => exact ⟨k + 1, by omega, by go_num, by rw [HS.out]; simp [go_sem, hc1], by simpa [go_sem] using hf1, hb1.setCell (Nat.le_refl _) _⟩
      case measure => simp [intOf] <;> omega
    · obtain rfl : k = n := by omega
      have hall : xs.take k = xs := List.take_of_length_le (by rw [hr.2.1]; omega)
      rw [hall] at hc1
      have hy := crcReg_lt xs x hx
      have HA := Lib.hid hall
      clear hall
      have e5 := not_u32 _ hy
      go_wp2
      go_ret
      exact ⟨rfl, hb1⟩

theorem crcOf_any (A : Option Addr) (n c : Nat) (xs : List UInt8) (w : World) (hr : RdB w A n c xs) :
    Calls Try.prog 125 #[.slice A n c] w (RetV w (.int .u32 (crcOf xs : Nat))) := by
  go_enter Try.func125, Try.ntmps125
  go_wp2_with (first | (go_at_call 169; refine (going_any A n c _ 4294967295 xs _ (by exact hr.alloc _) hr.lt (by omega) (by simp) (by simp)).mono ?_; rintro e w' ⟨rfl, hb1⟩) | go_in)
  go_ret
  exact ⟨rfl, ((Below.refl _ _).alloc (Nat.le_refl _) _).trans hb1⟩

def OfI (n : Nat) (xs : List UInt8) (v i : Value) : Prop := ∃ k, k ≤ n ∧ i = .int .i64 (k : Nat) ∧ v = .int .u32 (crcReg 4294967295 (xs.take k) : Nat)
theorem refOf_any (A : Option Addr) (n c : Nat) (xs : List UInt8) (w : World) (hr : RdB w A n c xs) :
    Calls Try.prog 93 #[.slice A n c] w fun e w' => e = .returned (.int .u32 (crcOf xs : Nat)) ∧ w = w' := by
  have hn63 := hr.n63
  go_enter Try.func93, Try.ntmps93
  go_wp2
  go_loop [3, 4] (OfI n xs) (fun _ i => n - (intOf i).toNat)
  case atStart => exact ⟨0, Nat.zero_le _, rfl, rfl⟩
  case round =>
    obtain ⟨k, hk, rfl, rfl⟩ := hrel
    by_cases hlt : k < n
    · obtain ⟨b, o, u, rfl, hb, hxk, hcell⟩ := hr.at_ k hlt
      have hs : crcReg 4294967295 (xs.take (k + 1)) = crcNext (crcReg 4294967295 (xs.take k)) u.toNat := by
        rw [List.take_add_one, hxk]; exact crcReg_snoc _ _ _
      have hy := crcReg_lt (xs.take k) 4294967295 (by omega)
      have hu := u.toNat_lt
      have HS := Lib.hid hs
      clear hs hxk
      go_wp2_with (go_at_call 130; refine (refNext_any _ _ hy hu _).mono ?_; rintro e w' ⟨rfl, rfl⟩)
      go_round
      case rel => exact ⟨k + 1, by omega, by go_num, by rw [HS.out]⟩
      case measure => simp [intOf] <;> omega
    · obtain rfl : k = n := by omega
      have hall : xs.take k = xs := List.take_of_length_le (by rw [hr.2.1]; omega)
      rw [hall]
      have hy := crcReg_lt xs 4294967295 (by omega)
      have ho : crcOf xs = 4294967295 - crcReg 4294967295 xs := rfl
      have HO := Lib.hid ho
      clear ho hall
      go_wp2
      go_ret
      exact ⟨by rw [HO.out, Int.ofNat_sub (by omega)]; rfl, rfl⟩

theorem laid_any (s : Nat) (w : World) (hs : s < 4294967296) : Calls Try.prog 124 #[.int .u32 s] w (RetB w (le4 s)) := by
  go_enter Try.func124, Try.ntmps124
  go_wp2
  go_ret
  exact ⟨_, _, _, rfl, OwnB.lit w _ (le4 s) 4 (by simp [le4, vB]; omega) rfl (by simp [maxLen]), (Below.refl _ _).alloc (Nat.le_refl _) _⟩

theorem closed_any (A : Option Addr) (n c : Nat) (xs : List UInt8) (w : World) (hr : RdB w A n c xs) (hm : n ≤ 35184372088832) :
    Calls Try.prog 86 #[.slice A n c] w (RetB w (crcClosed xs)) := by
  have hlt := crcOf_lt xs
  go_enter Try.func86, Try.ntmps86
  go_wp2_with (first | (go_at_call 125; refine (crcOf_any A n c xs _ hr).mono ?_; rintro e w1 ⟨rfl, hb1⟩) | (go_at_call 124; refine (laid_any _ _ hlt).mono ?_; rintro e w2 ⟨A2, n2, c2, rfl, ho2, hb2⟩))
  have hlen : ([xs, le4 (crcOf xs)] : List (List UInt8)).flatten.length ≤ 70368744177664 := by have := hr.2.1; simp [le4_length]; omega
  have hbb := below_then hb1 hb2
  refine (concat_any _ _ _ [.slice A n c, .slice A2 n2 c2] [xs, le4 (crcOf xs)] _ (Rd.new w2 #[.slice A n c, .slice A2 n2 c2] _) rfl (by simp)
    ⟨⟨_, _, _, rfl, (hr.below hbb).alloc _⟩, ⟨_, _, _, rfl, ho2.rd.alloc _⟩, trivial⟩ hlen).mono ?_
  rintro e w3 ⟨A3, n3, c3, rfl, ho3, hb3⟩
  have hb : Below w.heap.size w w3 := below_then (hbb.alloc hbb.size _) hb3
  have hsz := hbb.size
  go_wp2
  go_ret
  exact ⟨_, _, _, rfl, OwnB.mono (by simpa [crcClosed] using ho3) (by omega), hb⟩
end Go.Proofs.Ytnfepikgbdeomaa
