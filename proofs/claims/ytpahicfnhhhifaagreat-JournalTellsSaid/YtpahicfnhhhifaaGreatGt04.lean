/-
 Proved here, for the statement JournalTells:
 The walks of package crc and of the reference of layer 2.
 The walks of crc.Holds, of the reference's Closed and Holds, and of the page's B
-/
import Derived.RegionTactic
import Derived.ChangeAlike
import Derived.Test.YtpahicfnhhhifaaGreatGt02
set_option linter.unusedVariables false
set_option linter.unusedSimpArgs false
namespace Go.Proofs.YtpahicfnhhhifaaGreat
set_option maxRecDepth 20000
open Go.RowKit
theorem crcNext_any (x c : Nat) (hx : x < 4294967296) (hc : c < 256) (w : World) :
  Calls Tryz.prog 159 #[.int .u32 x, .int .u8 c] w fun e w' => e = .returned (.int .u32 (crcNext x c)) ∧ w = w' := by
 have e1 := u32_xor_nat x c hx (by omega)
 have hlt : x ^^^ c < 4294967296 := Nat.xor_lt_two_pow (n := 32) (by omega) (by omega)
 have H := hlt
 go_enter Tryz.func159, Tryz.ntmps159
 go_wp2
 go_step3
 go_wp2
 go_step3
 go_wp2
 go_loop [0, 5] (fun a b => ∃ k y : Nat, k ≤ 8 ∧ y < 4294967296 ∧ crcBits k y = crcNext x c ∧ a = .int .u32 y ∧ b = .int .i64 k) (fun _ b => (intOf b).toNat)
 case atStart => exact ⟨8, _, Nat.le_refl _, hlt, rfl, rfl, rfl⟩
 case round =>
  obtain ⟨k, y, hk, hy, hr, rfl, rfl⟩ := hrel
  have HR := Lib.hid hr
  clear hr
  rcases Nat.eq_zero_or_pos k with rfl | hpos
  ·go_wp2
   go_ret
   exact ⟨by rw [← HR.out]; rfl, rfl⟩
  ·obtain ⟨j, rfl⟩ : ∃ j, k = j + 1 := ⟨k - 1, by omega⟩
   have hb : crcBit y < 4294967296 := crcBit_lt hy
   have e2 := u32_and_nat y 1 hy (by omega)
   rw [nat_mask1] at e2
   have k0 : (((j + 1 : Nat) : Int) == 0) = false := by simp; omega
   by_cases he : y % 2 = 0
   ·have hB : crcBit y = y / 2 := by unfold crcBit; rw [if_pos he]
    have HB := Lib.hid hB
    have e3 : bits .and .u32 (y : Int) 1 = 0 := by rw [show (1 : Int) = ((1 : Nat) : Int) from rfl, e2, he]; rfl
    clear e2 hB he
    go_wp2
    go_round
    case rel => exact ⟨j, crcBit y, by omega, hb, HR.out, by rw [HB.out]; go_num, by go_num⟩
    case measure => simp [intOf] <;> omega
   ·have hB : crcBit y = y / 2 ^^^ 2197175160 := by unfold crcBit; rw [if_neg he]
    have HB := Lib.hid hB
    have e3 : bits .and .u32 (y : Int) 1 = 1 := by rw [show (bits .and .u32 (y : Int) 1 : Int) = _ from e2, show y % 2 = 1 by omega]; rfl
    have e4 : bits .xor .u32 ((y : Int) / 2) 2197175160 = ((y / 2 ^^^ 2197175160 : Nat) : Int) := u32_xor_nat (y / 2) 2197175160 (by omega) (by omega)
    clear e2 hB he
    go_wp2
    go_round
    case rel => exact ⟨j, crcBit y, by omega, hb, HR.out, by rw [HB.out], by go_num⟩
    case measure => simp [intOf] <;> omega
theorem refNext_any (x c : Nat) (hx : x < 4294967296) (hc : c < 256) (w : World) :
  Calls Tryz.prog 153 #[.int .u32 x, .int .u8 c] w fun e w' => e = .returned (.int .u32 (crcNext x c)) ∧ w = w' := by
 have e1 := u32_xor_nat x c hx (by omega)
 have hlt : x ^^^ c < 4294967296 := Nat.xor_lt_two_pow (n := 32) (by omega) (by omega)
 have H := hlt
 go_enter Tryz.func153, Tryz.ntmps153
 go_wp2
 go_loop [0, 5] (fun a b => ∃ k y i : Nat, k + i = 8 ∧ y < 4294967296 ∧ crcBits k y = crcNext x c ∧ a = .int .u32 y ∧ b = .int .i64 i) (fun _ b => 8 - (intOf b).toNat)
 case atStart => exact ⟨8, _, 0, rfl, hlt, rfl, rfl, rfl⟩
 case round =>
  obtain ⟨k, y, i, hk, hy, hr, rfl, rfl⟩ := hrel
  have HR := Lib.hid hr
  have hk1 : k + i ≤ 8 := by omega
  have hk2 : 8 ≤ k + i := by omega
  clear hr hk
  rcases Nat.eq_zero_or_pos k with rfl | hpos
  ·have hi : ¬ ((i : Int) < 8) := by omega
   go_wp2
   go_ret
   exact ⟨by rw [← HR.out]; rfl, rfl⟩
  ·obtain ⟨j, rfl⟩ : ∃ j, k = j + 1 := ⟨k - 1, by omega⟩
   have hb : crcBit y < 4294967296 := crcBit_lt hy
   have hi : (i : Int) < 8 := by omega
   by_cases he : y % 2 = 0
   ·have hB : crcBit y = y / 2 := by unfold crcBit; rw [if_pos he]
    have HB := Lib.hid hB
    have e3 : ((y : Int) % 2 == 1) = false := by simp; omega
    clear hB he
    go_wp2
    go_round
    case rel => exact ⟨j, crcBit y, i + 1, by omega, hb, HR.out, by rw [HB.out]; go_num, by go_num⟩
    case measure => simp [intOf] <;> omega
   ·have hB : crcBit y = y / 2 ^^^ 2197175160 := by unfold crcBit; rw [if_neg he]
    have HB := Lib.hid hB
    have e3 : ((y : Int) % 2 == 1) = true := by simp; omega
    have e4 : bits .xor .u32 ((y : Int) / 2) 2197175160 = ((y / 2 ^^^ 2197175160 : Nat) : Int) := u32_xor_nat (y / 2) 2197175160 (by omega) (by omega)
    clear hB he
    go_wp2
    go_round
    case rel => exact ⟨j, crcBit y, i + 1, by omega, hb, HR.out, by rw [HB.out], by go_num⟩
    case measure => simp [intOf] <;> omega
theorem not_u32 (r : Nat) (h : r < 4294967296) : bits .xor .u32 IntKind.u32.max (r : Int) = ((4294967295 - r : Nat) : Int) := by
 rw [show IntKind.u32.max = ((4294967295 : Nat) : Int) from by decide, u32_xor_nat _ _ (by omega) h, Nat.xor_comm, ← not_xor h]
def GoingI (g n x : Nat) (xs : List UInt8) (w : World) (i : Value) (wr : World) : Prop :=
 ∃ k, k ≤ n ∧ i = .int .i64 (k : Nat) ∧ wr.cell? ⟨g, 0, none⟩ = some (.int .u32 (crcReg x (xs.take k) : Nat)) ∧ wr.frozen? ⟨g, 0, none⟩ = false ∧ Below g w wr
def RetG (g : Nat) (w : World) (v : Value) (e : Ending) (w' : World) : Prop := e = .returned v ∧ Below g w w'
theorem going_any (A : Option Addr) (n c g x : Nat) (xs : List UInt8) (w : World) (hr : RdB w A n c xs) (hl : 0 < n → ∀ a, A = some a → a.block < g) (hx : x < 4294967296)
  (hc : w.cell? ⟨g, 0, none⟩ = some (.int .u32 x)) (hf : w.frozen? ⟨g, 0, none⟩ = false) :
  Calls Tryz.prog 158 #[.slice A n c, .pointer (some ⟨g, 0, none⟩)] w (RetG g w (.int .u32 ((4294967295 - crcReg x xs : Nat) : Int))) := by
 have hn63 : n ≤ 9223372036854775807 := by have := hr.2.2; unfold maxLen at this; omega
 go_enter Tryz.func158, Tryz.ntmps158
 go_wp2
 go_loopw [8] (GoingI g n x xs w) (fun i _ => n - (intOf i).toNat)
 case atStart => exact ⟨0, Nat.zero_le _, rfl, hc, hf, Below.refl _ _⟩
 case round =>
  obtain ⟨k, hk, rfl, hc1, hf1, hb1⟩ := hrel
  clear hc hf
  by_cases hlt : k < n
  ·obtain ⟨b, o, u, rfl, hb, hxk, hcell⟩ := hr.at_ k hlt
   have hbg : b < g := hl (by omega) _ rfl
   have hcell1 : wr.cell? ⟨b, o + k, none⟩ = some (.int .u8 (u.toNat : Int)) := (hb1.cell (p := ⟨b, o + k, none⟩) hbg).trans hcell
   have hs : crcReg x (xs.take (k + 1)) = crcNext (crcReg x (xs.take k)) u.toNat := by
    rw [List.take_add_one, hxk]; exact crcReg_snoc _ _ _
   have hy := crcReg_lt (xs.take k) x hx
   have hu := u.toNat_lt
   have hne : ¬ (g = b) := by omega
   have HS := Lib.hid hs
   clear hs hxk hcell
   go_wp2_with (go_at_call 159; refine (crcNext_any _ _ hy hu _).mono ?_; rintro e w' ⟨rfl, rfl⟩)
   go_roundw
   case rel => exact ⟨k + 1, by omega, by go_num, by rw [HS.out]; simp [go_sem, hc1], by simpa [go_sem] using hf1, hb1.setCell (Nat.le_refl _) _⟩
   case measure => simp [intOf] <;> omega
  ·obtain rfl : k = n := by omega
   have hall : xs.take k = xs := List.take_of_length_le (by rw [hr.2.1]; omega)
   rw [hall] at hc1
   have hy := crcReg_lt xs x hx
   have HA := Lib.hid hall
   clear hall
   have e5 := not_u32 _ hy
   go_wp2
   go_ret
   exact ⟨rfl, hb1⟩
theorem crcOf_any (A : Option Addr) (n c : Nat) (xs : List UInt8) (w : World) (hr : RdB w A n c xs) :
  Calls Tryz.prog 130 #[.slice A n c] w (RetV w (.int .u32 (crcOf xs : Nat))) := by
 go_enter Tryz.func130, Tryz.ntmps130
 go_wp2_with (first | (go_at_call 158; refine (going_any A n c _ 4294967295 xs _ (by exact hr.alloc _) hr.lt (by omega) (by simp) (by simp)).mono ?_; rintro e w' ⟨rfl, hb1⟩) | go_in)
 go_ret
 exact ⟨rfl, ((Below.refl _ _).alloc (Nat.le_refl _) _).trans hb1⟩
def OfI (n : Nat) (xs : List UInt8) (v i : Value) : Prop := ∃ k, k ≤ n ∧ i = .int .i64 (k : Nat) ∧ v = .int .u32 (crcReg 4294967295 (xs.take k) : Nat)
theorem refOf_any (A : Option Addr) (n c : Nat) (xs : List UInt8) (w : World) (hr : RdB w A n c xs) :
  Calls Tryz.prog 132 #[.slice A n c] w fun e w' => e = .returned (.int .u32 (crcOf xs : Nat)) ∧ w = w' := by
 have hn63 := hr.n63
 go_enter Tryz.func132, Tryz.ntmps132
 go_wp2
 go_loop [3, 4] (OfI n xs) (fun _ i => n - (intOf i).toNat)
 case atStart => exact ⟨0, Nat.zero_le _, rfl, rfl⟩
 case round =>
  obtain ⟨k, hk, rfl, rfl⟩ := hrel
  by_cases hlt : k < n
  ·obtain ⟨b, o, u, rfl, hb, hxk, hcell⟩ := hr.at_ k hlt
   have hs : crcReg 4294967295 (xs.take (k + 1)) = crcNext (crcReg 4294967295 (xs.take k)) u.toNat := by
    rw [List.take_add_one, hxk]; exact crcReg_snoc _ _ _
   have hy := crcReg_lt (xs.take k) 4294967295 (by omega)
   have hu := u.toNat_lt
   have HS := Lib.hid hs
   clear hs hxk
   go_wp2_with (go_at_call 153; refine (refNext_any _ _ hy hu _).mono ?_; rintro e w' ⟨rfl, rfl⟩)
   go_round
   case rel => exact ⟨k + 1, by omega, by go_num, by rw [HS.out]⟩
   case measure => simp [intOf] <;> omega
  ·obtain rfl : k = n := by omega
   have hall : xs.take k = xs := List.take_of_length_le (by rw [hr.2.1]; omega)
   rw [hall]
   have hy := crcReg_lt xs 4294967295 (by omega)
   have ho : crcOf xs = 4294967295 - crcReg 4294967295 xs := rfl
   have HO := Lib.hid ho
   clear ho hall
   go_wp2
   go_ret
   exact ⟨by rw [HO.out, Int.ofNat_sub (by omega)]; rfl, rfl⟩
theorem laid_any (s : Nat) (w : World) (hs : s < 4294967296) : Calls Tryz.prog 129 #[.int .u32 s] w (RetB w (le4 s)) := by
 go_enter Tryz.func129, Tryz.ntmps129
 go_wp2
 go_ret
 exact ⟨_, _, _, rfl, OwnB.lit w _ (le4 s) 4 (by simp [le4, vB]; omega) rfl (by simp [maxLen]), (Below.refl _ _).alloc (Nat.le_refl _) _⟩
theorem closed_any (A : Option Addr) (n c : Nat) (xs : List UInt8) (w : World) (hr : RdB w A n c xs) (hm : n ≤ 35184372088832) :
  Calls Tryz.prog 91 #[.slice A n c] w (RetB w (crcClosed xs)) := by
 have hlt := crcOf_lt xs
 go_enter Tryz.func91, Tryz.ntmps91
 go_wp2_with (first | (go_at_call 130; refine (crcOf_any A n c xs _ hr).mono ?_; rintro e w1 ⟨rfl, hb1⟩) | (go_at_call 129; refine (laid_any _ _ hlt).mono ?_; rintro e w2 ⟨A2, n2, c2, rfl, ho2, hb2⟩))
 have hlen : ([xs, le4 (crcOf xs)] : List (List UInt8)).flatten.length ≤ 70368744177664 := by have := hr.2.1; simp [le4_length]; omega
 have hbb := below_then hb1 hb2
 refine (concat_any _ _ _ [.slice A n c, .slice A2 n2 c2] [xs, le4 (crcOf xs)] _ (Rd.new w2 #[.slice A n c, .slice A2 n2 c2] _) rfl (by simp)
  ⟨⟨_, _, _, rfl, (hr.below hbb).alloc _⟩, ⟨_, _, _, rfl, ho2.rd.alloc _⟩, trivial⟩ hlen).mono ?_
 rintro e w3 ⟨A3, n3, c3, rfl, ho3, hb3⟩
 have hb : Below w.heap.size w w3 := below_then (hbb.alloc hbb.size _) hb3
 have hsz := hbb.size
 go_wp2
 go_ret
 exact ⟨_, _, _, rfl, OwnB.mono (by simpa [crcClosed] using ho3) (by omega), hb⟩
theorem holds_short (A : Option Addr) (n c : Nat) (w : World) (h : n < 4) :
  Calls Tryz.prog 145 #[.slice A n c] w (RetV w (.bool false)) := by
 have hd : decide ((4 : Int) ≤ (n : Int)) = false := by simp; omega
 go_enter Tryz.func145, Tryz.ntmps145
 go_wp2_with fail
 go_quiet (fail)
 go_wp2
 go_ret
 exact ⟨rfl, by simpa using below_drewN (Below.refl _ w) _⟩
theorem holds_long (A : Option Addr) (n c : Nat) (xs : List UInt8) (w : World) (hr : RdB w A n c xs) (hm : n ≤ 35184372088832) (h : 4 ≤ n) :
  Calls Tryz.prog 145 #[.slice A n c] w (RetV w (.bool (crcHolds xs))) := by
 have hres : crcHolds xs = decide (le4 (crcOf (xs.take (n - 4))) = xs.drop (n - 4)) := by
  unfold crcHolds
  rw [hr.2.1, decide_eq_true h, Bool.true_and]
  congr 1
  exact propext ⟨Eq.symm, Eq.symm⟩
 obtain ⟨m, rfl⟩ : ∃ m, n = m + 4 := ⟨n - 4, by omega⟩
 rw [show m + 4 - 4 = m by omega] at hres
 have hd : decide ((0 : Int) ≤ ((m + 4 : Nat) : Int) - 4) = true := by simp
 have hc := hr.2.2.1
 have hr1 := hr.take m (by omega)
 have hr2 := hr.cut m 4 rfl (by omega)
 have hlt := crcOf_lt (xs.take m)
 have k0 : (0 : Int) ≤ (m : Int) := by omega
 have k1 : (m : Int) ≤ (c : Int) := by omega
 have k2 : (m : Int) ≤ (m : Int) + 4 := by omega
 have k3 : (m : Int) + 4 ≤ (c : Int) := by omega
 have k4 : ¬ (c = m) := by omega
 have HR := Lib.hid hres
 clear hres
 go_enter Tryz.func145, Tryz.ntmps145
 go_wp2_with fail
 go_region_held3 (fun _ => True) (trivial) (first
  | (go_at_call 130; refine (crcOf_any A m c _ _ (by exact hr1)).mono ?_; rintro e w1 ⟨rfl, hb1⟩)
  | (go_at_call 129; refine (laid_any _ _ hlt).mono ?_; rintro e w2 ⟨A2, n2, c2, rfl, ho2, hb2⟩)
  | (go_at_call 156; refine (equal_any _ _ _ _ _ _ _ _ _ (by exact ho2.rd) (by exact (hr2.drew.below hb1).below hb2)).mono ?_; rintro e w3 ⟨rfl, q, rfl⟩))
 go_wp2
 go_ret
 rw [HR.out]
 exact ⟨rfl, below_drewN (undrew (below_then hb1 hb2)) _⟩
theorem holds_any (A : Option Addr) (n c : Nat) (xs : List UInt8) (w : World) (hr : RdB w A n c xs) (hm : n ≤ 35184372088832) :
  Calls Tryz.prog 145 #[.slice A n c] w (RetV w (.bool (crcHolds xs))) := by
 by_cases h : 4 ≤ n
 ·exact holds_long A n c xs w hr hm h
 ·have e : crcHolds xs = false := by unfold crcHolds; rw [hr.2.1, decide_eq_false h, Bool.false_and]
  rw [e]
  exact holds_short A n c w (by omega)
theorem refClosed_any (A : Option Addr) (n c : Nat) (xs : List UInt8) (w : World) (hr : RdB w A n c xs) (hm : n ≤ 35184372088832) :
  Calls Tryz.prog 95 #[.slice A n c] w (RetB w (crcClosed xs)) := by
 have hlt := crcOf_lt xs
 have hlen := hr.2.1
 have HL := Lib.hid hlen
 clear hlen
 have hown := World.ownsRow_lit (size := 1) (e := 5) w #[] 0 (Nat.le_refl _) (by simp [maxLen]) rfl
 go_enter Tryz.func95, Tryz.ntmps95
 have arm : ∀ (w4 : World) (A4 : Option Addr) (c4 : Nat), w4.ownsRow w.heap.size 5 1 (.slice A4 (0 + n) c4) (0 + n) ([] ++ xs.map vB) → (w4.alloc (.cells #[.int .u8 ((crcOf xs : Int) % 256), .int .u8 ((crcOf xs : Int) / 256 % 256), .int .u8 ((crcOf xs : Int) / 65536 % 256), .int .u8 ((crcOf xs : Int) / 16777216)] 5)).ownsRow w.heap.size 5 1 (.slice A4 n c4) n (xs.map vB) :=
  fun w4 A4 c4 h => by simpa using h.alloc _
 have hl4 : ∀ (w4 : World), Rd (w4.alloc (.cells #[.int .u8 ((crcOf xs : Int) % 256), .int .u8 ((crcOf xs : Int) / 256 % 256), .int .u8 ((crcOf xs : Int) / 65536 % 256), .int .u8 ((crcOf xs : Int) / 16777216)] 5)) (some ⟨w4.heap.size, 0, none⟩) ((le4 (crcOf xs)).map vB) := fun w4 => by
  have h := Rd.new w4 #[.int .u8 ((crcOf xs : Int) % 256), .int .u8 ((crcOf xs : Int) / 256 % 256), .int .u8 ((crcOf xs : Int) / 65536 % 256), .int .u8 ((crcOf xs : Int) / 16777216)] 5
  have e : ((le4 (crcOf xs)).map vB) = [.int .u8 ((crcOf xs : Int) % 256), .int .u8 ((crcOf xs : Int) / 256 % 256), .int .u8 ((crcOf xs : Int) / 65536 % 256), .int .u8 ((crcOf xs : Int) / 16777216)] := by
   simp [le4, vB]; omega
  rw [e]
  exact h
 have hbs : ∀ (w4 : World), (w.alloc (.cells #[] 5)).grownBy w4 (some w.heap.size) → w.heap.size ≤ w4.heap.size := fun w4 h => by have := h.size; simp at this; omega
 go_wp2_with (first
  | (go_at_call 132; refine (refOf_any A n c xs _ hr).mono ?_; rintro e w1 ⟨rfl, rfl⟩)
  | (at_builtin; refine wp_app rfl _ _ 47 5 rfl elemB _ _ n _ rfl (arm _ _ _ ho4) _ 4 4 _ rfl (hl4 _) rfl (oneCell_vB _) (by unfold maxLen; omega) (by omega) (by have := hbs _ hg4; simp; omega) ?_; intro A5 c5 w5 ho5 hg5)
  | (at_builtin; refine wp_app rfl _ _ 47 5 rfl elemB _ _ 0 _ rfl hown _ n c _ rfl (hr.1.alloc _) (by simpa using HL.out) (oneCell_vB _) (by unfold maxLen; omega) (by omega) (by simp) ?_; intro A4 c4 w4 ho4 hg4))
 have hb4 : Below w.heap.size w w4 := ((Below.refl _ _).alloc (Nat.le_refl _) _).grown hg4 (by simp) (fun q hq => (hown.lt q hq).1)
 have hb5 : Below w.heap.size w w5 := (hb4.alloc hb4.size _).grown hg5 (by have := hb4.size; simp; omega) (fun q hq => ((arm _ _ _ ho4).lt q hq).1)
 go_wp2
 go_ret
 exact ⟨_, _, _, rfl, by unfold OwnB; rw [crcClosed, List.map_append]; exact ho5, hb5⟩
end Go.Proofs.YtpahicfnhhhifaaGreat
namespace Go.Proofs.YtpahicfnhhhifaaGreat
set_option maxRecDepth 20000
def leB (n size : Nat) : List UInt8 := (List.range size).map fun i => UInt8.ofNat (n / 256 ^ i)
def beB (n size : Nat) : List UInt8 := (leB n size).reverse
def clamp (s : Int) : Nat := if s < 0 then 0 else if 8 < s then 8 else s.toNat
def fromLe (xs : List UInt8) : Nat := lev (xs.take 8)
def bev (xs : List UInt8) : Nat := xs.foldl (fun a u => a * 256 + u.toNat) 0
def fromBe (xs : List UInt8) : Nat := bev (xs.take 8)
theorem clamp_le (s : Int) : clamp s ≤ 8 := by unfold clamp; split <;> (try split) <;> omega
theorem leB_length (n k : Nat) : (leB n k).length = k := by simp [leB]
theorem beB_length (n k : Nat) : (beB n k).length = k := by simp [beB, leB_length]
theorem leB_succ (n k : Nat) : leB n (k + 1) = leB n k ++ [UInt8.ofNat (n / 256 ^ k)] := by
 simp [leB, List.range_succ]
theorem leB_zero (n : Nat) : leB n 0 = [] := rfl
theorem lev_leB (n k : Nat) : lev (leB n k) = n % 256 ^ k := by
 induction k with
 | zero => simp [leB_zero, lev, Nat.mod_one]
 | succ k ih =>
  rw [leB_succ, lev_append, ih, leB_length, Nat.mod_pow_succ]
  simp [lev, UInt8.toNat_ofNat']
theorem bev_snoc (xs : List UInt8) (u : UInt8) : bev (xs ++ [u]) = bev xs * 256 + u.toNat := by simp [bev]
theorem bev_fold (xs : List UInt8) : ∀ a : Nat, xs.foldl (fun a u => a * 256 + u.toNat) a = a * 256 ^ xs.length + bev xs := by
 induction xs with
 | nil => intro a; simp [bev]
 | cons u us ih =>
  intro a
  have h0 : bev (u :: us) = (0 * 256 + u.toNat) * 256 ^ us.length + bev us := ih _
  rw [List.foldl_cons, ih, h0, List.length_cons, Nat.pow_succ, Nat.add_mul, Nat.add_mul]
  have e : a * 256 * 256 ^ us.length = a * (256 ^ us.length * 256) := by rw [Nat.mul_assoc, Nat.mul_comm 256]
  rw [e]; omega
theorem bev_cons (u : UInt8) (us : List UInt8) : bev (u :: us) = u.toNat * 256 ^ us.length + bev us := by
 have h0 : bev (u :: us) = (0 * 256 + u.toNat) * 256 ^ us.length + bev us := bev_fold us (0 * 256 + u.toNat)
 rw [h0, Nat.zero_mul, Nat.zero_add]
theorem bev_lt (xs : List UInt8) : bev xs < 256 ^ xs.length := by
 induction xs with
 | nil => simp [bev]
 | cons u us ih =>
  rw [bev_cons, List.length_cons, Nat.pow_succ]
  have hu := u.toNat_lt
  have : u.toNat * 256 ^ us.length ≤ 255 * 256 ^ us.length := Nat.mul_le_mul_right _ (by omega)
  omega
structure Su where
 g : Nat
 s : Int
 l : Int
 D : List UInt8
deriving DecidableEq
def suZ : Su := ⟨0, 0, 0, List.replicate 32 0⟩
def suCheck (s l : Int) : Bool := decide ((s = 0 ∨ s = 1) ∧ 0 ≤ l ∧ l ≤ 12288)
def suB (g s l : Nat) (D : List UInt8) : List UInt8 := [80, 72, 83, 66] ++ (leB g 4 ++ (leB l 4 ++ ([UInt8.ofNat s] ++ (D ++ List.replicate 207 0))))
def suL (g s l : Nat) (D : List UInt8) : List UInt8 := crcClosed (suB g s l D)
def suPutE (s l : Int) : Int := if suCheck s l = true then 0 else 2
def suPutL (g : Nat) (s l : Int) (D : List UInt8) : List UInt8 := if suCheck s l = true then suL g s.toNat l.toNat D else []
def suOf (b : List UInt8) : Su := ⟨lev ((b.drop 4).take 4), ((b.getD 12 0).toNat : Nat), (lev ((b.drop 8).take 4) : Nat), (b.drop 13).take 32⟩
def suGetE (b : List UInt8) : Int :=
 if b.length ≠ 256 then 2 else if crcHolds b = false then 6 else if suCheck (suOf b).s (suOf b).l = true ∧ suPutL (suOf b).g (suOf b).s (suOf b).l (suOf b).D = b then 0 else 3
def suGet (b : List UInt8) : Su := if suGetE b = 0 then suOf b else suZ
def suGood (b : List UInt8) (h : Nat) : Bool := decide (suGetE b = 0 ∧ (suGet b).g % 2 = h)
def suChE (a b : List UInt8) : Int := if suGood a 0 = true ∨ suGood b 1 = true then 0 else 7
def suCh (a b : List UInt8) : Su :=
 if suGood a 0 = true ∧ (suGood b 1 = false ∨ (suGet b).g < (suGet a).g) then suGet a else if suGood b 1 = true then suGet b else suZ
theorem suB_len (g s l : Nat) (D : List UInt8) (h : D.length = 32) : (suB g s l D).length = 252 := by simp [suB, leB_length, h]
theorem suL_len (g s l : Nat) (D : List UInt8) (h : D.length = 32) : (suL g s l D).length = 256 := by simp [suL, crcClosed, suB_len g s l D h, le4_length]
theorem lev4_lt (b : List UInt8) (k : Nat) : lev ((b.drop k).take 4) < 4294967296 := by
 have h := lev_lt ((b.drop k).take 4)
 have h2 : ((b.drop k).take 4).length ≤ 4 := by rw [List.length_take]; omega
 exact Nat.lt_of_lt_of_le h (Nat.pow_le_pow_right (by omega) h2)
theorem suOf_bounds (b : List UInt8) (h : b.length = 256) : (suOf b).g < 4294967296 ∧ (0 ≤ (suOf b).s ∧ (suOf b).s < 256) ∧ (0 ≤ (suOf b).l ∧ (suOf b).l < 4294967296) ∧ (suOf b).D.length = 32 := by
 refine ⟨lev4_lt b 4, ?_, ?_, ?_⟩
 ·have := (b.getD 12 0).toNat_lt
  exact ⟨by simp [suOf], by simp only [suOf]; omega⟩
 ·have := lev4_lt b 8
  exact ⟨by simp [suOf], by simp only [suOf]; omega⟩
 ·simp [suOf, h]
theorem suGet_len (b : List UInt8) : (suGet b).D.length = 32 := by
 unfold suGet
 split
 ·rename_i h
  unfold suGetE at h
  split at h
  ·simp at h
  ·rename_i h2
   exact (suOf_bounds b (by simpa using h2)).2.2.2
 ·simp [suZ]
theorem suGet_bounds (b : List UInt8) : (suGet b).g < 4294967296 ∧ (0 ≤ (suGet b).s ∧ (suGet b).s < 256) ∧ (0 ≤ (suGet b).l ∧ (suGet b).l < 4294967296) := by
 unfold suGet
 split
 ·rename_i h
  unfold suGetE at h
  split at h
  ·simp at h
  ·rename_i h2
   have := suOf_bounds b (by simpa using h2)
   exact ⟨this.1, this.2.1, this.2.2.1⟩
 ·simp [suZ]
theorem suOf_put (g s l : Nat) (D : List UInt8) (hg : g < 4294967296) (hs : s < 256) (hl : l < 4294967296) (hD : D.length = 32) : suOf (suL g s l D) = ⟨g, s, l, D⟩ := by
 have e0 : suL g s l D = [80, 72, 83, 66] ++ (leB g 4 ++ (leB l 4 ++ ([UInt8.ofNat s] ++ (D ++ (List.replicate 207 0 ++ le4 (crcOf (suB g s l D))))))) := by
  unfold suL crcClosed; conv => lhs; arg 1; unfold suB
  simp [List.append_assoc]
 obtain ⟨R, hR⟩ : ∃ R, List.replicate 207 0 ++ le4 (crcOf (suB g s l D)) = R := ⟨_, rfl⟩
 rw [hR] at e0
 have d4 : (suL g s l D).drop 4 = leB g 4 ++ (leB l 4 ++ ([UInt8.ofNat s] ++ (D ++ R))) := by rw [e0]; rfl
 have d8 : (suL g s l D).drop 8 = leB l 4 ++ ([UInt8.ofNat s] ++ (D ++ R)) := by
  rw [show 8 = 4 + 4 from rfl, ← List.drop_drop, d4]
  exact List.drop_left' (by rw [leB_length])
 have d12 : (suL g s l D).drop 12 = [UInt8.ofNat s] ++ (D ++ R) := by
  rw [show 12 = 8 + 4 from rfl, ← List.drop_drop, d8]
  exact List.drop_left' (by rw [leB_length])
 have d13 : (suL g s l D).drop 13 = D ++ R := by
  rw [show 13 = 12 + 1 from rfl, ← List.drop_drop, d12]; rfl
 have g12 : (suL g s l D).getD 12 0 = UInt8.ofNat s := by
  have : ((suL g s l D).drop 12)[0]? = some (UInt8.ofNat s) := by rw [d12]; rfl
  rw [List.getElem?_drop] at this
  simp only [Nat.add_zero] at this
  rw [List.getD, this]; rfl
 unfold suOf
 rw [d4, d8, d13, g12, List.take_left' (by rw [leB_length]), List.take_left' (by rw [leB_length]), List.take_left' hD, lev_leB, lev_leB, UInt8.toNat_ofNat']
 rw [Nat.mod_eq_of_lt hg, Nat.mod_eq_of_lt hl, Nat.mod_eq_of_lt hs]
theorem suGet_put (g : Nat) (s l : Int) (D : List UInt8) (hg : g < 4294967296) (hc : suCheck s l = true) (hD : D.length = 32) : suGetE (suPutL g s l D) = 0 ∧ suGet (suPutL g s l D) = ⟨g, s, l, D⟩ := by
 have hc' := of_decide_eq_true hc
 obtain ⟨p, rfl⟩ : ∃ p : Nat, s = (p : Int) := ⟨s.toNat, by omega⟩
 obtain ⟨q, rfl⟩ : ∃ q : Nat, l = (q : Int) := ⟨l.toNat, by omega⟩
 have e : suPutL g p q D = suL g p q D := by unfold suPutL; rw [if_pos hc]; rfl
 have e2 := suOf_put g p q D hg (by omega) (by omega) hD
 have e1 : suGetE (suL g p q D) = 0 := by
  unfold suGetE
  rw [if_neg (by rw [suL_len _ _ _ _ hD]; simp), if_neg (by unfold suL; rw [crcHolds_closed]; simp), e2, if_pos ⟨hc, e⟩]
 rw [e]
 exact ⟨e1, by unfold suGet; rw [if_pos e1, e2]⟩
theorem suGet_ok (b : List UInt8) (h : suGetE b = 0) : suGet b = suOf b ∧ b.length = 256 ∧ crcHolds b = true ∧ suCheck (suGet b).s (suGet b).l = true ∧ suPutL (suGet b).g (suGet b).s (suGet b).l (suGet b).D = b := by
 have e : suGet b = suOf b := by unfold suGet; rw [if_pos h]
 rw [e]
 unfold suGetE at h
 split at h
 ·simp at h
 ·rename_i h1
  split at h
  ·simp at h
  ·rename_i h2
   split at h
   ·rename_i h3
    exact ⟨rfl, by simpa using h1, by simpa using h2, h3.1, h3.2⟩
   ·simp at h
theorem suGood_put (g : Nat) (s l : Int) (D : List UInt8) (hg : g < 4294967296) (hc : suCheck s l = true) (hD : D.length = 32) (h : Nat) : suGood (suPutL g s l D) h = decide (g % 2 = h) := by
 obtain ⟨h1, h2⟩ := suGet_put g s l D hg hc hD
 unfold suGood
 rw [h1, h2]
 simp
end Go.Proofs.YtpahicfnhhhifaaGreat
namespace Go.Proofs.YtpahicfnhhhifaaGreat
set_option maxRecDepth 20000
open Go.RowKit
set_option maxHeartbeats 8000000
def suV (g : Nat) (s l : Int) (D : List UInt8) : Array Value := #[.int .u32 g, .int .i64 s, .int .i64 l] ++ (D.map vB).toArray
theorem suV0 (g : Nat) (s l : Int) (D : List UInt8) : (suV g s l D)[0]? = some (.int .u32 g) := by simp [suV, Array.getElem?_append]
theorem suV1 (g : Nat) (s l : Int) (D : List UInt8) : (suV g s l D)[1]? = some (.int .i64 s) := by simp [suV, Array.getElem?_append]
theorem suV2 (g : Nat) (s l : Int) (D : List UInt8) : (suV g s l D)[2]? = some (.int .i64 l) := by simp [suV, Array.getElem?_append]
theorem suV3 (g : Nat) (s l : Int) (D : List UInt8) (k : Nat) : (suV g s l D)[3 + k]? = (D.map vB)[k]? := by rw [suV, Array.getElem?_append_right (by simp)]; simp
theorem suVn (g : Nat) (s l : Int) (D : List UInt8) : (suV g s l D).size = 3 + D.length := by simp [suV]; omega
theorem suHome_any (g : Nat) (w : World) (hg : g < 4294967296) : Calls Tryz.prog 56 #[.int .u32 g] w fun e w' => e = .returned (.int .i64 (g % 2 : Nat)) ∧ w = w' := by
 have w1 : IntKind.i64.wrap ((g : Int).tmod 2) = ((g % 2 : Nat) : Int) := by rw [Int.tmod_eq_emod_of_nonneg (by omega)]; exact wi64n (k := g % 2) (by omega)
 go_enter Tryz.func56, Tryz.ntmps56
 go_wp2
 go_ret
 exact ⟨rfl, rfl⟩
theorem suPlace_any (s : Int) (w : World) : Calls Tryz.prog 99 #[.int .i64 s] w fun e w' => e = .returned (.int .i64 (if s = 0 then 2 else 50)) ∧ w = w' := by
 by_cases h : s = 0
 ·subst h
  go_enter Tryz.func99, Tryz.ntmps99
  go_wp2
  go_ret
  exact ⟨rfl, rfl⟩
 ·rw [if_neg h]
  have d : decide (s = 0) = false := decide_eq_false h
  go_enter Tryz.func99, Tryz.ntmps99
  go_wp2
  go_ret
  exact ⟨rfl, rfl⟩
theorem suCheck_any (g : Nat) (s l : Int) (D : List UInt8) (w : World) (hs : -9223372036854775808 ≤ s ∧ s ≤ 9223372036854775807) (hD : D.length = 32) : Calls Tryz.prog 63 #[.agg (suV g s l D)] w (RetV w (.bool (suCheck s l))) := by
 obtain ⟨R, hR⟩ : ∃ R, suCheck s l = R := ⟨suCheck s l, rfl⟩
 rw [hR]
 have HR := Lib.hid hR
 clear hR
 have c1 : (w.alloc (.cells (suV g s l D) 33)).cell? ⟨w.heap.size, 1, none⟩ = some (.int .i64 s) := (cell_of_row _ _ 1 _ _ _ (row1 ..)).trans (suV1 ..)
 have c2 : (w.alloc (.cells (suV g s l D) 33)).cell? ⟨w.heap.size, 2, none⟩ = some (.int .i64 l) := (cell_of_row _ _ 2 _ _ _ (row1 ..)).trans (suV2 ..)
 have hsz : (suV g s l D).size = 35 := by rw [suVn, hD]
 by_cases e1 : s / 2 = 0
 ·by_cases e2 : 0 ≤ l
  ·by_cases e3 : l ≤ 12288
   ·have d3 : decide (l ≤ 12288) = true := decide_eq_true e3
    have e9 : R = true := by rw [← HR.out]; exact decide_eq_true (by omega)
    subst e9
    go_enter Tryz.func63, Tryz.ntmps63
    go_wp2
    go_ret
    exact ⟨rfl, (below_self w).alloc (Nat.le_refl _) _⟩
   ·have d3 : decide (l ≤ 12288) = false := decide_eq_false e3
    have e9 : R = false := by rw [← HR.out]; exact decide_eq_false (by omega)
    subst e9
    go_enter Tryz.func63, Tryz.ntmps63
    go_wp2
    go_ret
    exact ⟨rfl, (below_self w).alloc (Nat.le_refl _) _⟩
  ·have e9 : R = false := by rw [← HR.out]; exact decide_eq_false (by omega)
   subst e9
   go_enter Tryz.func63, Tryz.ntmps63
   go_wp2
   go_ret
   exact ⟨rfl, (below_self w).alloc (Nat.le_refl _) _⟩
 ·have e9 : R = false := by rw [← HR.out]; exact decide_eq_false (by omega)
  subst e9
  go_enter Tryz.func63, Tryz.ntmps63
  go_wp2
  go_ret
  exact ⟨rfl, (below_self w).alloc (Nat.le_refl _) _⟩
theorem refsuCheck_any (g : Nat) (s l : Int) (D : List UInt8) (w : World) (hs : -9223372036854775808 ≤ s ∧ s ≤ 9223372036854775807) (hD : D.length = 32) : Calls Tryz.prog 65 #[.agg (suV g s l D)] w (RetV w (.bool (suCheck s l))) := by
 obtain ⟨R, hR⟩ : ∃ R, suCheck s l = R := ⟨suCheck s l, rfl⟩
 rw [hR]
 have HR := Lib.hid hR
 clear hR
 have c1 : (w.alloc (.cells (suV g s l D) 33)).cell? ⟨w.heap.size, 1, none⟩ = some (.int .i64 s) := (cell_of_row _ _ 1 _ _ _ (row1 ..)).trans (suV1 ..)
 have c2 : (w.alloc (.cells (suV g s l D) 33)).cell? ⟨w.heap.size, 2, none⟩ = some (.int .i64 l) := (cell_of_row _ _ 2 _ _ _ (row1 ..)).trans (suV2 ..)
 have hsz : (suV g s l D).size = 35 := by rw [suVn, hD]
 have H3 : s = 0 ∨ s = 1 ∨ (¬ s = 0 ∧ ¬ s = 1) := by omega
 clear hs
 rcases H3 with rfl | rfl | ⟨q0, q1⟩
 ·by_cases e2 : 0 ≤ l
  ·by_cases e3 : l ≤ 12288
   ·have d3 : decide (l ≤ 12288) = true := decide_eq_true e3
    have e9 : R = true := by rw [← HR.out]; exact decide_eq_true (by omega)
    subst e9
    go_enter Tryz.func65, Tryz.ntmps65
    go_wp2
    go_ret
    exact ⟨rfl, (below_self w).alloc (Nat.le_refl _) _⟩
   ·have d3 : decide (l ≤ 12288) = false := decide_eq_false e3
    have e9 : R = false := by rw [← HR.out]; exact decide_eq_false (by omega)
    subst e9
    go_enter Tryz.func65, Tryz.ntmps65
    go_wp2
    go_ret
    exact ⟨rfl, (below_self w).alloc (Nat.le_refl _) _⟩
  ·have e9 : R = false := by rw [← HR.out]; exact decide_eq_false (by omega)
   subst e9
   go_enter Tryz.func65, Tryz.ntmps65
   go_wp2
   go_ret
   exact ⟨rfl, (below_self w).alloc (Nat.le_refl _) _⟩
 ·by_cases e2 : 0 ≤ l
  ·by_cases e3 : l ≤ 12288
   ·have d3 : decide (l ≤ 12288) = true := decide_eq_true e3
    have e9 : R = true := by rw [← HR.out]; exact decide_eq_true (by omega)
    subst e9
    go_enter Tryz.func65, Tryz.ntmps65
    go_wp2
    go_ret
    exact ⟨rfl, (below_self w).alloc (Nat.le_refl _) _⟩
   ·have d3 : decide (l ≤ 12288) = false := decide_eq_false e3
    have e9 : R = false := by rw [← HR.out]; exact decide_eq_false (by omega)
    subst e9
    go_enter Tryz.func65, Tryz.ntmps65
    go_wp2
    go_ret
    exact ⟨rfl, (below_self w).alloc (Nat.le_refl _) _⟩
  ·have e9 : R = false := by rw [← HR.out]; exact decide_eq_false (by omega)
   subst e9
   go_enter Tryz.func65, Tryz.ntmps65
   go_wp2
   go_ret
   exact ⟨rfl, (below_self w).alloc (Nat.le_refl _) _⟩
 ·have e9 : R = false := by rw [← HR.out]; exact decide_eq_false (by omega)
  subst e9
  go_enter Tryz.func65, Tryz.ntmps65
  go_wp2
  go_ret
  exact ⟨rfl, (below_self w).alloc (Nat.le_refl _) _⟩
end Go.Proofs.YtpahicfnhhhifaaGreat
namespace Go.Proofs.YtpahicfnhhhifaaGreat
set_option maxRecDepth 20000
open Go.ChangeShapes Go.WideShapes Go.ChangeAt Go.RowKit Go.Deep
open Go.ChangeMaps (open_string shut_string)
theorem bytes_of_cells : ∀ (cs : List Value), (∀ (i : Nat) (v : Value), cs[i]? = some v → ∃ u : UInt8, v = vB u) → ∃ D : List UInt8, cs = D.map vB
 | [], _ => ⟨[], rfl⟩
 | c :: cs, h => by
  obtain ⟨u, hu⟩ := h 0 c rfl
  obtain ⟨D, hD⟩ := bytes_of_cells cs (fun i v hv => h (i + 1) v (by simpa using hv))
  exact ⟨u :: D, by rw [hu, hD]; rfl⟩
theorem open_digest32 {H : Type} {enc : TypeId × Value → H} {W : World} {fuel : Nat} {cs : List Value} {y : DataW H × List MemPlace} (hl : cs.length = 32)
  (hy : DataW.trod enc Tryz.prog W 0 (fun _ => true) true fuel 30 cs = some y) : ∃ D : List UInt8, cs = D.map vB ∧ D.length = 32 := by
 obtain ⟨ys, n, _, _, _, hl2, hf⟩ := DataW.trod_array Tryz.underlying30 hy
 have hc : Tryz.prog.cellsOf 5 = 1 := by kernel_rfl
 obtain ⟨D, hD⟩ := bytes_of_cells cs (fun i v hv => by
  have hi : i < cs.length := (List.getElem?_eq_some_iff.1 hv).1
  have h := hf i (by omega)
  rw [hc, Nat.mul_one, List.drop_eq_getElem_cons hi, List.take_succ_cons, List.take_zero, List.getElem?_eq_getElem (by omega)] at h
  obtain ⟨k, hk, _, hw⟩ := DataW.trod_int Tryz.underlying5 h
  obtain ⟨q, rfl, hq⟩ := nat_u8 hw
  rw [List.getElem?_eq_getElem hi] at hv
  injection hv with hv
  injection hk with hk
  refine ⟨UInt8.ofNat q, ?_⟩
  rw [← hv, hk, vB, UInt8.toNat_ofNat']
  congr 1
  omega)
 exact ⟨D, hD, by rw [hD, List.length_map] at hl; exact hl⟩
end Go.Proofs.YtpahicfnhhhifaaGreat
namespace Go.Proofs.YtpahicfnhhhifaaGreat
set_option maxRecDepth 20000
structure H8 where
 a : Nat
 b : Nat
 c : Nat
 d : Nat
 e : Nat
 f : Nat
 g : Nat
 h : Nat
deriving DecidableEq
def H8.ok (x : H8) : Prop := x.a < 4294967296 ∧ x.b < 4294967296 ∧ x.c < 4294967296 ∧ x.d < 4294967296 ∧ x.e < 4294967296 ∧ x.f < 4294967296 ∧ x.g < 4294967296 ∧ x.h < 4294967296
def H8.l (x : H8) : List Nat := [x.a, x.b, x.c, x.d, x.e, x.f, x.g, x.h]
def ror (x n : Nat) : Nat := x / 2 ^ n ||| (x * 2 ^ (32 - n)) % 4294967296
def shMix (x : Nat) (ts : List Nat) : Nat := ts.foldl (fun o n => o ^^^ ror x n) 0
def shCh (e f g : Nat) : Nat := g ^^^ (e &&& (f ^^^ g))
def shMaj (a b c : Nat) : Nat := (a &&& b) ||| (c &&& (a ||| b))
def shK : List Nat := [1116352408, 1899447441, 3049323471, 3921009573, 961987163, 1508970993, 2453635748, 2870763221, 3624381080, 310598401, 607225278, 1426881987, 1925078388, 2162078206, 2614888103, 3248222580, 3835390401, 4022224774, 264347078, 604807628, 770255983, 1249150122, 1555081692, 1996064986, 2554220882, 2821834349, 2952996808, 3210313671, 3336571891, 3584528711, 113926993, 338241895, 666307205, 773529912, 1294757372, 1396182291, 1695183700, 1986661051, 2177026350, 2456956037, 2730485921, 2820302411, 3259730800, 3345764771, 3516065817, 3600352804, 4094571909, 275423344, 430227734, 506948616, 659060556, 883997877, 958139571, 1322822218, 1537002063, 1747873779, 1955562222, 2024104815, 2227730452, 2361852424, 2428436474, 2756734187, 3204031479, 3329325298]
def shT (x : H8) (k w : Nat) : Nat := (x.h + shMix x.e [6, 11, 25] + shCh x.e x.f x.g + k + w) % 4294967296
def shU (x : H8) : Nat := (shMix x.a [2, 13, 22] + shMaj x.a x.b x.c) % 4294967296
def shStep (k w : Nat) (x : H8) : H8 := ⟨(shT x k w + shU x) % 4294967296, x.a, x.b, x.c, (x.d + shT x k w) % 4294967296, x.e, x.f, x.g⟩
def shSig (ws : List Nat) (i : Nat) : Nat :=
 ((shMix (ws.getD (i - 2) 0) [17, 19] ^^^ ws.getD (i - 2) 0 / 1024) + (ws.getD (i - 7) 0 + ws.getD (i - 16) 0 + (shMix (ws.getD (i - 15) 0) [7, 18] ^^^ ws.getD (i - 15) 0 / 8))) % 4294967296
def shWord (b : List UInt8) (ws : List Nat) (i : Nat) : Nat := if i < 16 then bev ((b.drop (4 * i)).take 4) else shSig ws i
def shWs (b : List UInt8) : Nat → List Nat
 | 0 => []
 | k + 1 => shWs b k ++ [shWord b (shWs b k) k]
def shRounds (ws : List Nat) (x : H8) : Nat → H8
 | 0 => x
 | k + 1 => shStep (shK.getD k 0) (ws.getD k 0) (shRounds ws x k)
def H8.add (x y : H8) : H8 := ⟨(x.a + y.a) % 4294967296, (x.b + y.b) % 4294967296, (x.c + y.c) % 4294967296, (x.d + y.d) % 4294967296, (x.e + y.e) % 4294967296, (x.f + y.f) % 4294967296, (x.g + y.g) % 4294967296, (x.h + y.h) % 4294967296⟩
def shWords (b : List UInt8) : List Nat := if b.length = 64 then shWs b 64 else List.replicate 64 0
def shTurn (x : H8) (b : List UInt8) : H8 := if b.length = 64 then x.add (shRounds (shWs b 64) x 64) else x
def shPad (n : Nat) : List UInt8 := 128 :: (List.replicate ((119 - n % 64) % 64) 0 ++ beB (8 * n) 8)
def shBegin : H8 := ⟨1779033703, 3144134277, 1013904242, 2773480762, 1359893119, 2600822924, 528734635, 1541459225⟩
def shFold (x : H8) (b : List UInt8) : Nat → H8
 | 0 => x
 | k + 1 => shTurn (shFold x b k) ((b.drop (64 * k)).take 64)
def shDig (x : H8) : List UInt8 := x.l.flatMap fun n => beB n 4
def shAll (b : List UInt8) : List UInt8 := b ++ shPad b.length
def shOf (b : List UInt8) : List UInt8 := shDig (shFold shBegin (shAll b) ((shAll b).length / 64))
def shLink (d b : List UInt8) : List UInt8 := shOf (d ++ b)
theorem xor_lt32 {a b : Nat} (ha : a < 4294967296) (hb : b < 4294967296) : a ^^^ b < 4294967296 := Nat.xor_lt_two_pow (n := 32) (by omega) (by omega)
theorem or_lt32 {a b : Nat} (ha : a < 4294967296) (hb : b < 4294967296) : a ||| b < 4294967296 := Nat.or_lt_two_pow (n := 32) (by omega) (by omega)
theorem and_lt32 {a b : Nat} (ha : a < 4294967296) : a &&& b < 4294967296 := Nat.lt_of_le_of_lt Nat.and_le_left ha
theorem ror_lt {x : Nat} (n : Nat) (h : x < 4294967296) : ror x n < 4294967296 := or_lt32 (Nat.lt_of_le_of_lt (Nat.div_le_self _ _) h) (Nat.mod_lt _ (by omega))
theorem shMix_snoc (x : Nat) (ts : List Nat) (n : Nat) : shMix x (ts ++ [n]) = shMix x ts ^^^ ror x n := by simp [shMix]
theorem shMix_lt {x : Nat} (h : x < 4294967296) (ts : List Nat) : shMix x ts < 4294967296 := by
 unfold shMix
 suffices ∀ (ts : List Nat) (o : Nat), o < 4294967296 → ts.foldl (fun o n => o ^^^ ror x n) o < 4294967296 from this ts 0 (by omega)
 intro ts
 induction ts with
 | nil => intro o ho; exact ho
 | cons t ts ih => intro o ho; exact ih _ (xor_lt32 ho (ror_lt t h))
theorem shMix2 (x a b : Nat) : shMix x [a, b] = ror x a ^^^ ror x b := by simp [shMix]
theorem shMix3 (x a b c : Nat) : shMix x [a, b, c] = ror x a ^^^ ror x b ^^^ ror x c := by simp [shMix]
theorem not_bit {e : Nat} (h : e < 4294967296) (i : Nat) : (4294967295 - e).testBit i = (decide (i < 32) && !e.testBit i) := by
 have := Nat.testBit_two_pow_sub_succ (x := e) (n := 32) (by omega) i
 rw [← this]; congr 1; omega
theorem bit_high {g : Nat} (h : g < 4294967296) {i : Nat} (hi : 32 ≤ i) : g.testBit i = false := Nat.testBit_lt_two_pow (Nat.lt_of_lt_of_le h (Nat.pow_le_pow_right (by omega) hi : 2 ^ 32 ≤ 2 ^ i))
theorem ch_ref {e f g : Nat} (he : e < 4294967296) (hg : g < 4294967296) : (e &&& f) ^^^ ((4294967295 - e) &&& g) = shCh e f g := by
 unfold shCh
 apply Nat.eq_of_testBit_eq
 intro i
 simp only [Nat.testBit_xor, Nat.testBit_and, not_bit he]
 by_cases hi : i < 32
 ·simp only [hi, decide_true, Bool.true_and]
  cases e.testBit i <;> cases f.testBit i <;> cases g.testBit i <;> rfl
 ·rw [bit_high he (by omega), bit_high hg (by omega)]
  simp [hi]
theorem maj_ref (a b c : Nat) : (a &&& b) ^^^ (a &&& c) ^^^ (b &&& c) = shMaj a b c := by
 unfold shMaj
 apply Nat.eq_of_testBit_eq
 intro i
 simp only [Nat.testBit_xor, Nat.testBit_and, Nat.testBit_or]
 cases a.testBit i <;> cases b.testBit i <;> cases c.testBit i <;> rfl
theorem shStep_ok {k w : Nat} {x : H8} (h : x.ok) : (shStep k w x).ok := by
 obtain ⟨h1, h2, h3, h4, h5, h6, h7, h8⟩ := h
 exact ⟨Nat.mod_lt _ (by omega), h1, h2, h3, Nat.mod_lt _ (by omega), h5, h6, h7⟩
theorem shRounds_ok (ws : List Nat) {x : H8} (h : x.ok) : ∀ k, (shRounds ws x k).ok
 | 0 => h
 | k + 1 => shStep_ok (shRounds_ok ws h k)
theorem add_ok (x y : H8) : (x.add y).ok := by refine ⟨?_, ?_, ?_, ?_, ?_, ?_, ?_, ?_⟩ <;> exact Nat.mod_lt _ (by omega)
theorem shTurn_ok {x : H8} (h : x.ok) (b : List UInt8) : (shTurn x b).ok := by
 unfold shTurn; split
 ·exact add_ok _ _
 ·exact h
theorem shBegin_ok : shBegin.ok := by unfold H8.ok shBegin; decide
theorem shFold_ok {x : H8} (h : x.ok) (b : List UInt8) : ∀ k, (shFold x b k).ok
 | 0 => h
 | k + 1 => shTurn_ok (shFold_ok h b k) _
theorem shSig_lt (ws : List Nat) (i : Nat) : shSig ws i < 4294967296 := Nat.mod_lt _ (by omega)
theorem bev4_lt (b : List UInt8) : bev (b.take 4) < 4294967296 := by
 have h := bev_lt (b.take 4)
 have h2 : (b.take 4).length ≤ 4 := by rw [List.length_take]; omega
 exact Nat.lt_of_lt_of_le h (Nat.pow_le_pow_right (by omega) h2)
theorem shWord_lt (b : List UInt8) (ws : List Nat) (i : Nat) : shWord b ws i < 4294967296 := by
 unfold shWord; split
 ·exact bev4_lt _
 ·exact shSig_lt _ _
theorem shWs_len (b : List UInt8) : ∀ k, (shWs b k).length = k
 | 0 => rfl
 | k + 1 => by simp [shWs, shWs_len b k]
theorem shWs_lt (b : List UInt8) : ∀ k, ∀ n ∈ shWs b k, n < 4294967296
 | 0 => by simp [shWs]
 | k + 1 => by
  intro n hn
  rw [shWs, List.mem_append] at hn
  rcases hn with hn | hn
  ·exact shWs_lt b k n hn
  ·obtain rfl : n = _ := by simpa using hn
   exact shWord_lt _ _ _
theorem shDig_len (x : H8) : (shDig x).length = 32 := by simp [shDig, H8.l, beB_length]
theorem shOf_len (b : List UInt8) : (shOf b).length = 32 := shDig_len _
theorem shLink_len (d b : List UInt8) : (shLink d b).length = 32 := shOf_len _
theorem shPad_len (n : Nat) : (shPad n).length = 9 + (119 - n % 64) % 64 := by simp [shPad, beB_length]; omega
theorem shAll_len (b : List UInt8) : (shAll b).length = 64 * ((b.length + 72) / 64) := by
 unfold shAll; rw [List.length_append, shPad_len]; omega
structure Rc where
 g : Nat
 s : Nat
 m : Nat
 t : Nat
 k : Int
 c : Nat
 b : List UInt8
 D : List UInt8
deriving DecidableEq
def Rc.ok (r : Rc) : Prop := r.g < 4294967296 ∧ r.s < 4294967296 ∧ r.m < 4294967296 ∧ r.t < 18446744073709551616 ∧ (-9223372036854775808 ≤ r.k ∧ r.k ≤ 9223372036854775807) ∧ r.c < 18446744073709551616 ∧ r.D.length = 32
def rcZ : Rc := ⟨0, 0, 0, 0, 0, 0, [], List.replicate 32 0⟩
def rcChk (k : Int) (c n : Nat) : Bool := if k = 1 then decide (c ≤ 1099511627776 ∧ n = 0) else if k = 2 then decide (c = 0 ∧ 1 ≤ n ∧ n ≤ 16) else if k = 3 then decide (c = 0 ∧ 1 ≤ n ∧ n ≤ 180) else false
def Rc.chk (r : Rc) : Bool := rcChk r.k r.c r.b.length
def rcBody (r : Rc) : List UInt8 := [80, 72, 82, 67] ++ (leB r.g 4 ++ (leB r.s 4 ++ (leB r.m 4 ++ (leB r.t 8 ++ ([UInt8.ofNat r.k.toNat] ++ ([UInt8.ofNat r.b.length] ++ (leB r.c 8 ++ (r.b ++ List.replicate (186 - r.b.length) 0))))))))
def rcL (r : Rc) : List UInt8 := crcClosed (rcBody r ++ r.D)
def rcPutL (r : Rc) : List UInt8 := if r.chk = true then rcL r else []
def rcPutE (r : Rc) : Int := if r.chk = true then 0 else 2
def rcOf (b : List UInt8) : Rc := ⟨lev ((b.drop 4).take 4), lev ((b.drop 8).take 4), lev ((b.drop 12).take 4), lev ((b.drop 16).take 8), ((b.getD 24 0).toNat : Nat), lev ((b.drop 26).take 8), (b.drop 34).take (b.getD 25 0).toNat, (b.drop 220).take 32⟩
def rcGetE (b : List UInt8) : Int :=
 if b.length ≠ 256 then 2 else if crcHolds b = false then 6 else if 180 < (b.getD 25 0).toNat then 3 else if (rcOf b).chk = true ∧ rcL (rcOf b) = b then 0 else 3
def rcGet (b : List UInt8) : Rc := if rcGetE b = 0 then rcOf b else rcZ
def rcMk (P : List UInt8) (r : Rc) : Rc := { r with D := shLink P (rcBody r) }
def rcFolE (P : List UInt8) (g s : Nat) (b : List UInt8) : Int :=
 if rcGetE b = 0 then (if (rcGet b).g ≠ g then 120 else if (rcGet b).s ≠ s then 121 else if (rcGet b).D ≠ shLink P (rcBody (rcGet b)) then 122 else 0) else rcGetE b
def rcFol (P : List UInt8) (g s : Nat) (b : List UInt8) : Rc := if rcFolE P g s b = 0 then rcGet b else rcZ
theorem rcChk_cases {k : Int} {c n : Nat} (h : rcChk k c n = true) : (k = 1 ∧ c ≤ 1099511627776 ∧ n = 0) ∨ (k = 2 ∧ c = 0 ∧ 1 ≤ n ∧ n ≤ 16) ∨ (k = 3 ∧ c = 0 ∧ 1 ≤ n ∧ n ≤ 180) := by
 unfold rcChk at h
 split at h
 ·exact .inl ⟨by assumption, of_decide_eq_true h⟩
 ·split at h
  ·exact .inr (.inl ⟨by assumption, of_decide_eq_true h⟩)
  ·split at h
   ·exact .inr (.inr ⟨by assumption, of_decide_eq_true h⟩)
   ·cases h
theorem rcChk_len {k : Int} {c n : Nat} (h : rcChk k c n = true) : n ≤ 180 ∧ 1 ≤ k ∧ k ≤ 3 ∧ c ≤ 1099511627776 := by
 rcases rcChk_cases h with h | h | h <;> omega
theorem rcBody_len (r : Rc) (h : r.b.length ≤ 186) : (rcBody r).length = 220 := by simp [rcBody, leB_length]; omega
theorem rcL_len (r : Rc) (h : r.b.length ≤ 186) (hD : r.D.length = 32) : (rcL r).length = 256 := by simp [rcL, crcClosed, rcBody_len r h, le4_length, hD]
theorem rcLev (b : List UInt8) (k n : Nat) : lev ((b.drop k).take n) < 256 ^ n := by
 have h := lev_lt ((b.drop k).take n)
 exact Nat.lt_of_lt_of_le h (Nat.pow_le_pow_right (by omega) (by rw [List.length_take]; omega))
theorem rcOf_ok (b : List UInt8) (h : b.length = 256) : (rcOf b).ok := by
 have := (b.getD 24 0).toNat_lt
 refine ⟨rcLev b 4 4, rcLev b 8 4, rcLev b 12 4, rcLev b 16 8, ⟨by simp only [rcOf]; omega, by simp only [rcOf]; omega⟩, rcLev b 26 8, by simp [rcOf, h]⟩
theorem rcZ_ok : rcZ.ok := by refine ⟨by decide, by decide, by decide, by decide, ⟨by decide, by decide⟩, by decide, rfl⟩
theorem rcOf_put (r : Rc) (h : r.ok) (hc : r.chk = true) : rcOf (rcL r) = r := by
 obtain ⟨hb, hk1, hk3, hcc⟩ := rcChk_len hc
 obtain ⟨g, s, m, t, k, c, b, D⟩ := r
 obtain ⟨hg, hs, hm, ht, -, hc8, hD⟩ := h
 simp only at hb hk1 hk3 hcc hg hs hm ht hc8 hD
 obtain ⟨k, rfl⟩ : ∃ j : Nat, k = (j : Int) := ⟨k.toNat, by omega⟩
 obtain ⟨E, hE⟩ : ∃ E, rcL ⟨g, s, m, t, k, c, b, D⟩ = E := ⟨_, rfl⟩
 obtain ⟨L, hL⟩ : ∃ L, le4 (crcOf (rcBody ⟨g, s, m, t, k, c, b, D⟩ ++ D)) = L := ⟨_, rfl⟩
 obtain ⟨Z, hZ⟩ : ∃ Z, List.replicate (186 - b.length) (0 : UInt8) = Z := ⟨_, rfl⟩
 have hZl : Z.length = 186 - b.length := by rw [← hZ]; simp
 have e0 : E = [80, 72, 82, 67] ++ (leB g 4 ++ (leB s 4 ++ (leB m 4 ++ (leB t 8 ++ ([UInt8.ofNat k] ++ ([UInt8.ofNat b.length] ++ (leB c 8 ++ (b ++ (Z ++ (D ++ L)))))))))) := by
  rw [← hE]; unfold rcL crcClosed; rw [hL]; unfold rcBody; simp only [hZ, Int.toNat_natCast, List.append_assoc]
 rw [hE]
 have d4 : E.drop 4 = leB g 4 ++ (leB s 4 ++ (leB m 4 ++ (leB t 8 ++ ([UInt8.ofNat k] ++ ([UInt8.ofNat b.length] ++ (leB c 8 ++ (b ++ (Z ++ (D ++ L))))))))) := by rw [e0]; rfl
 have d8 : E.drop 8 = leB s 4 ++ (leB m 4 ++ (leB t 8 ++ ([UInt8.ofNat k] ++ ([UInt8.ofNat b.length] ++ (leB c 8 ++ (b ++ (Z ++ (D ++ L)))))))) := by
  rw [show 8 = 4 + 4 from rfl, ← List.drop_drop, d4]; exact List.drop_left' (by rw [leB_length])
 have d12 : E.drop 12 = leB m 4 ++ (leB t 8 ++ ([UInt8.ofNat k] ++ ([UInt8.ofNat b.length] ++ (leB c 8 ++ (b ++ (Z ++ (D ++ L))))))) := by
  rw [show 12 = 8 + 4 from rfl, ← List.drop_drop, d8]; exact List.drop_left' (by rw [leB_length])
 have d16 : E.drop 16 = leB t 8 ++ ([UInt8.ofNat k] ++ ([UInt8.ofNat b.length] ++ (leB c 8 ++ (b ++ (Z ++ (D ++ L)))))) := by
  rw [show 16 = 12 + 4 from rfl, ← List.drop_drop, d12]; exact List.drop_left' (by rw [leB_length])
 have d24 : E.drop 24 = [UInt8.ofNat k] ++ ([UInt8.ofNat b.length] ++ (leB c 8 ++ (b ++ (Z ++ (D ++ L))))) := by
  rw [show 24 = 16 + 8 from rfl, ← List.drop_drop, d16]; exact List.drop_left' (by rw [leB_length])
 have d25 : E.drop 25 = [UInt8.ofNat b.length] ++ (leB c 8 ++ (b ++ (Z ++ (D ++ L)))) := by
  rw [show 25 = 24 + 1 from rfl, ← List.drop_drop, d24]; rfl
 have d26 : E.drop 26 = leB c 8 ++ (b ++ (Z ++ (D ++ L))) := by
  rw [show 26 = 25 + 1 from rfl, ← List.drop_drop, d25]; rfl
 have d34 : E.drop 34 = b ++ (Z ++ (D ++ L)) := by
  rw [show 34 = 26 + 8 from rfl, ← List.drop_drop, d26]; exact List.drop_left' (by rw [leB_length])
 have d220 : E.drop 220 = D ++ L := by
  rw [show 220 = 34 + 186 from rfl, ← List.drop_drop, d34, ← List.append_assoc]; exact List.drop_left' (by rw [List.length_append, hZl]; omega)
 have g24 : E.getD 24 0 = UInt8.ofNat k := by
  have : (E.drop 24)[0]? = some (UInt8.ofNat k) := by rw [d24]; rfl
  rw [List.getElem?_drop] at this; simp only [Nat.add_zero] at this
  rw [List.getD, this]; rfl
 have g25 : E.getD 25 0 = UInt8.ofNat b.length := by
  have : (E.drop 25)[0]? = some (UInt8.ofNat b.length) := by rw [d25]; rfl
  rw [List.getElem?_drop] at this; simp only [Nat.add_zero] at this
  rw [List.getD, this]; rfl
 unfold rcOf
 rw [d4, d8, d12, d16, d26, d34, d220, g24, g25, List.take_left' (by rw [leB_length]), List.take_left' (by rw [leB_length]), List.take_left' (by rw [leB_length]), List.take_left' (by rw [leB_length]), List.take_left' (by rw [leB_length]), lev_leB, lev_leB, lev_leB, lev_leB, lev_leB, UInt8.toNat_ofNat', UInt8.toNat_ofNat', List.take_left' hD]
 rw [Nat.mod_eq_of_lt hg, Nat.mod_eq_of_lt hs, Nat.mod_eq_of_lt hm, Nat.mod_eq_of_lt (show t < 256 ^ 8 from ht), Nat.mod_eq_of_lt (show c < 256 ^ 8 from hc8), Nat.mod_eq_of_lt (show k < 2 ^ 8 by omega), Nat.mod_eq_of_lt (show b.length < 2 ^ 8 by omega), List.take_left' rfl]
theorem rcL_25 (r : Rc) (h : r.ok) (hc : r.chk = true) : ((rcL r).getD 25 0).toNat = r.b.length := by
 have hb := (rcChk_len hc).1
 have e : (rcL r)[25]? = some (UInt8.ofNat r.b.length) := by
  unfold rcL crcClosed
  rw [List.append_assoc, List.getElem?_append_left (by rw [rcBody_len r (by omega)]; omega)]
  rfl
 rw [List.getD, e, Option.getD_some, UInt8.toNat_ofNat', Nat.mod_eq_of_lt (by omega)]
theorem rcGet_put (r : Rc) (h : r.ok) (hc : r.chk = true) : rcGetE (rcPutL r) = 0 ∧ rcGet (rcPutL r) = r := by
 have e : rcPutL r = rcL r := by unfold rcPutL; rw [if_pos hc]
 have hb := (rcChk_len hc).1
 have e2 := rcOf_put r h hc
 have e1 : rcGetE (rcL r) = 0 := by
  unfold rcGetE
  rw [if_neg (by rw [rcL_len r (by omega) h.2.2.2.2.2.2]; simp), if_neg (by unfold rcL; rw [crcHolds_closed]; simp), if_neg (by rw [rcL_25 r h hc]; omega), e2, if_pos ⟨hc, rfl⟩]
 rw [e]
 exact ⟨e1, by unfold rcGet; rw [if_pos e1, e2]⟩
theorem rcGet_ok (b : List UInt8) (h : rcGetE b = 0) : rcGet b = rcOf b ∧ b.length = 256 ∧ crcHolds b = true ∧ (rcGet b).chk = true ∧ rcL (rcGet b) = b ∧ rcPutL (rcGet b) = b ∧ (rcGet b).ok := by
 have e : rcGet b = rcOf b := by unfold rcGet; rw [if_pos h]
 rw [e]
 unfold rcGetE at h
 split at h
 ·simp at h
 ·rename_i h1
  split at h
  ·simp at h
  ·rename_i h2
   split at h
   ·simp at h
   ·split at h
    ·rename_i h3
     exact ⟨rfl, by simpa using h1, by simpa using h2, h3.1, h3.2, by unfold rcPutL; rw [if_pos h3.1, h3.2], rcOf_ok b (by simpa using h1)⟩
    ·simp at h
theorem rcGet_okk (b : List UInt8) : (rcGet b).ok ∧ (rcGet b).b.length ≤ 180 := by
 by_cases h : rcGetE b = 0
 ·obtain ⟨h1, h2, h3, h4, h5, h6, h7⟩ := rcGet_ok b h
  exact ⟨h7, (rcChk_len h4).1⟩
 ·unfold rcGet; rw [if_neg h]; exact ⟨rcZ_ok, by simp [rcZ]⟩
theorem rcL_take (r : Rc) (h : r.b.length ≤ 186) : (rcL r).take 220 = rcBody r := by
 unfold rcL crcClosed
 rw [List.append_assoc]; exact List.take_left' (rcBody_len r h)
theorem rcGet_take (b : List UInt8) (h : rcGetE b = 0) : b.take 220 = rcBody (rcGet b) := by
 obtain ⟨h1, h2, h3, h4, h5, h6, h7⟩ := rcGet_ok b h
 have := rcL_take (rcGet b) (by have := (rcChk_len h4).1; omega)
 rw [h5] at this; exact this
theorem rcMk_ok (P : List UInt8) (r : Rc) (h : r.ok) : (rcMk P r).ok := by
 obtain ⟨h1, h2, h3, h4, h5, h6, h7⟩ := h
 exact ⟨h1, h2, h3, h4, h5, h6, shLink_len _ _⟩
set_option maxHeartbeats 1000000
abbrev Jb := Int × List UInt8
structure Jn where
 g : Nat
 slot : Int
 next : Nat
 done : Nat
 will : Nat
 ch : List UInt8
 wait : List Jb
 ph : Int
 jobs : List Jb
 out : Int
 su : Su
 room : Int
 err : Int
structure Jn.ok (J : Jn) : Prop where
 g : J.g < 4294967296
 slot : -9223372036854775808 ≤ J.slot ∧ J.slot ≤ 9223372036854775807
 next : J.next < 4294967296
 done : J.done < 4294967296
 will : J.will < 4294967296
 ch : J.ch.length = 32
 ph : -9223372036854775808 ≤ J.ph ∧ J.ph ≤ 9223372036854775807
 out : -9223372036854775808 ≤ J.out ∧ J.out ≤ 9223372036854775807
 sg : J.su.g < 4294967296
 ss : -9223372036854775808 ≤ J.su.s ∧ J.su.s ≤ 9223372036854775807
 sl : -9223372036854775808 ≤ J.su.l ∧ J.su.l ≤ 9223372036854775807
 sD : J.su.D.length = 32
 room : -9223372036854775808 ≤ J.room ∧ J.room ≤ 9223372036854775807
 err : -9223372036854775808 ≤ J.err ∧ J.err ≤ 9223372036854775807
def jb1 (j : Jb) : Bool := decide (0 ≤ j.1) && (decide (j.1 < 256) && decide (j.2.length = 256))
def jbOk (l : List Jb) : Bool := l.all jb1
def jnCnt (J : Jn) : Bool := decide ((0 ≤ J.room ∧ J.room ≤ 158) ∧ (J.done ≤ J.will ∧ J.will ≤ J.next) ∧ (J.next : Int) ≤ J.room ∧ J.wait.length = J.next - J.will)
def jnChk (J : Jn) : Bool := decide (J.slot = 0 ∨ J.slot = 1) && (jnCnt J && (decide ((0 ≤ J.ph ∧ J.ph ≤ 7) ∧ (J.ph = 7 ↔ J.err ≠ 0)) && (decide ((0 ≤ J.out ∧ J.out ≤ 200) ∧ J.jobs.length ≤ 200) && (jbOk J.jobs && (jbOk J.wait && suCheck J.su.s J.su.l)))))
def jnBase (state : List UInt8) : List UInt8 := shOf (state ++ [1])
def jnZ : Jn := ⟨0, 0, 0, 0, 0, List.replicate 32 0, [], 0, [], 0, suZ, 0, 0⟩
def jnBeginE (slot room : Int) : Int := if (slot = 0 ∨ slot = 1) ∧ 0 ≤ room ∧ room ≤ 158 then 0 else 2
def jnBegin (g : Nat) (slot : Int) (ch : List UInt8) (room : Int) : Jn := if jnBeginE slot room = 0 then { jnZ with g := g, slot := slot, ch := ch, room := room } else jnZ
def jnGoing (J : Jn) : Int := if jnChk J = true then J.err else 3
def jnRec (J : Jn) (m t : Nat) (k : Int) (c : Nat) (b : List UInt8) : Rc := ⟨J.g, J.next, m, t, k, c, b, List.replicate 32 0⟩
def jnAppE (J : Jn) (k : Int) (c n : Nat) : Int := if jnGoing J ≠ 0 then jnGoing J else if rcChk k c n = false then 2 else if J.room ≤ (J.next : Int) then 4 else 0
def jnApp (J : Jn) (m t : Nat) (k : Int) (c : Nat) (b : List UInt8) : Jn := if jnAppE J k c b.length = 0 then { J with wait := J.wait ++ [(((98 + J.next : Nat) : Int), rcPutL (rcMk J.ch (jnRec J m t k c b)))], next := J.next + 1, ch := (rcMk J.ch (jnRec J m t k c b)).D } else J
def jnWoke (J : Jn) : Jn := if J.ph = 0 ∧ J.wait ≠ [] then { J with ph := 1, will := J.next, jobs := J.wait, wait := [] } else J
def jnHands (J : Jn) : Bool := decide (J.ph = 1 ∨ J.ph = 3 ∨ J.ph = 5)
def jnAskK (J : Jn) : Jn × Jb × Bool × Bool :=
 if jnHands J = false then (J, (0, []), false, false) else
  match J.jobs with
  | j :: l => ({ J with jobs := l, out := J.out + 1 }, j, false, true)
  | [] => if 0 < J.out then (J, (0, []), false, false) else ({ J with ph := J.ph + 1, out := 1 }, (0, []), true, true)
def jnAsk (J : Jn) : Jn × Jb × Bool × Bool := if jnChk J = false then (J, (0, []), false, false) else jnAskK (jnWoke J)
def jnCameE (J : Jn) : Int := if jnChk J = false then 3 else if J.ph = 7 ∨ J.out = 0 then 8 else 0
def jnCameK (J : Jn) (well : Bool) : Jn :=
 if well = false then { J with ph := 7, err := 90, jobs := [] } else
  if J.ph = 4 then { J with jobs := [(((J.su.g % 2 : Nat) : Int), suPutL J.su.g J.su.s J.su.l J.su.D)], ph := 5 } else
  if J.ph = 2 then { J with done := J.will, ph := 0 } else if J.ph = 6 then { J with ph := 0 } else J
def jnCame (J : Jn) (well : Bool) : Jn := if jnCameE J = 0 then jnCameK { J with out := J.out - 1 } well else J
def jnSec (state : List UInt8) (i : Nat) : List UInt8 := ((state.drop (256 * i)).take 256 ++ List.replicate 256 0).take 256
def jnSplitK (state : List UInt8) (at_ : Int) (n : Nat) : List Jb := (List.range n).map (fun (i : Nat) => (at_ + (i : Int), jnSec state i))
def jnSplit (state : List UInt8) (slot : Int) : List Jb := jnSplitK state (if slot = 0 then 2 else 50) ((state.length + 255) / 256)
def jnSaveE (J : Jn) (state : List UInt8) : Int := if jnGoing J ≠ 0 then jnGoing J else if J.ph ≠ 0 ∨ J.done ≠ J.next then 8 else if 12288 < state.length ∨ J.g = 4294967295 then 4 else 0
def jnSaved (J : Jn) (state : List UInt8) : Jn := ⟨J.g + 1, 1 - J.slot, 0, 0, 0, jnBase state, [], 3, jnSplit state (1 - J.slot), J.out, ⟨J.g + 1, 1 - J.slot, (state.length : Int), jnBase state⟩, J.room, 0⟩
def jnSave (J : Jn) (state : List UInt8) : Jn := if jnSaveE J state = 0 then jnSaved J state else J
def jnFmtE (state : List UInt8) (n : Int) : Int := if n < 98 ∨ 256 < n then 2 else if 12288 < state.length then 4 else 0
def jnFmtJobs (state : List UInt8) : List Jb := jnSplit state 0 ++ [(1, suPutL 1 0 (state.length : Int) (jnBase state))]
def jnWrites (D : Dk) (l : List Jb) : Dk := l.foldl (fun D j => dkWrite D j.1 j.2) D
def jnFmt (state : List UInt8) (n : Int) : Dk := if jnFmtE state n = 0 then dkFlush (jnWrites (dkNew n) (jnFmtJobs state)) else ⟨[], []⟩
def jnHadK (D : Dk) (at_ : Int) : Nat → List UInt8
 | 0 => []
 | k + 1 => jnHadK D at_ k ++ dkRead D (at_ + (k : Int))
def jnHad (D : Dk) (s : Su) : List UInt8 := (jnHadK D (if s.s = 0 then 2 else 50) ((s.l.toNat + 255) / 256)).take s.l.toNat
def jnRecs (D : Dk) (g : Nat) : Nat → Nat → List UInt8 → List Rc
 | 0, _, _ => []
 | k + 1, i, P => if rcFolE P g i (dkRead D (98 + (i : Int))) = 0 then rcGet (dkRead D (98 + (i : Int))) :: jnRecs D g k (i + 1) (rcGet (dkRead D (98 + (i : Int)))).D else []
def jnLoadS (D : Dk) : Su := suCh (dkRead D 0) (dkRead D 1)
def jnLoadE (D : Dk) : Int := if dkOk D = false then 3 else if D.s.length < 98 then 5 else if suChE (dkRead D 0) (dkRead D 1) ≠ 0 then suChE (dkRead D 0) (dkRead D 1) else if jnBase (jnHad D (jnLoadS D)) ≠ (jnLoadS D).D then 6 else 0
def jnLoadR (D : Dk) : List Rc := jnRecs D (jnLoadS D).g (D.s.length - 98) 0 (jnLoadS D).D
end Go.Proofs.YtpahicfnhhhifaaGreat
