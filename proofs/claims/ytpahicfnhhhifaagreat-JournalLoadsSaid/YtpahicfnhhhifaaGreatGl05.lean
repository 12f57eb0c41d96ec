/-
 Proved here, for the statement JournalLoads:
 Layer 14: journals, in plain Lean (no program in sight).
 The walks of package crc and of the reference of layer 2.
-/
import Derived.RegionTactic
import Derived.ChangeAlike
import Derived.DeepKeys
import Derived.Test.YtpahicfnhhhifaaGreatGl04
set_option linter.unusedVariables false
set_option linter.unusedSimpArgs false
namespace Go.Proofs.YtpahicfnhhhifaaGreat
set_option maxRecDepth 20000
set_option maxHeartbeats 1000000
abbrev Jb := Int × List UInt8
structure Jn where
 g : Nat
 slot : Int
 next : Nat
 done : Nat
 will : Nat
 ch : List UInt8
 wait : List Jb
 ph : Int
 jobs : List Jb
 out : Int
 su : Su
 room : Int
 err : Int
structure Jn.ok (J : Jn) : Prop where
 g : J.g < 4294967296
 slot : -9223372036854775808 ≤ J.slot ∧ J.slot ≤ 9223372036854775807
 next : J.next < 4294967296
 done : J.done < 4294967296
 will : J.will < 4294967296
 ch : J.ch.length = 32
 ph : -9223372036854775808 ≤ J.ph ∧ J.ph ≤ 9223372036854775807
 out : -9223372036854775808 ≤ J.out ∧ J.out ≤ 9223372036854775807
 sg : J.su.g < 4294967296
 ss : -9223372036854775808 ≤ J.su.s ∧ J.su.s ≤ 9223372036854775807
 sl : -9223372036854775808 ≤ J.su.l ∧ J.su.l ≤ 9223372036854775807
 sD : J.su.D.length = 32
 room : -9223372036854775808 ≤ J.room ∧ J.room ≤ 9223372036854775807
 err : -9223372036854775808 ≤ J.err ∧ J.err ≤ 9223372036854775807
def jb1 (j : Jb) : Bool := decide (0 ≤ j.1) && (decide (j.1 < 256) && decide (j.2.length = 256))
def jbOk (l : List Jb) : Bool := l.all jb1
def jnCnt (J : Jn) : Bool := decide ((0 ≤ J.room ∧ J.room ≤ 158) ∧ (J.done ≤ J.will ∧ J.will ≤ J.next) ∧ (J.next : Int) ≤ J.room ∧ J.wait.length = J.next - J.will)
def jnChk (J : Jn) : Bool := decide (J.slot = 0 ∨ J.slot = 1) && (jnCnt J && (decide ((0 ≤ J.ph ∧ J.ph ≤ 7) ∧ (J.ph = 7 ↔ J.err ≠ 0)) && (decide ((0 ≤ J.out ∧ J.out ≤ 200) ∧ J.jobs.length ≤ 200) && (jbOk J.jobs && (jbOk J.wait && suCheck J.su.s J.su.l)))))
def jnBase (state : List UInt8) : List UInt8 := shOf (state ++ [1])
def jnZ : Jn := ⟨0, 0, 0, 0, 0, List.replicate 32 0, [], 0, [], 0, suZ, 0, 0⟩
def jnBeginE (slot room : Int) : Int := if (slot = 0 ∨ slot = 1) ∧ 0 ≤ room ∧ room ≤ 158 then 0 else 2
def jnBegin (g : Nat) (slot : Int) (ch : List UInt8) (room : Int) : Jn := if jnBeginE slot room = 0 then { jnZ with g := g, slot := slot, ch := ch, room := room } else jnZ
def jnGoing (J : Jn) : Int := if jnChk J = true then J.err else 3
def jnRec (J : Jn) (m t : Nat) (k : Int) (c : Nat) (b : List UInt8) : Rc := ⟨J.g, J.next, m, t, k, c, b, List.replicate 32 0⟩
def jnAppE (J : Jn) (k : Int) (c n : Nat) : Int := if jnGoing J ≠ 0 then jnGoing J else if rcChk k c n = false then 2 else if J.room ≤ (J.next : Int) then 4 else 0
def jnApp (J : Jn) (m t : Nat) (k : Int) (c : Nat) (b : List UInt8) : Jn := if jnAppE J k c b.length = 0 then { J with wait := J.wait ++ [(((98 + J.next : Nat) : Int), rcPutL (rcMk J.ch (jnRec J m t k c b)))], next := J.next + 1, ch := (rcMk J.ch (jnRec J m t k c b)).D } else J
def jnWoke (J : Jn) : Jn := if J.ph = 0 ∧ J.wait ≠ [] then { J with ph := 1, will := J.next, jobs := J.wait, wait := [] } else J
def jnHands (J : Jn) : Bool := decide (J.ph = 1 ∨ J.ph = 3 ∨ J.ph = 5)
def jnAskK (J : Jn) : Jn × Jb × Bool × Bool :=
 if jnHands J = false then (J, (0, []), false, false) else
  match J.jobs with
  | j :: l => ({ J with jobs := l, out := J.out + 1 }, j, false, true)
  | [] => if 0 < J.out then (J, (0, []), false, false) else ({ J with ph := J.ph + 1, out := 1 }, (0, []), true, true)
def jnAsk (J : Jn) : Jn × Jb × Bool × Bool := if jnChk J = false then (J, (0, []), false, false) else jnAskK (jnWoke J)
def jnCameE (J : Jn) : Int := if jnChk J = false then 3 else if J.ph = 7 ∨ J.out = 0 then 8 else 0
def jnCameK (J : Jn) (well : Bool) : Jn :=
 if well = false then { J with ph := 7, err := 90, jobs := [] } else
  if J.ph = 4 then { J with jobs := [(((J.su.g % 2 : Nat) : Int), suPutL J.su.g J.su.s J.su.l J.su.D)], ph := 5 } else
  if J.ph = 2 then { J with done := J.will, ph := 0 } else if J.ph = 6 then { J with ph := 0 } else J
def jnCame (J : Jn) (well : Bool) : Jn := if jnCameE J = 0 then jnCameK { J with out := J.out - 1 } well else J
def jnSec (state : List UInt8) (i : Nat) : List UInt8 := ((state.drop (256 * i)).take 256 ++ List.replicate 256 0).take 256
def jnSplitK (state : List UInt8) (at_ : Int) (n : Nat) : List Jb := (List.range n).map (fun (i : Nat) => (at_ + (i : Int), jnSec state i))
def jnSplit (state : List UInt8) (slot : Int) : List Jb := jnSplitK state (if slot = 0 then 2 else 50) ((state.length + 255) / 256)
def jnSaveE (J : Jn) (state : List UInt8) : Int := if jnGoing J ≠ 0 then jnGoing J else if J.ph ≠ 0 ∨ J.done ≠ J.next then 8 else if 12288 < state.length ∨ J.g = 4294967295 then 4 else 0
def jnSaved (J : Jn) (state : List UInt8) : Jn := ⟨J.g + 1, 1 - J.slot, 0, 0, 0, jnBase state, [], 3, jnSplit state (1 - J.slot), J.out, ⟨J.g + 1, 1 - J.slot, (state.length : Int), jnBase state⟩, J.room, 0⟩
def jnSave (J : Jn) (state : List UInt8) : Jn := if jnSaveE J state = 0 then jnSaved J state else J
def jnFmtE (state : List UInt8) (n : Int) : Int := if n < 98 ∨ 256 < n then 2 else if 12288 < state.length then 4 else 0
def jnFmtJobs (state : List UInt8) : List Jb := jnSplit state 0 ++ [(1, suPutL 1 0 (state.length : Int) (jnBase state))]
def jnWrites (D : Dk) (l : List Jb) : Dk := l.foldl (fun D j => dkWrite D j.1 j.2) D
def jnFmt (state : List UInt8) (n : Int) : Dk := if jnFmtE state n = 0 then dkFlush (jnWrites (dkNew n) (jnFmtJobs state)) else ⟨[], []⟩
def jnHadK (D : Dk) (at_ : Int) : Nat → List UInt8
 | 0 => []
 | k + 1 => jnHadK D at_ k ++ dkRead D (at_ + (k : Int))
def jnHad (D : Dk) (s : Su) : List UInt8 := (jnHadK D (if s.s = 0 then 2 else 50) ((s.l.toNat + 255) / 256)).take s.l.toNat
def jnRecs (D : Dk) (g : Nat) : Nat → Nat → List UInt8 → List Rc
 | 0, _, _ => []
 | k + 1, i, P => if rcFolE P g i (dkRead D (98 + (i : Int))) = 0 then rcGet (dkRead D (98 + (i : Int))) :: jnRecs D g k (i + 1) (rcGet (dkRead D (98 + (i : Int)))).D else []
def jnLoadS (D : Dk) : Su := suCh (dkRead D 0) (dkRead D 1)
def jnLoadE (D : Dk) : Int := if dkOk D = false then 3 else if D.s.length < 98 then 5 else if suChE (dkRead D 0) (dkRead D 1) ≠ 0 then suChE (dkRead D 0) (dkRead D 1) else if jnBase (jnHad D (jnLoadS D)) ≠ (jnLoadS D).D then 6 else 0
def jnLoadR (D : Dk) : List Rc := jnRecs D (jnLoadS D).g (D.s.length - 98) 0 (jnLoadS D).D
end Go.Proofs.YtpahicfnhhhifaaGreat
namespace Go.Proofs.YtpahicfnhhhifaaGreat
set_option maxRecDepth 20000
open Go.RowKit
theorem crcNext_any (x c : Nat) (hx : x < 4294967296) (hc : c < 256) (w : World) :
  Calls Tryz.prog 159 #[.int .u32 x, .int .u8 c] w fun e w' => e = .returned (.int .u32 (crcNext x c)) ∧ w = w' := by
 have e1 := u32_xor_nat x c hx (by omega)
 have hlt : x ^^^ c < 4294967296 := Nat.xor_lt_two_pow (n := 32) (by omega) (by omega)
 have H := hlt
 go_enter Tryz.func159, Tryz.ntmps159
 go_wp2
 go_step3
 go_wp2
 go_step3
 go_wp2
 go_loop [0, 5] (fun a b => ∃ k y : Nat, k ≤ 8 ∧ y < 4294967296 ∧ crcBits k y = crcNext x c ∧ a = .int .u32 y ∧ b = .int .i64 k) (fun _ b => (intOf b).toNat)
 case atStart => exact ⟨8, _, Nat.le_refl _, hlt, rfl, rfl, rfl⟩
 case round =>
  obtain ⟨k, y, hk, hy, hr, rfl, rfl⟩ := hrel
  have HR := Lib.hid hr
  clear hr
  rcases Nat.eq_zero_or_pos k with rfl | hpos
  ·go_wp2
   go_ret
   exact ⟨by rw [← HR.out]; rfl, rfl⟩
  ·obtain ⟨j, rfl⟩ : ∃ j, k = j + 1 := ⟨k - 1, by omega⟩
   have hb : crcBit y < 4294967296 := crcBit_lt hy
   have e2 := u32_and_nat y 1 hy (by omega)
   rw [nat_mask1] at e2
   have k0 : (((j + 1 : Nat) : Int) == 0) = false := by simp; omega
   by_cases he : y % 2 = 0
   ·have hB : crcBit y = y / 2 := by unfold crcBit; rw [if_pos he]
    have HB := Lib.hid hB
    have e3 : bits .and .u32 (y : Int) 1 = 0 := by rw [show (1 : Int) = ((1 : Nat) : Int) from rfl, e2, he]; rfl
    clear e2 hB he
    go_wp2
    go_round
    case rel => exact ⟨j, crcBit y, by omega, hb, HR.out, by rw [HB.out]; go_num, by go_num⟩
    case measure => simp [intOf] <;> omega
   ·have hB : crcBit y = y / 2 ^^^ 2197175160 := by unfold crcBit; rw [if_neg he]
    have HB := Lib.hid hB
    have e3 : bits .and .u32 (y : Int) 1 = 1 := by rw [show (bits .and .u32 (y : Int) 1 : Int) = _ from e2, show y % 2 = 1 by omega]; rfl
    have e4 : bits .xor .u32 ((y : Int) / 2) 2197175160 = ((y / 2 ^^^ 2197175160 : Nat) : Int) := u32_xor_nat (y / 2) 2197175160 (by omega) (by omega)
    clear e2 hB he
    go_wp2
    go_round
    case rel => exact ⟨j, crcBit y, by omega, hb, HR.out, by rw [HB.out], by go_num⟩
    case measure => simp [intOf] <;> omega
theorem refNext_any (x c : Nat) (hx : x < 4294967296) (hc : c < 256) (w : World) :
  Calls Tryz.prog 153 #[.int .u32 x, .int .u8 c] w fun e w' => e = .returned (.int .u32 (crcNext x c)) ∧ w = w' := by
 have e1 := u32_xor_nat x c hx (by omega)
 have hlt : x ^^^ c < 4294967296 := Nat.xor_lt_two_pow (n := 32) (by omega) (by omega)
 have H := hlt
 go_enter Tryz.func153, Tryz.ntmps153
 go_wp2
 go_loop [0, 5] (fun a b => ∃ k y i : Nat, k + i = 8 ∧ y < 4294967296 ∧ crcBits k y = crcNext x c ∧ a = .int .u32 y ∧ b = .int .i64 i) (fun _ b => 8 - (intOf b).toNat)
 case atStart => exact ⟨8, _, 0, rfl, hlt, rfl, rfl, rfl⟩
 case round =>
  obtain ⟨k, y, i, hk, hy, hr, rfl, rfl⟩ := hrel
  have HR := Lib.hid hr
  have hk1 : k + i ≤ 8 := by omega
  have hk2 : 8 ≤ k + i := by omega
  clear hr hk
  rcases Nat.eq_zero_or_pos k with rfl | hpos
  ·have hi : ¬ ((i : Int) < 8) := by omega
   go_wp2
   go_ret
   exact ⟨by rw [← HR.out]; rfl, rfl⟩
  ·obtain ⟨j, rfl⟩ : ∃ j, k = j + 1 := ⟨k - 1, by omega⟩
   have hb : crcBit y < 4294967296 := crcBit_lt hy
   have hi : (i : Int) < 8 := by omega
   by_cases he : y % 2 = 0
   ·have hB : crcBit y = y / 2 := by unfold crcBit; rw [if_pos he]
    have HB := Lib.hid hB
    have e3 : ((y : Int) % 2 == 1) = false := by simp; omega
    clear hB he
    go_wp2
    go_round
    case rel => exact ⟨j, crcBit y, i + 1, by omega, hb, HR.out, by rw [HB.out]; go_num, by go_num⟩
    case measure => simp [intOf] <;> omega
   ·have hB : crcBit y = y / 2 ^^^ 2197175160 := by unfold crcBit; rw [if_neg he]
    have HB := Lib.hid hB
    have e3 : ((y : Int) % 2 == 1) = true := by simp; omega
    have e4 : bits .xor .u32 ((y : Int) / 2) 2197175160 = ((y / 2 ^^^ 2197175160 : Nat) : Int) := u32_xor_nat (y / 2) 2197175160 (by omega) (by omega)
    clear hB he
    go_wp2
    go_round
    case rel => exact ⟨j, crcBit y, i + 1, by omega, hb, HR.out, by rw [HB.out], by go_num⟩
    case measure => simp [intOf] <;> omega
theorem not_u32 (r : Nat) (h : r < 4294967296) : bits .xor .u32 IntKind.u32.max (r : Int) = ((4294967295 - r : Nat) : Int) := by
 rw [show IntKind.u32.max = ((4294967295 : Nat) : Int) from by decide, u32_xor_nat _ _ (by omega) h, Nat.xor_comm, ← not_xor h]
def GoingI (g n x : Nat) (xs : List UInt8) (w : World) (i : Value) (wr : World) : Prop :=
 ∃ k, k ≤ n ∧ i = .int .i64 (k : Nat) ∧ wr.cell? ⟨g, 0, none⟩ = some (.int .u32 (crcReg x (xs.take k) : Nat)) ∧ wr.frozen? ⟨g, 0, none⟩ = false ∧ Below g w wr
def RetG (g : Nat) (w : World) (v : Value) (e : Ending) (w' : World) : Prop := e = .returned v ∧ Below g w w'
theorem going_any (A : Option Addr) (n c g x : Nat) (xs : List UInt8) (w : World) (hr : RdB w A n c xs) (hl : 0 < n → ∀ a, A = some a → a.block < g) (hx : x < 4294967296)
  (hc : w.cell? ⟨g, 0, none⟩ = some (.int .u32 x)) (hf : w.frozen? ⟨g, 0, none⟩ = false) :
  Calls Tryz.prog 158 #[.slice A n c, .pointer (some ⟨g, 0, none⟩)] w (RetG g w (.int .u32 ((4294967295 - crcReg x xs : Nat) : Int))) := by
 have hn63 : n ≤ 9223372036854775807 := by have := hr.2.2; unfold maxLen at this; omega
 go_enter Tryz.func158, Tryz.ntmps158
 go_wp2
 go_loopw [8] (GoingI g n x xs w) (fun i _ => n - (intOf i).toNat)
 case atStart => exact ⟨0, Nat.zero_le _, rfl, hc, hf, Below.refl _ _⟩
 case round =>
  obtain ⟨k, hk, rfl, hc1, hf1, hb1⟩ := hrel
  clear hc hf
  by_cases hlt : k < n
  ·obtain ⟨b, o, u, rfl, hb, hxk, hcell⟩ := hr.at_ k hlt
   have hbg : b < g := hl (by omega) _ rfl
   have hcell1 : wr.cell? ⟨b, o + k, none⟩ = some (.int .u8 (u.toNat : Int)) := (hb1.cell (p := ⟨b, o + k, none⟩) hbg).trans hcell
   have hs : crcReg x (xs.take (k + 1)) = crcNext (crcReg x (xs.take k)) u.toNat := by
    rw [List.take_add_one, hxk]; exact crcReg_snoc _ _ _
   have hy := crcReg_lt (xs.take k) x hx
   have hu := u.toNat_lt
   have hne : ¬ (g = b) := by omega
   have HS := Lib.hid hs
   clear hs hxk hcell
   go_wp2_with (go_at_call 159; refine (crcNext_any _ _ hy hu _).mono ?_; rintro e w' ⟨rfl, rfl⟩)
   go_roundw
   case rel => exact ⟨k + 1, by omega, by go_num, by rw [HS.out]; simp [go_sem, hc1], by simpa [go_sem] using hf1, hb1.setCell (Nat.le_refl _) _⟩
   case measure => simp [intOf] <;> omega
  ·obtain rfl : k = n := by omega
   have hall : xs.take k = xs := List.take_of_length_le (by rw [hr.2.1]; omega)
   rw [hall] at hc1
   have hy := crcReg_lt xs x hx
   have HA := Lib.hid hall
   clear hall
   have e5 := not_u32 _ hy
   go_wp2
   go_ret
   exact ⟨rfl, hb1⟩
theorem crcOf_any (A : Option Addr) (n c : Nat) (xs : List UInt8) (w : World) (hr : RdB w A n c xs) :
  Calls Tryz.prog 130 #[.slice A n c] w (RetV w (.int .u32 (crcOf xs : Nat))) := by
 go_enter Tryz.func130, Tryz.ntmps130
 go_wp2_with (first | (go_at_call 158; refine (going_any A n c _ 4294967295 xs _ (by exact hr.alloc _) hr.lt (by omega) (by simp) (by simp)).mono ?_; rintro e w' ⟨rfl, hb1⟩) | go_in)
 go_ret
 exact ⟨rfl, ((Below.refl _ _).alloc (Nat.le_refl _) _).trans hb1⟩
def OfI (n : Nat) (xs : List UInt8) (v i : Value) : Prop := ∃ k, k ≤ n ∧ i = .int .i64 (k : Nat) ∧ v = .int .u32 (crcReg 4294967295 (xs.take k) : Nat)
theorem refOf_any (A : Option Addr) (n c : Nat) (xs : List UInt8) (w : World) (hr : RdB w A n c xs) :
  Calls Tryz.prog 132 #[.slice A n c] w fun e w' => e = .returned (.int .u32 (crcOf xs : Nat)) ∧ w = w' := by
 have hn63 := hr.n63
 go_enter Tryz.func132, Tryz.ntmps132
 go_wp2
 go_loop [3, 4] (OfI n xs) (fun _ i => n - (intOf i).toNat)
 case atStart => exact ⟨0, Nat.zero_le _, rfl, rfl⟩
 case round =>
  obtain ⟨k, hk, rfl, rfl⟩ := hrel
  by_cases hlt : k < n
  ·obtain ⟨b, o, u, rfl, hb, hxk, hcell⟩ := hr.at_ k hlt
   have hs : crcReg 4294967295 (xs.take (k + 1)) = crcNext (crcReg 4294967295 (xs.take k)) u.toNat := by
    rw [List.take_add_one, hxk]; exact crcReg_snoc _ _ _
   have hy := crcReg_lt (xs.take k) 4294967295 (by omega)
   have hu := u.toNat_lt
   have HS := Lib.hid hs
   clear hs hxk
   go_wp2_with (go_at_call 153; refine (refNext_any _ _ hy hu _).mono ?_; rintro e w' ⟨rfl, rfl⟩)
   go_round
   case rel => exact ⟨k + 1, by omega, by go_num, by rw [HS.out]⟩
   case measure => simp [intOf] <;> omega
  ·obtain rfl : k = n := by omega
   have hall : xs.take k = xs := List.take_of_length_le (by rw [hr.2.1]; omega)
   rw [hall]
   have hy := crcReg_lt xs 4294967295 (by omega)
   have ho : crcOf xs = 4294967295 - crcReg 4294967295 xs := rfl
   have HO := Lib.hid ho
   clear ho hall
   go_wp2
   go_ret
   exact ⟨by rw [HO.out, Int.ofNat_sub (by omega)]; rfl, rfl⟩
theorem laid_any (s : Nat) (w : World) (hs : s < 4294967296) : Calls Tryz.prog 129 #[.int .u32 s] w (RetB w (le4 s)) := by
 go_enter Tryz.func129, Tryz.ntmps129
 go_wp2
 go_ret
 exact ⟨_, _, _, rfl, OwnB.lit w _ (le4 s) 4 (by simp [le4, vB]; omega) rfl (by simp [maxLen]), (Below.refl _ _).alloc (Nat.le_refl _) _⟩
theorem closed_any (A : Option Addr) (n c : Nat) (xs : List UInt8) (w : World) (hr : RdB w A n c xs) (hm : n ≤ 35184372088832) :
  Calls Tryz.prog 91 #[.slice A n c] w (RetB w (crcClosed xs)) := by
 have hlt := crcOf_lt xs
 go_enter Tryz.func91, Tryz.ntmps91
 go_wp2_with (first | (go_at_call 130; refine (crcOf_any A n c xs _ hr).mono ?_; rintro e w1 ⟨rfl, hb1⟩) | (go_at_call 129; refine (laid_any _ _ hlt).mono ?_; rintro e w2 ⟨A2, n2, c2, rfl, ho2, hb2⟩))
 have hlen : ([xs, le4 (crcOf xs)] : List (List UInt8)).flatten.length ≤ 70368744177664 := by have := hr.2.1; simp [le4_length]; omega
 have hbb := below_then hb1 hb2
 refine (concat_any _ _ _ [.slice A n c, .slice A2 n2 c2] [xs, le4 (crcOf xs)] _ (Rd.new w2 #[.slice A n c, .slice A2 n2 c2] _) rfl (by simp)
  ⟨⟨_, _, _, rfl, (hr.below hbb).alloc _⟩, ⟨_, _, _, rfl, ho2.rd.alloc _⟩, trivial⟩ hlen).mono ?_
 rintro e w3 ⟨A3, n3, c3, rfl, ho3, hb3⟩
 have hb : Below w.heap.size w w3 := below_then (hbb.alloc hbb.size _) hb3
 have hsz := hbb.size
 go_wp2
 go_ret
 exact ⟨_, _, _, rfl, OwnB.mono (by simpa [crcClosed] using ho3) (by omega), hb⟩
theorem holds_short (A : Option Addr) (n c : Nat) (w : World) (h : n < 4) :
  Calls Tryz.prog 145 #[.slice A n c] w (RetV w (.bool false)) := by
 have hd : decide ((4 : Int) ≤ (n : Int)) = false := by simp; omega
 go_enter Tryz.func145, Tryz.ntmps145
 go_wp2_with fail
 go_quiet (fail)
 go_wp2
 go_ret
 exact ⟨rfl, by simpa using below_drewN (Below.refl _ w) _⟩
theorem holds_long (A : Option Addr) (n c : Nat) (xs : List UInt8) (w : World) (hr : RdB w A n c xs) (hm : n ≤ 35184372088832) (h : 4 ≤ n) :
  Calls Tryz.prog 145 #[.slice A n c] w (RetV w (.bool (crcHolds xs))) := by
 have hres : crcHolds xs = decide (le4 (crcOf (xs.take (n - 4))) = xs.drop (n - 4)) := by
  unfold crcHolds
  rw [hr.2.1, decide_eq_true h, Bool.true_and]
  congr 1
  exact propext ⟨Eq.symm, Eq.symm⟩
 obtain ⟨m, rfl⟩ : ∃ m, n = m + 4 := ⟨n - 4, by omega⟩
 rw [show m + 4 - 4 = m by omega] at hres
 have hd : decide ((0 : Int) ≤ ((m + 4 : Nat) : Int) - 4) = true := by simp
 have hc := hr.2.2.1
 have hr1 := hr.take m (by omega)
 have hr2 := hr.cut m 4 rfl (by omega)
 have hlt := crcOf_lt (xs.take m)
 have k0 : (0 : Int) ≤ (m : Int) := by omega
 have k1 : (m : Int) ≤ (c : Int) := by omega
 have k2 : (m : Int) ≤ (m : Int) + 4 := by omega
 have k3 : (m : Int) + 4 ≤ (c : Int) := by omega
 have k4 : ¬ (c = m) := by omega
 have HR := Lib.hid hres
 clear hres
 go_enter Tryz.func145, Tryz.ntmps145
 go_wp2_with fail
 go_region_held3 (fun _ => True) (trivial) (first
  | (go_at_call 130; refine (crcOf_any A m c _ _ (by exact hr1)).mono ?_; rintro e w1 ⟨rfl, hb1⟩)
  | (go_at_call 129; refine (laid_any _ _ hlt).mono ?_; rintro e w2 ⟨A2, n2, c2, rfl, ho2, hb2⟩)
  | (go_at_call 156; refine (equal_any _ _ _ _ _ _ _ _ _ (by exact ho2.rd) (by exact (hr2.drew.below hb1).below hb2)).mono ?_; rintro e w3 ⟨rfl, q, rfl⟩))
 go_wp2
 go_ret
 rw [HR.out]
 exact ⟨rfl, below_drewN (undrew (below_then hb1 hb2)) _⟩
theorem holds_any (A : Option Addr) (n c : Nat) (xs : List UInt8) (w : World) (hr : RdB w A n c xs) (hm : n ≤ 35184372088832) :
  Calls Tryz.prog 145 #[.slice A n c] w (RetV w (.bool (crcHolds xs))) := by
 by_cases h : 4 ≤ n
 ·exact holds_long A n c xs w hr hm h
 ·have e : crcHolds xs = false := by unfold crcHolds; rw [hr.2.1, decide_eq_false h, Bool.false_and]
  rw [e]
  exact holds_short A n c w (by omega)
theorem refClosed_any (A : Option Addr) (n c : Nat) (xs : List UInt8) (w : World) (hr : RdB w A n c xs) (hm : n ≤ 35184372088832) :
  Calls Tryz.prog 95 #[.slice A n c] w (RetB w (crcClosed xs)) := by
 have hlt := crcOf_lt xs
 have hlen := hr.2.1
 have HL := Lib.hid hlen
 clear hlen
 have hown := World.ownsRow_lit (size := 1) (e := 5) w #[] 0 (Nat.le_refl _) (by simp [maxLen]) rfl
 go_enter Tryz.func95, Tryz.ntmps95
 have arm : ∀ (w4 : World) (A4 : Option Addr) (c4 : Nat), w4.ownsRow w.heap.size 5 1 (.slice A4 (0 + n) c4) (0 + n) ([] ++ xs.map vB) → (w4.alloc (.cells #[.int .u8 ((crcOf xs : Int) % 256), .int .u8 ((crcOf xs : Int) / 256 % 256), .int .u8 ((crcOf xs : Int) / 65536 % 256), .int .u8 ((crcOf xs : Int) / 16777216)] 5)).ownsRow w.heap.size 5 1 (.slice A4 n c4) n (xs.map vB) :=
  fun w4 A4 c4 h => by simpa using h.alloc _
 have hl4 : ∀ (w4 : World), Rd (w4.alloc (.cells #[.int .u8 ((crcOf xs : Int) % 256), .int .u8 ((crcOf xs : Int) / 256 % 256), .int .u8 ((crcOf xs : Int) / 65536 % 256), .int .u8 ((crcOf xs : Int) / 16777216)] 5)) (some ⟨w4.heap.size, 0, none⟩) ((le4 (crcOf xs)).map vB) := fun w4 => by
  have h := Rd.new w4 #[.int .u8 ((crcOf xs : Int) % 256), .int .u8 ((crcOf xs : Int) / 256 % 256), .int .u8 ((crcOf xs : Int) / 65536 % 256), .int .u8 ((crcOf xs : Int) / 16777216)] 5
  have e : ((le4 (crcOf xs)).map vB) = [.int .u8 ((crcOf xs : Int) % 256), .int .u8 ((crcOf xs : Int) / 256 % 256), .int .u8 ((crcOf xs : Int) / 65536 % 256), .int .u8 ((crcOf xs : Int) / 16777216)] := by
   simp [le4, vB]; omega
  rw [e]
  exact h
 have hbs : ∀ (w4 : World), (w.alloc (.cells #[] 5)).grownBy w4 (some w.heap.size) → w.heap.size ≤ w4.heap.size := fun w4 h => by have := h.size; simp at this; omega
 go_wp2_with (first
  | (go_at_call 132; refine (refOf_any A n c xs _ hr).mono ?_; rintro e w1 ⟨rfl, rfl⟩)
  | (at_builtin; refine wp_app rfl _ _ 47 5 rfl elemB _ _ n _ rfl (arm _ _ _ ho4) _ 4 4 _ rfl (hl4 _) rfl (oneCell_vB _) (by unfold maxLen; omega) (by omega) (by have := hbs _ hg4; simp; omega) ?_; intro A5 c5 w5 ho5 hg5)
  | (at_builtin; refine wp_app rfl _ _ 47 5 rfl elemB _ _ 0 _ rfl hown _ n c _ rfl (hr.1.alloc _) (by simpa using HL.out) (oneCell_vB _) (by unfold maxLen; omega) (by omega) (by simp) ?_; intro A4 c4 w4 ho4 hg4))
 have hb4 : Below w.heap.size w w4 := ((Below.refl _ _).alloc (Nat.le_refl _) _).grown hg4 (by simp) (fun q hq => (hown.lt q hq).1)
 have hb5 : Below w.heap.size w w5 := (hb4.alloc hb4.size _).grown hg5 (by have := hb4.size; simp; omega) (fun q hq => ((arm _ _ _ ho4).lt q hq).1)
 go_wp2
 go_ret
 exact ⟨_, _, _, rfl, by unfold OwnB; rw [crcClosed, List.map_append]; exact ho5, hb5⟩
theorem refHolds_long (A : Option Addr) (n c : Nat) (xs : List UInt8) (w : World) (hr : RdB w A n c xs) (hm : n ≤ 35184372088832) (h : 4 ≤ n) :
  Calls Tryz.prog 149 #[.slice A n c] w (RetV w (.bool (crcHolds xs))) := by
 have hres : crcHolds xs = decide (crcClosed (xs.take (n - 4)) = xs) := by
  rw [crcHolds_as _ (by rw [hr.2.1]; exact h), hr.2.1]
 obtain ⟨m, rfl⟩ : ∃ m, n = m + 4 := ⟨n - 4, by omega⟩
 rw [show m + 4 - 4 = m by omega] at hres
 have hd : decide ((4 : Int) ≤ ((m + 4 : Nat) : Int)) = true := by simp; omega
 have hd' : decide ((4 : Int) ≤ (m : Int) + 4) = true := by simp; omega
 have hc := hr.2.2.1
 have hr1 := hr.take m (by omega)
 have k0 : (0 : Int) ≤ (m : Int) := by omega
 have k1 : (m : Int) ≤ (c : Int) := by omega
 have k3 : (m : Int) + 4 ≤ (c : Int) := by omega
 have k5 : IntKind.i64.wrap (m : Int) = (m : Int) := IntWalk.i64_in _ (by omega)
 have ks := strOf_eq (crcClosed (xs.take m)) xs
 have HR := Lib.hid hres
 clear hres
 go_enter Tryz.func149, Tryz.ntmps149
 go_wp2_with fail
 refine wp_region_plan (S := fun w' => Below w.heap.size w w') [(0, true), (1, true), (2, true), (3, true), (4, true), (5, true), (6, true), (7, true), (8, true), (11, true), (12, true), (9, false), (10, false), (13, true), (14, true), (15, true)] (by kernel_rfl) (by kernel_rfl) (fun _ _ d _ _ h => by cases d <;> exact h) ((Below.refl _ w).drew) ?_
 iterate 11 (refine plan_take (v := ?_) rfl (Or.inl ⟨by rfl, ?_⟩) ?_; rotate_left; (focus (intro w' hw'; have ks' := (hr.below hw').str; go_simp <;> with_reducible rfl)); try simp only [Act.put, pst3])
 refine plan_run rfl (fun K hK => ?_)
 go_simp
 refine (refClosed_any A m c _ _ (by exact hr1) (by omega)).mono ?_
 rintro e w1 ⟨A1, n1, c1, rfl, ho1, hb1⟩
 refine hK.out _ _ (undrew hb1) ?_
 clear hK
 have ks1 := ho1.rd.str
 try simp only [Act.put, pst3]
 refine plan_run rfl (fun K hK => ?_)
 go_simp
 refine hK.out _ _ (undrew hb1) ?_
 clear hK
 try simp only [Act.put, pst3]
 iterate 3 (refine plan_take (v := ?_) rfl (Or.inl ⟨by rfl, ?_⟩) ?_; rotate_left; (focus (intro w' hw'; go_simp <;> with_reducible rfl)); try simp only [Act.put, pst3])
 refine plan_done ?_
 go_wp2
 go_ret
 rw [HR.out]
 exact ⟨rfl, undrew hb1⟩
theorem refHolds_any (A : Option Addr) (n c : Nat) (xs : List UInt8) (w : World) (hr : RdB w A n c xs) (hm : n ≤ 35184372088832) :
  Calls Tryz.prog 149 #[.slice A n c] w (RetV w (.bool (crcHolds xs))) := by
 by_cases h : 4 ≤ n
 ·exact refHolds_long A n c xs w hr hm h
 ·have e : crcHolds xs = false := by unfold crcHolds; rw [hr.2.1, decide_eq_false h, Bool.false_and]
  rw [e]
  have hd : decide ((4 : Int) ≤ (n : Int)) = false := by simp; omega
  go_enter Tryz.func149, Tryz.ntmps149
  go_wp2_with fail
  go_quiet (fail)
  go_wp2
  go_ret
  exact ⟨rfl, by simpa using below_drewN (Below.refl _ w) _⟩
set_option maxHeartbeats 8000000
def suV (g : Nat) (s l : Int) (D : List UInt8) : Array Value := #[.int .u32 g, .int .i64 s, .int .i64 l] ++ (D.map vB).toArray
theorem suV0 (g : Nat) (s l : Int) (D : List UInt8) : (suV g s l D)[0]? = some (.int .u32 g) := by simp [suV, Array.getElem?_append]
theorem suV1 (g : Nat) (s l : Int) (D : List UInt8) : (suV g s l D)[1]? = some (.int .i64 s) := by simp [suV, Array.getElem?_append]
theorem suV2 (g : Nat) (s l : Int) (D : List UInt8) : (suV g s l D)[2]? = some (.int .i64 l) := by simp [suV, Array.getElem?_append]
theorem suV3 (g : Nat) (s l : Int) (D : List UInt8) (k : Nat) : (suV g s l D)[3 + k]? = (D.map vB)[k]? := by rw [suV, Array.getElem?_append_right (by simp)]; simp
theorem suVn (g : Nat) (s l : Int) (D : List UInt8) : (suV g s l D).size = 3 + D.length := by simp [suV]; omega
theorem suHome_any (g : Nat) (w : World) (hg : g < 4294967296) : Calls Tryz.prog 56 #[.int .u32 g] w fun e w' => e = .returned (.int .i64 (g % 2 : Nat)) ∧ w = w' := by
 have w1 : IntKind.i64.wrap ((g : Int).tmod 2) = ((g % 2 : Nat) : Int) := by rw [Int.tmod_eq_emod_of_nonneg (by omega)]; exact wi64n (k := g % 2) (by omega)
 go_enter Tryz.func56, Tryz.ntmps56
 go_wp2
 go_ret
 exact ⟨rfl, rfl⟩
theorem suPlace_any (s : Int) (w : World) : Calls Tryz.prog 99 #[.int .i64 s] w fun e w' => e = .returned (.int .i64 (if s = 0 then 2 else 50)) ∧ w = w' := by
 by_cases h : s = 0
 ·subst h
  go_enter Tryz.func99, Tryz.ntmps99
  go_wp2
  go_ret
  exact ⟨rfl, rfl⟩
 ·rw [if_neg h]
  have d : decide (s = 0) = false := decide_eq_false h
  go_enter Tryz.func99, Tryz.ntmps99
  go_wp2
  go_ret
  exact ⟨rfl, rfl⟩
theorem suCheck_any (g : Nat) (s l : Int) (D : List UInt8) (w : World) (hs : -9223372036854775808 ≤ s ∧ s ≤ 9223372036854775807) (hD : D.length = 32) : Calls Tryz.prog 63 #[.agg (suV g s l D)] w (RetV w (.bool (suCheck s l))) := by
 obtain ⟨R, hR⟩ : ∃ R, suCheck s l = R := ⟨suCheck s l, rfl⟩
 rw [hR]
 have HR := Lib.hid hR
 clear hR
 have c1 : (w.alloc (.cells (suV g s l D) 33)).cell? ⟨w.heap.size, 1, none⟩ = some (.int .i64 s) := (cell_of_row _ _ 1 _ _ _ (row1 ..)).trans (suV1 ..)
 have c2 : (w.alloc (.cells (suV g s l D) 33)).cell? ⟨w.heap.size, 2, none⟩ = some (.int .i64 l) := (cell_of_row _ _ 2 _ _ _ (row1 ..)).trans (suV2 ..)
 have hsz : (suV g s l D).size = 35 := by rw [suVn, hD]
 by_cases e1 : s / 2 = 0
 ·by_cases e2 : 0 ≤ l
  ·by_cases e3 : l ≤ 12288
   ·have d3 : decide (l ≤ 12288) = true := decide_eq_true e3
    have e9 : R = true := by rw [← HR.out]; exact decide_eq_true (by omega)
    subst e9
    go_enter Tryz.func63, Tryz.ntmps63
    go_wp2
    go_ret
    exact ⟨rfl, (below_self w).alloc (Nat.le_refl _) _⟩
   ·have d3 : decide (l ≤ 12288) = false := decide_eq_false e3
    have e9 : R = false := by rw [← HR.out]; exact decide_eq_false (by omega)
    subst e9
    go_enter Tryz.func63, Tryz.ntmps63
    go_wp2
    go_ret
    exact ⟨rfl, (below_self w).alloc (Nat.le_refl _) _⟩
  ·have e9 : R = false := by rw [← HR.out]; exact decide_eq_false (by omega)
   subst e9
   go_enter Tryz.func63, Tryz.ntmps63
   go_wp2
   go_ret
   exact ⟨rfl, (below_self w).alloc (Nat.le_refl _) _⟩
 ·have e9 : R = false := by rw [← HR.out]; exact decide_eq_false (by omega)
  subst e9
  go_enter Tryz.func63, Tryz.ntmps63
  go_wp2
  go_ret
  exact ⟨rfl, (below_self w).alloc (Nat.le_refl _) _⟩
theorem refsuCheck_any (g : Nat) (s l : Int) (D : List UInt8) (w : World) (hs : -9223372036854775808 ≤ s ∧ s ≤ 9223372036854775807) (hD : D.length = 32) : Calls Tryz.prog 65 #[.agg (suV g s l D)] w (RetV w (.bool (suCheck s l))) := by
 obtain ⟨R, hR⟩ : ∃ R, suCheck s l = R := ⟨suCheck s l, rfl⟩
 rw [hR]
 have HR := Lib.hid hR
 clear hR
 have c1 : (w.alloc (.cells (suV g s l D) 33)).cell? ⟨w.heap.size, 1, none⟩ = some (.int .i64 s) := (cell_of_row _ _ 1 _ _ _ (row1 ..)).trans (suV1 ..)
 have c2 : (w.alloc (.cells (suV g s l D) 33)).cell? ⟨w.heap.size, 2, none⟩ = some (.int .i64 l) := (cell_of_row _ _ 2 _ _ _ (row1 ..)).trans (suV2 ..)
 have hsz : (suV g s l D).size = 35 := by rw [suVn, hD]
 have H3 : s = 0 ∨ s = 1 ∨ (¬ s = 0 ∧ ¬ s = 1) := by omega
 clear hs
 rcases H3 with rfl | rfl | ⟨q0, q1⟩
 ·by_cases e2 : 0 ≤ l
  ·by_cases e3 : l ≤ 12288
   ·have d3 : decide (l ≤ 12288) = true := decide_eq_true e3
    have e9 : R = true := by rw [← HR.out]; exact decide_eq_true (by omega)
    subst e9
    go_enter Tryz.func65, Tryz.ntmps65
    go_wp2
    go_ret
    exact ⟨rfl, (below_self w).alloc (Nat.le_refl _) _⟩
   ·have d3 : decide (l ≤ 12288) = false := decide_eq_false e3
    have e9 : R = false := by rw [← HR.out]; exact decide_eq_false (by omega)
    subst e9
    go_enter Tryz.func65, Tryz.ntmps65
    go_wp2
    go_ret
    exact ⟨rfl, (below_self w).alloc (Nat.le_refl _) _⟩
  ·have e9 : R = false := by rw [← HR.out]; exact decide_eq_false (by omega)
   subst e9
   go_enter Tryz.func65, Tryz.ntmps65
   go_wp2
   go_ret
   exact ⟨rfl, (below_self w).alloc (Nat.le_refl _) _⟩
 ·by_cases e2 : 0 ≤ l
  ·by_cases e3 : l ≤ 12288
   ·have d3 : decide (l ≤ 12288) = true := decide_eq_true e3
    have e9 : R = true := by rw [← HR.out]; exact decide_eq_true (by omega)
    subst e9
    go_enter Tryz.func65, Tryz.ntmps65
    go_wp2
    go_ret
    exact ⟨rfl, (below_self w).alloc (Nat.le_refl _) _⟩
   ·have d3 : decide (l ≤ 12288) = false := decide_eq_false e3
    have e9 : R = false := by rw [← HR.out]; exact decide_eq_false (by omega)
    subst e9
    go_enter Tryz.func65, Tryz.ntmps65
    go_wp2
    go_ret
    exact ⟨rfl, (below_self w).alloc (Nat.le_refl _) _⟩
  ·have e9 : R = false := by rw [← HR.out]; exact decide_eq_false (by omega)
   subst e9
   go_enter Tryz.func65, Tryz.ntmps65
   go_wp2
   go_ret
   exact ⟨rfl, (below_self w).alloc (Nat.le_refl _) _⟩
 ·have e9 : R = false := by rw [← HR.out]; exact decide_eq_false (by omega)
  subst e9
  go_enter Tryz.func65, Tryz.ntmps65
  go_wp2
  go_ret
  exact ⟨rfl, (below_self w).alloc (Nat.le_refl _) _⟩
set_option maxHeartbeats 2000000
theorem mapM_some {β : Type} (f : Nat → Option β) (g : Nat → β) : ∀ (is : List Nat), (∀ i ∈ is, f i = some (g i)) → is.mapM f = some (is.map g)
 | [], _ => rfl
 | i :: is, h => by rw [List.mapM_cons, h i (by simp), mapM_some f g is (fun j hj => h j (by simp [hj]))]; rfl
def litB (u : UInt8) : Lit := .int .u8 (u.toNat : Int)
theorem litB_inj (D E : List UInt8) : D.map litB = E.map litB ↔ D = E :=
 List.map_inj_right (fun a b hab => by
  unfold litB at hab
  injection hab with _ h2
  exact UInt8.toNat_inj.1 (by omega))
theorem keyLits_u8 (d : Nat) (u : UInt8) : Tryz.prog.keyLits (d + 1) 5 [vB u] = some [litB u] := by
 have := u.toNat_lt
 unfold Program.keyLits vB litB
 rw [Tryz.underlying5]
 simp [Lit.wf, IntKind.min, IntKind.max, IntKind.signed, IntKind.bits]
 omega
theorem flat_single (D : List UInt8) (f : UInt8 → Lit) : ((List.range D.length).map fun i => [f (D.getD i 0)]).flatten = D.map f := by
 rw [← List.flatMap_def, ← List.map_eq_flatMap]
 apply List.ext_getElem
 ·simp
 ·intro i h1 h2
  have : i < D.length := by simpa using h2
  simp [List.getD, this]
theorem keyLits_digest (d : Nat) (D : List UInt8) (h : D.length = 32) : Tryz.prog.keyLits (d + 2) 30 (D.map vB) = some (D.map litB) := by
 have c1 : Tryz.prog.cellsOf 5 = 1 := by kernel_rfl
 have c2 : Tryz.prog.cellsOf 30 = 32 := by kernel_rfl
 unfold Program.keyLits
 rw [Tryz.underlying30]
 simp only []
 rw [if_pos (by rw [c2, List.length_map, h])]
 rw [mapM_some _ (fun i => [litB (D.getD i 0)]) (List.range 32) (fun i hi => ?_)]
 ·have e := flat_single D litB
  rw [h] at e
  rw [Option.map_some, e]
 ·have hi' : i < D.length := by rw [h]; simpa using hi
  rw [c1, Nat.mul_one, List.drop_eq_getElem_cons (by simpa using hi')]
  simp only [List.getElem_map, List.take_succ_cons, List.take_zero]
  rw [keyLits_u8]
  simp [List.getD, hi']
theorem formed_digest (D : List UInt8) (h : D.length = 32) : (Value.agg (D.map vB).toArray).formed Tryz.prog 30 = true := by
 have c2 : Tryz.prog.cellsOf 30 = 32 := by kernel_rfl
 unfold Value.formed; rw [Tryz.underlying30]
 simp [c2, h]
theorem run_eqIn_digest (d : Nat) (w : World) (D E : List UInt8) (hD : D.length = 32) (hE : E.length = 32) : (Op.equalIn (d + 4) 30 (.agg (D.map vB).toArray) (.agg (E.map vB).toArray)).run Tryz.prog w = .ok (decide (D = E)) w := by
 obtain ⟨r, hr, hiff⟩ := run_equalIn_deep (P := Tryz.prog) d 4 30 (by kernel_rfl) w 2 2 _ _ _ _ (formed_digest D hD) (formed_digest E hE) (keyLits_digest 0 D hD) (keyLits_digest 0 E hE)
 rw [hr]
 rw [litB_inj] at hiff
 congr 1
 rw [Bool.eq_iff_iff, hiff]; simp
def Su.v (x : Su) : Array Value := suV x.g x.s x.l x.D
def Su.ok (x : Su) : Prop := x.g < 4294967296 ∧ (-9223372036854775808 ≤ x.s ∧ x.s ≤ 9223372036854775807) ∧ (-9223372036854775808 ≤ x.l ∧ x.l ≤ 9223372036854775807) ∧ x.D.length = 32
def Su.lits (x : Su) : List Lit := [[.int .u32 (x.g : Int)], [.int .i64 x.s], [.int .i64 x.l], x.D.map litB].flatten
theorem Su.lits_inj (x y : Su) : x.lits = y.lits ↔ x = y := by
 constructor
 ·intro h
  obtain ⟨g, s, l, D⟩ := x
  obtain ⟨g', s', l', D'⟩ := y
  simp only [Su.lits, List.flatten_cons, List.flatten_nil, List.cons_append, List.nil_append, List.append_nil, List.cons.injEq, Lit.int.injEq, true_and, litB_inj] at h
  obtain ⟨h1, h2, h3, h4⟩ := h
  rw [h2, h3, h4, show g = g' by omega]
 ·rintro rfl; rfl
theorem keyLits_su (x : Su) (h : x.ok) : Tryz.prog.keyLits 4 33 x.v.toList = some x.lits := by
 obtain ⟨g, s, l, D⟩ := x
 obtain ⟨h1, h2, h3, h4⟩ := h
 simp only at h1 h2 h3 h4
 have c0 : Tryz.prog.cellsOf 33 = 35 := by kernel_rfl
 have c1 : Tryz.prog.cellsOf 28 = 1 := by kernel_rfl
 have c2 : Tryz.prog.cellsOf 3 = 1 := by kernel_rfl
 have c3 : Tryz.prog.cellsOf 30 = 32 := by kernel_rfl
 have hv : (Su.v ⟨g, s, l, D⟩).toList = [.int .u32 g, .int .i64 s, .int .i64 l] ++ D.map vB := by simp [Su.v, suV]
 rw [hv]
 have k0 : Tryz.prog.keyLits 3 28 [.int .u32 (g : Int)] = some [.int .u32 (g : Int)] := by
  unfold Program.keyLits; rw [Tryz.underlying28]; simp [Lit.wf, IntKind.min, IntKind.max, IntKind.signed, IntKind.bits]; omega
 have k1 : ∀ z : Int, (-9223372036854775808 ≤ z ∧ z ≤ 9223372036854775807) → Tryz.prog.keyLits 3 3 [.int .i64 z] = some [.int .i64 z] := by
  intro z hz
  unfold Program.keyLits; rw [Tryz.underlying3]; simp [Lit.wf, IntKind.min, IntKind.max, IntKind.signed, IntKind.bits]; omega
 have k3 := keyLits_digest 1 D h4
 have t1 : ∀ L : List Value, L.length = 32 → L.take 32 = L := fun L hL => List.take_of_length_le (by omega)
 unfold Program.keyLits
 rw [Tryz.underlying33]
 simp only []
 rw [if_pos ⟨by rw [c0]; simp [h4], by decide +kernel⟩]
 simp [c1, c2, c3, k0, k1 s h2, k1 l h3, t1 (D.map vB) (by simp [h4]), k3, Su.lits]
theorem formed_su (x : Su) (h : x.ok) : (Value.agg x.v).formed Tryz.prog 33 = true := by
 have c2 : Tryz.prog.cellsOf 33 = 35 := by kernel_rfl
 have hs : x.v.size = 35 := by unfold Su.v; rw [suVn, h.2.2.2]
 unfold Value.formed; rw [Tryz.underlying33]
 simp [c2, hs]
theorem run_eqIn_su (d : Nat) (w : World) (x y : Su) (hx : x.ok) (hy : y.ok) : (Op.equalIn (d + 4) 33 (.agg x.v) (.agg y.v)).run Tryz.prog w = .ok (decide (x = y)) w := by
 obtain ⟨r, hr, hiff⟩ := run_equalIn_deep (P := Tryz.prog) d 4 33 (by kernel_rfl) w 4 4 _ _ _ _ (formed_su x hx) (formed_su y hy) (keyLits_su x hx) (keyLits_su y hy)
 rw [hr]
 rw [Su.lits_inj] at hiff
 congr 1
 rw [Bool.eq_iff_iff, hiff]; simp
theorem freeze_cell (w : World) (a : Addr) (k : Nat) (p : Addr) : (w.freeze a k).cell? p = w.cell? p := by
 unfold World.freeze
 split
 ·rfl
 ·unfold World.cell?
  simp only [Array.getElem?_modify]
  by_cases h : a.block = p.block
  ·rw [if_pos h]
   cases hq : w.heap[p.block]? with
   | none => simp
   | some o => cases o <;> simp
  ·rw [if_neg h]
theorem freeze_size (w : World) (a : Addr) (k : Nat) : (w.freeze a k).heap.size = w.heap.size := by
 unfold World.freeze; split <;> simp
theorem freeze_other (w : World) (a : Addr) (k j : Nat) (h : j ≠ a.block) : (w.freeze a k).heap[j]? = w.heap[j]? := by
 unfold World.freeze
 split
 ·rfl
 ·simp only [Array.getElem?_modify]
  rw [if_neg (by omega)]
theorem freeze_below (w : World) (a : Addr) (k B : Nat) (h : B ≤ a.block) : Below B w (w.freeze a k) := by
 refine ⟨?_, ?_, ?_, by rw [freeze_size]; exact Nat.le_refl _, fun j hj => freeze_other w a k j (by omega)⟩ <;> (unfold World.freeze; split <;> rfl)
theorem run_conv_mark {w : World} {g : Nat} {C : Array Value} {fr : Nat × Nat} (hrow : w.heap[g]? = some (.cells C 5 fr)) (n c : Nat) :
  (convert 47 47 (.slice (some ⟨g, 0, none⟩) n c)).run Tryz.prog w = .ok (.slice (some ⟨g, 0, none⟩) n c) (w.freeze ⟨g, C.size, none⟩ 1) := by
 have hsh : w.shape? g = some (5, C.size) := by unfold World.shape?; rw [hrow]
 simp [convert, run_underlying Tryz.underlying47, run_underlying Tryz.underlying5, markStringish, hsh]
def SameCells (w w' : World) : Prop := (∀ p, w'.cell? p = w.cell? p) ∧ w'.heap.size = w.heap.size
theorem RdB.same {w w' : World} {A : Option Addr} {n c : Nat} {xs : List UInt8} (h : RdB w A n c xs) (hs : SameCells w w') : RdB w' A n c xs :=
 ⟨h.1.keep (by rw [hs.2]; exact Nat.le_refl _) (fun p _ => hs.1 p), h.2⟩
theorem op_mark {o : Oper} {a : Act} {Bd : Nat} {w0 w : World} {K : Act → World → Prop} {Q : Exit → Act → World → Prop} (x : Operand) (ho : o.op = .convert 47 47 x) (g n c : Nat) (hx : a.eval x = .slice (some ⟨g, 0, none⟩) n c)
  (C : Array Value) (fr : Nat × Nat) (hrow : w.heap[g]? = some (.cells C 5 fr)) (hb : Below Bd w0 w) (hg : Bd ≤ g)
  (h : ∀ w', SameCells w w' → Below Bd w0 w' → (∀ j, j ≠ g → w'.heap[j]? = w.heap[j]?) → K (a.put o.dst (.slice (some ⟨g, 0, none⟩) n c)) w') : o.wp Tryz.prog a w K Q := by
 refine op_value (v := .slice (some ⟨g, 0, none⟩) n c) (w' := w.freeze ⟨g, C.size, none⟩ 1) ?_ (h _ ⟨fun p => freeze_cell .., freeze_size ..⟩ (hb.trans (freeze_below w ⟨g, C.size, none⟩ 1 Bd hg)) (fun j hj => freeze_other w ⟨g, C.size, none⟩ 1 j hj))
 unfold execOp
 simp [ho, hx, run_conv_mark hrow n c]
theorem clamp_eq (s : Int) : max 0 (min s 8) = (clamp s : Int) := by
 unfold clamp
 split
 ·omega
 ·split <;> omega
theorem cut_any (s : Int) (w : World) : Calls Tryz.prog 134 #[.int .i64 s, .int .i64 0, .int .i64 8] w fun e w' => e = .returned (.int .i64 (clamp s : Nat)) ∧ w = w' := by
 go_enter Tryz.func134, Tryz.ntmps134
 go_wp2
 go_ret
 exact ⟨by rw [← clamp_eq]; rfl, rfl⟩
theorem pow_256 (k : Nat) : 256 ^ k = 2 ^ (8 * k) := by rw [show (256 : Nat) = 2 ^ 8 from rfl, ← Nat.pow_mul]
theorem pow_small (k : Nat) (hk : k ≤ 8) : 256 ^ k ≤ 18446744073709551616 := by
 rw [show 18446744073709551616 = 256 ^ 8 from rfl]; exact Nat.pow_le_pow_right (by decide) hk
theorem or_shl (R k u : Nat) (hR : R < 256 ^ k) (hk : k < 8) (hu : u < 256) :
  bits .or .u64 (R : Int) (IntKind.u64.wrap ((u : Int) * 2 ^ (8 * k))) = ((R + 256 ^ k * u : Nat) : Int) := by
 have hp := pow_small (k + 1) (by omega)
 have h1 : u * 256 ^ k < 256 ^ (k + 1) := by rw [Nat.pow_succ, Nat.mul_comm (256 ^ k)]; exact Nat.mul_lt_mul_of_pos_right hu (Nat.pow_pos (by decide))
 have hR' : R < 256 ^ (k + 1) := Nat.lt_of_lt_of_le hR (Nat.pow_le_pow_right (by decide) (by omega))
 have e : (u : Int) * 2 ^ (8 * k) = ((u * 256 ^ k : Nat) : Int) := by rw [pow_256]; push_cast; rfl
 rw [e, IntWalk.u64_in _ (by omega), u64_or_nat _ _ (by omega) (by omega), Nat.or_comm, nat_join (8 * k) _ _ (by rw [pow_256]; exact Nat.mul_mod_left _ _) (by rw [← pow_256]; exact hR)]
 rw [Nat.mul_comm u, Nat.add_comm]
theorem or_256 (R u : Nat) (h : R < 72057594037927936) (hu : u < 256) : bits .or .u64 ((R : Int) * 256) (u : Int) = ((R * 256 + u : Nat) : Int) := by
 have e : (R : Int) * 256 = ((R * 256 : Nat) : Int) := by omega
 have h1 : R * 256 < 18446744073709551616 := by omega
 have h2 : u < 18446744073709551616 := by omega
 have h8 : (2 : Nat) ^ 8 = 256 := by decide
 have h3 : R * 256 % 2 ^ 8 = 0 := by rw [h8]; exact Nat.mul_mod_left R 256
 have h4 : u < 2 ^ 8 := by rw [h8]; exact hu
 have hj := nat_join 8 (R * 256) u h3 h4
 rw [e, u64_or_nat _ _ h1 h2, hj]
def LeI (N : Nat) (xs : List UInt8) (v i : Value) : Prop := ∃ k, k ≤ N ∧ i = .int .i64 (k : Nat) ∧ v = .int .u64 (lev (xs.take k) : Nat)
theorem fromLe_any (A : Option Addr) (n c : Nat) (xs : List UInt8) (w : World) (hr : RdB w A n c xs) :
  Calls Tryz.prog 146 #[.slice A n c] w fun e w' => e = .returned (.int .u64 (fromLe xs : Nat)) ∧ w = w' := by
 have hn63 := hr.n63
 obtain ⟨N, hN⟩ : ∃ N, N = min n 8 := ⟨_, rfl⟩
 have hN8 : N ≤ 8 := by omega
 have hNn : N ≤ n := by omega
 have hm : min (n : Int) 8 = (N : Int) := by omega
 have hfin : fromLe xs = lev (xs.take N) := by
  unfold fromLe
  rw [hN, ← hr.2.1]
  rcases Nat.le_total xs.length 8 with h | h
  ·rw [Nat.min_eq_left h, List.take_of_length_le h, List.take_length]
  ·rw [Nat.min_eq_right h]
 have HN := Lib.hid hN
 have HF := Lib.hid hfin
 clear hN hfin
 go_enter Tryz.func146, Tryz.ntmps146
 go_wp2
 go_loop [3, 8] (LeI N xs) (fun _ i => N - (intOf i).toNat)
 case atStart => exact ⟨0, Nat.zero_le _, rfl, rfl⟩
 case round =>
  obtain ⟨k, hk, rfl, rfl⟩ := hrel
  by_cases hlt : k < N
  ·obtain ⟨b, o, u, rfl, hb, hxk, hcell⟩ := hr.at_ k (by omega)
   have hs : xs.take (k + 1) = xs.take k ++ [u] := by rw [List.take_add_one, hxk]; rfl
   have hl := lev_lt (xs.take k)
   have hlen : (xs.take k).length = k := by rw [List.length_take, hr.2.1]; omega
   rw [hlen] at hl
   have HS := Lib.hid hs
   have HL := Lib.hid hlen
   clear hs hlen hxk
   generalize hR : lev (xs.take k) = R at *
   have HR := Lib.hid hR
   clear hR
   have hu := u.toNat_lt
   go_wp2
   have e1 := or_shl R k u.toNat hl (by omega) hu
   have hfin : lev (xs.take (k + 1)) = R + 256 ^ k * u.toNat := by rw [HS.out, lev_append, HR.out, HL.out]; simp [lev]
   have HQ := Lib.hid hfin
   clear hfin
   go_wp2
   go_round
   case rel => exact ⟨k + 1, by omega, by go_num, by rw [HQ.out, e1]⟩
   case measure => simp [intOf] <;> omega
  ·obtain rfl : k = N := by omega
   go_wp2
   go_ret
   exact ⟨by rw [HF.out]; rfl, rfl⟩
theorem min_take (xs : List UInt8) (n N : Nat) (hn : xs.length = n) (hN : N = min n 8) : xs.take 8 = xs.take N := by
 rw [hN, ← hn]
 rcases Nat.le_total xs.length 8 with h | h
 ·rw [Nat.min_eq_left h, List.take_of_length_le h, List.take_length]
 ·rw [Nat.min_eq_right h]
def BeI (N : Nat) (xs : List UInt8) (v i : Value) : Prop := ∃ k, k ≤ N ∧ i = .int .i64 (k : Nat) ∧ v = .int .u64 (bev (xs.take k) : Nat)
theorem fromBe_any (A : Option Addr) (n c : Nat) (xs : List UInt8) (w : World) (hr : RdB w A n c xs) :
  Calls Tryz.prog 154 #[.slice A n c] w fun e w' => e = .returned (.int .u64 (fromBe xs : Nat)) ∧ w = w' := by
 have hn63 := hr.n63
 obtain ⟨N, hN⟩ : ∃ N, N = min n 8 := ⟨_, rfl⟩
 have hN8 : N ≤ 8 := by omega
 have hNn : N ≤ n := by omega
 have hm : min (n : Int) 8 = (N : Int) := by omega
 have hfin : fromBe xs = bev (xs.take N) := by unfold fromBe; rw [min_take xs n N hr.2.1 hN]
 have HN := Lib.hid hN
 have HF := Lib.hid hfin
 clear hN hfin
 go_enter Tryz.func154, Tryz.ntmps154
 go_wp2
 go_loop [3, 8] (BeI N xs) (fun _ i => N - (intOf i).toNat)
 case atStart => exact ⟨0, Nat.zero_le _, rfl, rfl⟩
 case round =>
  obtain ⟨k, hk, rfl, rfl⟩ := hrel
  by_cases hlt : k < N
  ·obtain ⟨b, o, u, rfl, hb, hxk, hcell⟩ := hr.at_ k (by omega)
   have hs : xs.take (k + 1) = xs.take k ++ [u] := by rw [List.take_add_one, hxk]; rfl
   have hl := bev_lt (xs.take k)
   have hlen : (xs.take k).length = k := by rw [List.length_take, hr.2.1]; omega
   rw [hlen] at hl
   have hp := pow_small (k + 1) (by omega)
   have hq : bev (xs.take (k + 1)) = bev (xs.take k) * 256 + u.toNat := by rw [hs, bev_snoc]
   have HQ := Lib.hid hq
   clear hs hlen hxk hq
   generalize hR : bev (xs.take k) = R at *
   have HR := Lib.hid hR
   clear hR
   have hu := u.toNat_lt
   have hsm : R < 72057594037927936 := by rw [Nat.pow_succ] at hp; omega
   clear hl hp
   have e1 := or_256 R u.toNat hsm hu
   go_wp2
   go_round
   case rel => exact ⟨k + 1, by omega, by go_num, by rw [HQ.out]; go_num⟩
   case measure => simp [intOf] <;> omega
  ·obtain rfl : k = N := by omega
   go_wp2
   go_ret
   exact ⟨by rw [HF.out]; rfl, rfl⟩
theorem set_le (n size k : Nat) (h : k < size) : (leB n k ++ List.replicate (size - k) 0).set k (UInt8.ofNat (n / 256 ^ k)) = leB n (k + 1) ++ List.replicate (size - (k + 1)) 0 := by
 rw [List.set_append_right _ _ (by rw [leB_length]; omega), leB_length, Nat.sub_self, leB_succ, show size - k = (size - (k + 1)) + 1 by omega, List.replicate_succ, List.set_cons_zero]
 simp
theorem set_be (n size k : Nat) (h : k < size) : (List.replicate (size - k) 0 ++ beB n k).set (size - 1 - k) (UInt8.ofNat (n / 256 ^ k)) = List.replicate (size - (k + 1)) 0 ++ beB n (k + 1) := by
 rw [List.set_append_left _ _ (by simp; omega), show size - k = (size - (k + 1)) + 1 by omega, List.replicate_succ', show size - 1 - k = (List.replicate (size - (k + 1)) (0 : UInt8)).length by simp; omega,
  List.set_append_right _ _ (Nat.le_refl _), Nat.sub_self]
 unfold beB
 rw [leB_succ]
 simp
theorem byte_val (n k : Nat) : IntKind.u8.wrap ((n : Int) / 2 ^ (8 * k)) = ((UInt8.ofNat (n / 256 ^ k)).toNat : Int) := by
 rw [IntKind.wrap_u8, UInt8.toNat_ofNat', pow_256, Int.natCast_emod, Int.natCast_ediv, Int.natCast_pow]; rfl
theorem le1_any (i : Int) (w : World) : Calls Tryz.prog 135 #[.int .i64 i] w fun e w' => e = .returned (.int .i64 i) ∧ w = w' := by
 go_enter Tryz.func135, Tryz.ntmps135
 go_wp2
 go_ret
 exact ⟨rfl, rfl⟩
theorem be1_any (i : Int) (g : Nat) (K : Int) (w : World) (hc : w.cell? ⟨g, 0, none⟩ = some (.int .i64 K)) (h1 : 0 ≤ i) (h2 : i < K) (h3 : K ≤ 8) :
  Calls Tryz.prog 141 #[.int .i64 i, .pointer (some ⟨g, 0, none⟩)] w fun e w' => e = .returned (.int .i64 (K - 1 - i)) ∧ w = w' := by
 go_enter Tryz.func141, Tryz.ntmps141
 go_wp2
 go_ret
 exact ⟨rfl, rfl⟩
def PutI (w : World) (size : Nat) (f : Nat → List UInt8) (i : Value) (wr : World) : Prop :=
 ∃ k, k ≤ size ∧ i = .int .i64 (k : Nat) ∧ OwnB wr w.heap.size (some ⟨w.heap.size, 0, none⟩) size size (f k) ∧ Below w.heap.size w wr
theorem put_le (n size : Nat) (w : World) (hn : n < 18446744073709551616) (h8 : size ≤ 8) :
  Calls Tryz.prog 133 #[.int .u64 n, .int .i64 size, .func (.func 135) #[] #[]] w (RetB w (leB n size)) := by
 go_enter Tryz.func133, Tryz.ntmps133
 go_wp2_with (at_make; refine wp_makeB rfl _ _ rfl _ _ size rfl rfl (by omega) ?_; intro w1 ho1 hb1)
 go_loopw [12] (PutI w size (fun k => leB n k ++ List.replicate (size - k) 0)) (fun i _ => size - (intOf i).toNat)
 case atStart => exact ⟨0, Nat.zero_le _, rfl, by simpa [leB_zero] using ho1, hb1⟩
 case round =>
  obtain ⟨k, hk, rfl, ho, hb⟩ := hrel
  by_cases hlt : k < size
  ·skip
   have k1 : (k : Int) < (size : Int) := by omega
   have k0 : (0 : Int) ≤ (k : Int) := by omega
   have hfree := ho.free k
   obtain ⟨u0, _, hcell⟩ := ho.cell_ k hlt
   have kw : IntKind.i64.wrap (8 * (k : Int)) = 8 * (k : Int) := IntWalk.i64_in _ (by omega)
   have kz : (8 * (k : Int)).toNat = 8 * k := by omega
   have kv := byte_val n k
   go_wp2_with fail
   refine wp_region_plan (S := fun w' => True) [(0, true), (1, true), (2, true), (4, true), (5, true), (6, true), (7, true), (8, true), (3, false), (9, true), (10, false)] (by kernel_rfl) (by kernel_rfl) (fun _ _ d _ _ h => by cases d <;> exact h) trivial ?_
   iterate 8 (refine plan_take (v := ?_) rfl (Or.inl ⟨by rfl, ?_⟩) ?_; rotate_left; (focus (intro w' hw'; go_simp <;> with_reducible rfl)); try simp only [Act.put, pst3])
   refine plan_run rfl (fun K hK => ?_)
   go_simp
   refine (le1_any (k : Int) _).mono ?_
   rintro e w2 ⟨rfl, rfl⟩
   refine hK.out _ _ trivial ?_
   clear hK
   try simp only [Act.put, pst3]
   iterate 1 (refine plan_take (v := ?_) rfl (Or.inl ⟨by rfl, ?_⟩) ?_; rotate_left; (focus (intro w' hw'; go_simp <;> with_reducible rfl)); try simp only [Act.put, pst3])
   refine plan_run rfl (fun K hK => ?_)
   go_simp
   refine hK.out _ _ trivial ?_
   clear hK
   try simp only [Act.put, pst3]
   refine plan_done ?_
   go_wp2
   go_roundw
   case rel => exact ⟨k + 1, by omega, by go_num, by have h := ho.set_ k (UInt8.ofNat (n / 256 ^ k)); rw [set_le n size k hlt] at h; exact h, hb.drew.setCell (Nat.le_refl _) _⟩
   case measure => simp [intOf] <;> omega
  ·obtain rfl : k = size := by omega
   go_wp2
   go_ret
   exact ⟨_, _, _, rfl, by simpa using ho, hb⟩
theorem put_be (n size g : Nat) (w : World) (hn : n < 18446744073709551616) (h8 : size ≤ 8) (hg : g < w.heap.size) (hc : w.cell? ⟨g, 0, none⟩ = some (.int .i64 size)) :
  Calls Tryz.prog 133 #[.int .u64 n, .int .i64 size, .func (.func 141) #[] #[.pointer (some ⟨g, 0, none⟩)]] w (RetB w (beB n size)) := by
 go_enter Tryz.func133, Tryz.ntmps133
 go_wp2_with (at_make; refine wp_makeB rfl _ _ rfl _ _ size rfl rfl (by omega) ?_; intro w1 ho1 hb1)
 go_loopw [12] (PutI w size (fun k => List.replicate (size - k) 0 ++ beB n k)) (fun i _ => size - (intOf i).toNat)
 case atStart => exact ⟨0, Nat.zero_le _, rfl, by simpa [beB, leB_zero] using ho1, hb1⟩
 case round =>
  obtain ⟨k, hk, rfl, ho, hb⟩ := hrel
  have hck : wr.cell? ⟨g, 0, none⟩ = some (.int .i64 size) := (hb.cell (p := ⟨g, 0, none⟩) hg).trans hc
  by_cases hlt : k < size
  ·obtain ⟨j, hj⟩ : ∃ j, j = size - 1 - k := ⟨_, rfl⟩
   have k1 : (k : Int) < (size : Int) := by omega
   have k0 : (0 : Int) ≤ (k : Int) := by omega
   have k2 : (size : Int) - 1 - (k : Int) = (j : Int) := by omega
   have k3 : (0 : Int) ≤ (j : Int) := by omega
   have k4 : (j : Int) < (size : Int) := by omega
   have hj' : j < size := by omega
   have hset : (List.replicate (size - k) 0 ++ beB n k).set j (UInt8.ofNat (n / 256 ^ k)) = List.replicate (size - (k + 1)) 0 ++ beB n (k + 1) := by rw [hj]; exact set_be n size k hlt
   have HT := Lib.hid hset
   clear hj hset
   have hfree := ho.free j
   obtain ⟨u0, _, hcell⟩ := ho.cell_ j hj'
   have kw : IntKind.i64.wrap (8 * (k : Int)) = 8 * (k : Int) := IntWalk.i64_in _ (by omega)
   have kz : (8 * (k : Int)).toNat = 8 * k := by omega
   have kv := byte_val n k
   go_wp2_with fail
   refine wp_region_plan (S := fun w' => True) [(0, true), (1, true), (2, true), (4, true), (5, true), (6, true), (7, true), (8, true), (3, false), (9, true), (10, false)] (by kernel_rfl) (by kernel_rfl) (fun _ _ d _ _ h => by cases d <;> exact h) trivial ?_
   iterate 8 (refine plan_take (v := ?_) rfl (Or.inl ⟨by rfl, ?_⟩) ?_; rotate_left; (focus (intro w' hw'; go_simp <;> with_reducible rfl)); try simp only [Act.put, pst3])
   refine plan_run rfl (fun K hK => ?_)
   go_simp
   refine (be1_any (k : Int) g (size : Int) _ (by exact hck) k0 k1 (by omega)).mono ?_
   rintro e w2 ⟨rfl, rfl⟩
   rw [k2]
   refine hK.out _ _ trivial ?_
   clear hK
   try simp only [Act.put, pst3]
   iterate 1 (refine plan_take (v := ?_) rfl (Or.inl ⟨by rfl, ?_⟩) ?_; rotate_left; (focus (intro w' hw'; go_simp <;> with_reducible rfl)); try simp only [Act.put, pst3])
   refine plan_run rfl (fun K hK => ?_)
   go_simp
   refine hK.out _ _ trivial ?_
   clear hK
   try simp only [Act.put, pst3]
   refine plan_done ?_
   go_wp2
   go_roundw
   case rel => exact ⟨k + 1, by omega, by go_num, by have h := ho.set_ j (UInt8.ofNat (n / 256 ^ k)); rw [HT.out] at h; exact h, hb.drew.setCell (Nat.le_refl _) _⟩
   case measure => simp [intOf] <;> omega
  ·obtain rfl : k = size := by omega
   go_wp2
   go_ret
   exact ⟨_, _, _, rfl, by simpa using ho, hb⟩
theorem le_any (n : Nat) (size : Int) (w : World) (hn : n < 18446744073709551616) :
  Calls Tryz.prog 97 #[.int .u64 n, .int .i64 size] w (RetB w (leB n (clamp size))) := by
 have h8 := clamp_le size
 go_enter Tryz.func97, Tryz.ntmps97
 go_wp2_with (first | (go_at_call 134; refine (cut_any size _).mono ?_; rintro e w1 ⟨rfl, rfl⟩) | (go_at_call 133; refine (put_le n _ _ hn h8).mono ?_; rintro e w1 ⟨A1, n1, c1, rfl, ho1, hb1⟩))
 go_ret
 exact ⟨_, _, _, rfl, ho1, hb1⟩
theorem be_any (n : Nat) (size : Int) (w : World) (hn : n < 18446744073709551616) :
  Calls Tryz.prog 106 #[.int .u64 n, .int .i64 size] w (RetB w (beB n (clamp size))) := by
 have h8 := clamp_le size
 go_enter Tryz.func106, Tryz.ntmps106
 go_wp2_with (first | (go_at_call 134; refine (cut_any size _).mono ?_; rintro e w1 ⟨rfl, rfl⟩) | (go_at_call 133; refine (put_be n _ _ _ hn h8 (by simp) (by simp)).mono ?_; rintro e w1 ⟨A1, n1, c1, rfl, ho1, hb1⟩))
 go_ret
 exact ⟨_, _, _, rfl, ho1.mono (by simp), bstep (below_self w) hb1⟩
end Go.Proofs.YtpahicfnhhhifaaGreat
