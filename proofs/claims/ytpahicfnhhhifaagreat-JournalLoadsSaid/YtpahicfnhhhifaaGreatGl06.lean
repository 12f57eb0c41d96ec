/-
 Proved here, for the statement JournalLoads:
 The walks of the reference's Le, Be, FromLe, FromBe (layer 1).
-/
import Derived.Test.YtpahicfnhhhifaaGreatGl05
set_option linter.unusedVariables false
set_option linter.unusedSimpArgs false
namespace Go.Proofs.YtpahicfnhhhifaaGreat
set_option maxRecDepth 20000
open Go.RowKit
def RLeI (w : World) (N n : Nat) (v0 v5 v6 : Value) (wr : World) : Prop :=
 ∃ k A c, k ≤ N ∧ v6 = .int .i64 (k : Nat) ∧ v0 = .int .u64 ((n / 256 ^ k : Nat) : Int) ∧ v5 = .slice A k c ∧ OwnB wr w.heap.size A k c (leB n k) ∧ Below w.heap.size w wr
theorem clamp_lt (size : Int) (k : Nat) (h : k < clamp size) : (k : Int) < size ∧ k < 8 := by
 unfold clamp at h
 split at h
 ·omega
 ·split at h <;> omega
theorem refLe_any (n : Nat) (size : Int) (w : World) (hn : n < 18446744073709551616) :
  Calls Tryz.prog 98 #[.int .u64 n, .int .i64 size] w (RetB w (leB n (clamp size))) := by
 have h8 := clamp_le size
 obtain ⟨N, hN⟩ : ∃ N, N = clamp size := ⟨_, rfl⟩
 have HN := Lib.hid hN
 rw [← hN] at h8 ⊢
 clear hN
 go_enter Tryz.func98, Tryz.ntmps98
 go_wp2
 go_loopw [0, 5, 6] (RLeI w N n) (fun _ _ i _ => N - (intOf i).toNat)
 case atStart => exact ⟨0, none, 0, Nat.zero_le _, rfl, by simp, rfl, OwnB.nilB _ _, Below.refl _ _⟩
 case round =>
  obtain ⟨k, A, c, hk, rfl, rfl, rfl, ho, hb⟩ := hrel
  by_cases hlt : k < N
  ·obtain ⟨c1, c2⟩ := clamp_lt size k (by rw [← HN.out]; exact hlt)
   have d1 : decide ((k : Int) < size) = true := decide_eq_true c1
   have d2 : decide ((k : Int) < 8) = true := decide_eq_true (by omega)
   have hM : n / 256 ^ k < 18446744073709551616 := Nat.lt_of_le_of_lt (Nat.div_le_self _ _) hn
   have hM2 : n / 256 ^ (k + 1) = n / 256 ^ k / 256 := by rw [Nat.pow_succ, Nat.div_div_eq_div_mul]
   have hleB := leB_succ n k
   have HM := Lib.hid hM2
   have HL := Lib.hid hleB
   clear hM2 hleB
   generalize hR : n / 256 ^ k = R at *
   have HR := Lib.hid hR
   clear hR c1
   go_wp2_with (at_builtin; refine wp_appB rfl _ _ rfl (hb.alloc hb.size _) (Nat.le_refl _) (by have := hb.size; simp; omega) _ _ _ _ rfl (ho.alloc _) _ 1 1 [UInt8.ofNat R] rfl (rd1 _ _ _ (by rw [UInt8.toNat_ofNat']; rfl)) (by omega) (k + 1) (leB n (k + 1)) rfl (by rw [HL.out]) ?_; intro A5 c5 w5 ho5 hb5 hg5)
   go_roundw
   case rel => exact ⟨k + 1, _, _, by omega, by go_num, by rw [HM.out]; go_num, rfl, ho5, hb5⟩
   case measure => simp [intOf] <;> omega
  ·obtain rfl : k = N := by omega
   have hd : (decide ((k : Int) < size) = false) ∨ (decide ((k : Int) < size) = true ∧ decide ((k : Int) < 8) = false) := by
    have h := HN.out
    unfold clamp at h
    by_cases hs : (k : Int) < size
    ·right
     refine ⟨decide_eq_true hs, decide_eq_false ?_⟩
     split at h
     ·omega
     ·split at h <;> omega
    ·left; exact decide_eq_false hs
   rcases hd with d1 | ⟨d1, d2⟩
   ·go_wp2
    go_ret
    exact ⟨_, _, _, rfl, ho, hb⟩
   ·go_wp2
    go_ret
    exact ⟨_, _, _, rfl, ho, hb⟩
def RBeI (w1 w : World) (N n : Nat) (v6 v7 : Value) (wr : World) : Prop :=
 ∃ k A c, k ≤ N ∧ v7 = .int .i64 ((k + 1 : Nat) : Int) ∧ v6 = .slice A k c ∧ OwnB wr w1.heap.size A k c ((beB n N).take k) ∧ Below w1.heap.size w1 wr
theorem beB_get (n N k : Nat) (h : k < N) (u : UInt8) (hu : (leB n N)[N - (k + 1)]? = some u) : (beB n N).take (k + 1) = (beB n N).take k ++ [u] := by
 rw [List.take_add_one]
 congr 1
 unfold beB
 rw [List.getElem?_reverse (by rw [leB_length]; exact h), leB_length, show N - 1 - k = N - (k + 1) by omega, hu]
 rfl
theorem refBe_any (n : Nat) (size : Int) (w : World) (hn : n < 18446744073709551616) :
  Calls Tryz.prog 122 #[.int .u64 n, .int .i64 size] w (RetB w (beB n (clamp size))) := by
 have h8 := clamp_le size
 obtain ⟨N, hN⟩ : ∃ N, N = clamp size := ⟨_, rfl⟩
 rw [← hN] at h8
 go_enter Tryz.func122, Tryz.ntmps122
 go_wp2_with (go_at_call 98; refine (refLe_any n size _ hn).mono ?_; rintro e w1 ⟨A1, n1, c1, rfl, ho1, hb1⟩)
 rw [← hN] at ho1 ⊢
 have hn1 : n1 = N := by rw [← ho1.len, leB_length]
 subst hn1
 have HN := Lib.hid hN
 clear hN
 go_loopw [6, 7] (RBeI w1 w n1 n) (fun _ i _ => n1 + 1 - (intOf i).toNat)
 case atStart => exact ⟨0, none, 0, Nat.zero_le _, rfl, rfl, OwnB.nilB _ _, Below.refl _ _⟩
 case round =>
  obtain ⟨k, A, c, hk, rfl, rfl, ho, hb⟩ := hrel
  by_cases hlt : k < n1
  ·obtain ⟨b, o, u, rfl, hbl, hx, hcell⟩ := (ho1.rd.below hb).at_ (n1 - (k + 1)) (by omega)
   have hbe := beB_get n n1 k hlt u hx
   have HB := Lib.hid hbe
   clear hbe hx
   have k1 : ((k + 1 : Nat) : Int) ≤ (n1 : Int) := by omega
   have k2 : (n1 : Int) - ((k + 1 : Nat) : Int) = ((n1 - (k + 1) : Nat) : Int) := by omega
   generalize hj : n1 - (k + 1) = j at *
   generalize hi : k + 1 = i at *
   have hj2 : (j : Int) < (n1 : Int) := by omega
   have HJ := Lib.hid hj
   have HI := Lib.hid hi
   clear hj hi
   go_wp2_with (at_builtin; refine wp_appB rfl _ _ rfl (hb.alloc hb.size _) (Nat.le_refl _) (by have := hb.size; simp; omega) _ _ _ _ rfl (ho.alloc _) _ 1 1 [u] rfl (rd1 _ _ _ rfl) (by omega) i _ HI.out HB.out.symm ?_; intro A5 c5 w5 ho5 hb5 hg5)
   go_roundw
   case rel => exact ⟨i, _, _, by omega, by go_num, rfl, ho5, hb5⟩
   case measure => simp [intOf] <;> omega
  ·obtain rfl : k = n1 := by omega
   have hall : (beB n k).take k = beB n k := List.take_of_length_le (by rw [beB_length]; omega)
   rw [hall] at ho
   have HA := Lib.hid hall
   clear hall
   go_wp2
   go_ret
   exact ⟨_, _, _, rfl, by rw [← HN.out]; exact ho.mono hb1.size, below_then hb1 hb⟩
theorem wide_mul (k u : Nat) (hk : k < 8) (hu : u < 256) : 256 ^ k * u ≤ 256 ^ k * 255 ∧ 256 ^ k * 256 ≤ 18446744073709551616 := by
 refine ⟨Nat.mul_le_mul_left _ (by omega), ?_⟩
 have := pow_small (k + 1) (by omega)
 rwa [Nat.pow_succ] at this
def fpow (k : Nat) : Nat := 256 ^ k % 18446744073709551616
theorem fpow_lt (k : Nat) (hk : k < 8) : fpow k = 256 ^ k := by
 unfold fpow
 have := pow_small (k + 1) (by omega)
 rw [Nat.pow_succ] at this
 have hp : 0 < 256 ^ k := Nat.pow_pos (by decide)
 exact Nat.mod_eq_of_lt (by omega)
theorem fpow_succ (k : Nat) : IntKind.u64.wrap ((fpow k : Int) * 256) = (fpow (k + 1) : Int) := by
 have hw : ∀ x : Int, IntKind.u64.wrap x = x % 18446744073709551616 := fun x => by simp [IntKind.wrap, IntKind.bits, IntKind.signed]
 rw [hw]
 unfold fpow
 have e : 256 ^ (k + 1) % 18446744073709551616 = 256 ^ k % 18446744073709551616 * 256 % 18446744073709551616 := by rw [Nat.pow_succ, Nat.mod_mul_mod]
 rw [e]; rfl
theorem le_step (R k u : Nat) (hk : k < 8) (hR : R < 256 ^ k) (hu : u < 256) : IntKind.u64.wrap ((R : Int) + IntKind.u64.wrap ((fpow k : Int) * (u : Int))) = ((R + 256 ^ k * u : Nat) : Int) := by
 obtain ⟨h1, h2⟩ := wide_mul k u hk hu
 rw [fpow_lt k hk]
 generalize 256 ^ k = F at *
 have e : (F : Int) * (u : Int) = ((F * u : Nat) : Int) := by rw [Int.natCast_mul]
 rw [e]
 generalize F * u = G at *
 rw [IntWalk.u64_in ((G : Nat) : Int) (by omega), IntWalk.u64_in _ (by omega)]
 rfl
def RFlI (N : Nat) (xs : List UInt8) (v3 v4 v5 : Value) : Prop := ∃ k, k ≤ N ∧ v5 = .int .i64 (k : Nat) ∧ v3 = .int .u64 (lev (xs.take k) : Nat) ∧ v4 = .int .u64 (fpow k : Nat)
theorem refFromLe_any (A : Option Addr) (n c : Nat) (xs : List UInt8) (w : World) (hr : RdB w A n c xs) :
  Calls Tryz.prog 150 #[.slice A n c] w fun e w' => e = .returned (.int .u64 (fromLe xs : Nat)) ∧ w = w' := by
 have hn63 := hr.n63
 obtain ⟨N, hN⟩ : ∃ N, N = min n 8 := ⟨_, rfl⟩
 have hN8 : N ≤ 8 := by omega
 have hNn : N ≤ n := by omega
 have hfin : fromLe xs = lev (xs.take N) := by unfold fromLe; rw [min_take xs n N hr.2.1 hN]
 have HN := Lib.hid hN
 have HF := Lib.hid hfin
 clear hN hfin
 go_enter Tryz.func150, Tryz.ntmps150
 go_wp2
 go_loop [3, 4, 5] (RFlI N xs) (fun _ _ i => N - (intOf i).toNat)
 case atStart => exact ⟨0, Nat.zero_le _, rfl, rfl, rfl⟩
 case round =>
  obtain ⟨k, hk, rfl, rfl, rfl⟩ := hrel
  by_cases hlt : k < N
  ·obtain ⟨b, o, u, rfl, hb, hxk, hcell⟩ := hr.at_ k (by omega)
   have hs : xs.take (k + 1) = xs.take k ++ [u] := by rw [List.take_add_one, hxk]; rfl
   have hl := lev_lt (xs.take k)
   have hlen : (xs.take k).length = k := by rw [List.length_take, hr.2.1]; omega
   rw [hlen] at hl
   have hu := u.toNat_lt
   have e1 := le_step (lev (xs.take k)) k u.toNat (by omega) hl hu
   have e2 := fpow_succ k
   have hfin : lev (xs.take (k + 1)) = lev (xs.take k) + 256 ^ k * u.toNat := by rw [hs, lev_append, hlen]; simp [lev]
   have HQ := Lib.hid hfin
   have E1 := Lib.hid e1
   have E2 := Lib.hid e2
   have d1 : decide (k < n) = true := decide_eq_true (by omega)
   have d2 : decide ((k : Int) < 8) = true := decide_eq_true (by omega)
   clear hs hlen hxk hfin e1 e2 hl
   generalize lev (xs.take k) = R at *
   generalize fpow k = F at *
   generalize hF' : fpow (k + 1) = F' at *
   have HF' := Lib.hid hF'
   clear hF'
   go_wp2
   go_round
   case rel => exact ⟨k + 1, by omega, by go_num, by rw [HQ.out, E1.out], by rw [E2.out, HF'.out]⟩
   case measure => simp [intOf] <;> omega
  ·obtain rfl : k = N := by omega
   have hd : (decide (k < n) = false) ∨ (decide (k < n) = true ∧ decide ((k : Int) < 8) = false) := by
    have h := HN.out
    by_cases hs : k < n
    ·right; exact ⟨decide_eq_true (by omega), decide_eq_false (by omega)⟩
    ·left; exact decide_eq_false (by omega)
   rcases hd with d1 | ⟨d1, d2⟩
   ·go_wp2
    go_ret
    exact ⟨by rw [HF.out]; rfl, rfl⟩
   ·go_wp2
    go_ret
    exact ⟨by rw [HF.out]; rfl, rfl⟩
def RFbI (N : Nat) (xs : List UInt8) (v3 v4 : Value) : Prop := ∃ k, k ≤ N ∧ v4 = .int .i64 (k : Nat) ∧ v3 = .int .u64 (bev (xs.take k) : Nat)
theorem refFromBe_any (A : Option Addr) (n c : Nat) (xs : List UInt8) (w : World) (hr : RdB w A n c xs) :
  Calls Tryz.prog 151 #[.slice A n c] w fun e w' => e = .returned (.int .u64 (fromBe xs : Nat)) ∧ w = w' := by
 have hn63 := hr.n63
 obtain ⟨N, hN⟩ : ∃ N, N = min n 8 := ⟨_, rfl⟩
 have hN8 : N ≤ 8 := by omega
 have hNn : N ≤ n := by omega
 have hfin : fromBe xs = bev (xs.take N) := by unfold fromBe; rw [min_take xs n N hr.2.1 hN]
 have HN := Lib.hid hN
 have HF := Lib.hid hfin
 clear hN hfin
 go_enter Tryz.func151, Tryz.ntmps151
 go_wp2
 go_loop [3, 4] (RFbI N xs) (fun _ i => N - (intOf i).toNat)
 case atStart => exact ⟨0, Nat.zero_le _, rfl, rfl⟩
 case round =>
  obtain ⟨k, hk, rfl, rfl⟩ := hrel
  by_cases hlt : k < N
  ·obtain ⟨b, o, u, rfl, hb, hxk, hcell⟩ := hr.at_ k (by omega)
   have hs : xs.take (k + 1) = xs.take k ++ [u] := by rw [List.take_add_one, hxk]; rfl
   have hl := bev_lt (xs.take k)
   have hlen : (xs.take k).length = k := by rw [List.length_take, hr.2.1]; omega
   rw [hlen] at hl
   have hp := pow_small (k + 1) (by omega)
   have hq : bev (xs.take (k + 1)) = bev (xs.take k) * 256 + u.toNat := by rw [hs, bev_snoc]
   have HQ := Lib.hid hq
   have d1 : decide (k < n) = true := decide_eq_true (by omega)
   have d2 : decide ((k : Int) < 8) = true := decide_eq_true (by omega)
   clear hs hlen hxk hq
   generalize bev (xs.take k) = R at *
   have hu := u.toNat_lt
   have hsm : R < 72057594037927936 := by rw [Nat.pow_succ] at hp; omega
   clear hl hp
   go_wp2
   go_round
   case rel => exact ⟨k + 1, by omega, by go_num, by rw [HQ.out]; go_num⟩
   case measure => simp [intOf] <;> omega
  ·obtain rfl : k = N := by omega
   have hd : (decide (k < n) = false) ∨ (decide (k < n) = true ∧ decide ((k : Int) < 8) = false) := by
    have h := HN.out
    by_cases hs : k < n
    ·right; exact ⟨decide_eq_true (by omega), decide_eq_false (by omega)⟩
    ·left; exact decide_eq_false (by omega)
   rcases hd with d1 | ⟨d1, d2⟩
   ·go_wp2
    go_ret
    exact ⟨by rw [HF.out]; rfl, rfl⟩
   ·go_wp2
    go_ret
    exact ⟨by rw [HF.out]; rfl, rfl⟩
end Go.Proofs.YtpahicfnhhhifaaGreat
