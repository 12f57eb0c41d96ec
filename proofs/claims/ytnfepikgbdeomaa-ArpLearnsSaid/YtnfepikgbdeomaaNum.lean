/-
  The walks of package num's Le, Be, FromLe, FromBe, and of the reference's.
-/
import Derived.Test.YtnfepikgbdeomaaNumMath
import Derived.Test.YtnfepikgbdeomaaSl
import Derived.Test.YtnfepikgbdeomaaPlan
import Derived.OwnWalk
namespace Go.Proofs.Ytnfepikgbdeomaa
set_option maxRecDepth 20000
open Go.RowKit
set_option linter.unusedVariables false
set_option linter.unusedSimpArgs false

theorem clamp_eq (s : Int) : max 0 (min s 8) = (clamp s : Int) := by
  unfold clamp
  split
  · omega
  · split <;> omega
theorem cut_any (s : Int) (w : World) : Calls Try.prog 157 #[.int .i64 s, .int .i64 0, .int .i64 8] w fun e w' => e = .returned (.int .i64 (clamp s : Nat)) ∧ w = w' := by
  go_enter Try.func157, Try.ntmps157
  go_wp2
  go_ret
  exact ⟨by rw [← clamp_eq]; rfl, rfl⟩

theorem pow_256 (k : Nat) : 256 ^ k = 2 ^ (8 * k) := by rw [show (256 : Nat) = 2 ^ 8 from rfl, ← Nat.pow_mul]
theorem pow_small (k : Nat) (hk : k ≤ 8) : 256 ^ k ≤ 18446744073709551616 := by
  rw [show 18446744073709551616 = 256 ^ 8 from rfl]; exact Nat.pow_le_pow_right (by decide) hk
theorem or_shl (R k u : Nat) (hR : R < 256 ^ k) (hk : k < 8) (hu : u < 256) :
    bits .or .u64 (R : Int) (IntKind.u64.wrap ((u : Int) * 2 ^ (8 * k))) = ((R + 256 ^ k * u : Nat) : Int) := by
  have hp := pow_small (k + 1) (by omega)
  have h1 : u * 256 ^ k < 256 ^ (k + 1) := by rw [Nat.pow_succ, Nat.mul_comm (256 ^ k)]; exact Nat.mul_lt_mul_of_pos_right hu (Nat.pow_pos (by decide))
  have hR' : R < 256 ^ (k + 1) := Nat.lt_of_lt_of_le hR (Nat.pow_le_pow_right (by decide) (by omega))
  have e : (u : Int) * 2 ^ (8 * k) = ((u * 256 ^ k : Nat) : Int) := by rw [pow_256]; push_cast; rfl
  rw [e, IntWalk.u64_in _ (by omega), u64_or_nat _ _ (by omega) (by omega), Nat.or_comm, nat_join (8 * k) _ _ (by rw [pow_256]; exact Nat.mul_mod_left _ _) (by rw [← pow_256]; exact hR)]
  rw [Nat.mul_comm u, Nat.add_comm]

theorem or_256 (R u : Nat) (h : R < 72057594037927936) (hu : u < 256) : bits .or .u64 ((R : Int) * 256) (u : Int) = ((R * 256 + u : Nat) : Int) := by
  have e : (R : Int) * 256 = ((R * 256 : Nat) : Int) := by omega
  have h1 : R * 256 < 18446744073709551616 := by omega
  have h2 : u < 18446744073709551616 := by omega
  have h8 : (2 : Nat) ^ 8 = 256 := by decide
  have h3 : R * 256 % 2 ^ 8 = 0 := by rw [h8]; exact Nat.mul_mod_left R 256
  have h4 : u < 2 ^ 8 := by rw [h8]; exact hu
  have hj := nat_join 8 (R * 256) u h3 h4
  rw [e, u64_or_nat _ _ h1 h2, hj]

def LeI (N : Nat) (xs : List UInt8) (v i : Value) : Prop := ∃ k, k ≤ N ∧ i = .int .i64 (k : Nat) ∧ v = .int .u64 (lev (xs.take k) : Nat)
theorem fromLe_any (A : Option Addr) (n c : Nat) (xs : List UInt8) (w : World) (hr : RdB w A n c xs) :
    Calls Try.prog 149 #[.slice A n c] w fun e w' => e = .returned (.int .u64 (fromLe xs : Nat)) ∧ w = w' := by
  have hn63 := hr.n63
  obtain ⟨N, hN⟩ : ∃ N, N = min n 8 := ⟨_, rfl⟩
  have hN8 : N ≤ 8 := by omega
  have hNn : N ≤ n := by omega
  have hm : min (n : Int) 8 = (N : Int) := by omega
  have hfin : fromLe xs = lev (xs.take N) := by
    unfold fromLe
    rw [hN, ← hr.2.1]
    rcases Nat.le_total xs.length 8 with h | h
    · rw [Nat.min_eq_left h, List.take_of_length_le h, List.take_length]
    · rw [Nat.min_eq_right h]
  have HN := Lib.hid hN
  have HF := Lib.hid hfin
  clear hN hfin
  go_enter Try.func149, Try.ntmps149
  go_wp2
  go_loop [3, 8] (LeI N xs) (fun _ i => N - (intOf i).toNat)
  case atStart => exact ⟨0, Nat.zero_le _, rfl, rfl⟩
  case round =>
    obtain ⟨k, hk, rfl, rfl⟩ := hrel
    by_cases hlt : k < N
    · obtain ⟨b, o, u, rfl, hb, hxk, hcell⟩ := hr.at_ k (by omega)
      have hs : xs.take (k + 1) = xs.take k ++ [u] := by rw [List.take_add_one, hxk]; rfl
      have hl := lev_lt (xs.take k)
      have hlen : (xs.take k).length = k := by rw [List.length_take, hr.2.1]; omega
      rw [hlen] at hl
      have HS := Lib.hid hs
      have HL := Lib.hid hlen
      clear hs hlen hxk
      generalize hR : lev (xs.take k) = R at *
      have HR := Lib.hid hR
      clear hR
      have hu := u.toNat_lt
      go_wp2
      have e1 := or_shl R k u.toNat hl (by omega) hu
      have hfin : lev (xs.take (k + 1)) = R + 256 ^ k * u.toNat := by rw [HS.out, lev_append, HR.out, HL.out]; simp [lev]
      have HQ := Lib.hid hfin
      clear hfin
      go_wp2
      go_round
      case rel => exact ⟨k + 1, by omega, by go_num, by rw [HQ.out, e1]⟩
      case measure => simp [intOf] <;> omega
    · obtain rfl : k = N := by omega
      go_wp2
      go_ret
      exact ⟨by rw [HF.out]; rfl, rfl⟩

theorem min_take (xs : List UInt8) (n N : Nat) (hn : xs.length = n) (hN : N = min n 8) : xs.take 8 = xs.take N := by
  rw [hN, ← hn]
  rcases Nat.le_total xs.length 8 with h | h
  · rw [Nat.min_eq_left h, List.take_of_length_le h, List.take_length]
  · rw [Nat.min_eq_right h]

def BeI (N : Nat) (xs : List UInt8) (v i : Value) : Prop := ∃ k, k ≤ N ∧ i = .int .i64 (k : Nat) ∧ v = .int .u64 (bev (xs.take k) : Nat)
theorem fromBe_any (A : Option Addr) (n c : Nat) (xs : List UInt8) (w : World) (hr : RdB w A n c xs) :
    Calls Try.prog 105 #[.slice A n c] w fun e w' => e = .returned (.int .u64 (fromBe xs : Nat)) ∧ w = w' := by
  have hn63 := hr.n63
  obtain ⟨N, hN⟩ : ∃ N, N = min n 8 := ⟨_, rfl⟩
  have hN8 : N ≤ 8 := by omega
  have hNn : N ≤ n := by omega
  have hm : min (n : Int) 8 = (N : Int) := by omega
  have hfin : fromBe xs = bev (xs.take N) := by unfold fromBe; rw [min_take xs n N hr.2.1 hN]
  have HN := Lib.hid hN
  have HF := Lib.hid hfin
  clear hN hfin
  go_enter Try.func105, Try.ntmps105
  go_wp2
  go_loop [3, 8] (BeI N xs) (fun _ i => N - (intOf i).toNat)
  case atStart => exact ⟨0, Nat.zero_le _, rfl, rfl⟩
  case round =>
    obtain ⟨k, hk, rfl, rfl⟩ := hrel
    by_cases hlt : k < N
    · obtain ⟨b, o, u, rfl, hb, hxk, hcell⟩ := hr.at_ k (by omega)
      have hs : xs.take (k + 1) = xs.take k ++ [u] := by rw [List.take_add_one, hxk]; rfl
      have hl := bev_lt (xs.take k)
      have hlen : (xs.take k).length = k := by rw [List.length_take, hr.2.1]; omega
      rw [hlen] at hl
      have hp := pow_small (k + 1) (by omega)
      have hq : bev (xs.take (k + 1)) = bev (xs.take k) * 256 + u.toNat := by rw [hs, bev_snoc]
      have HQ := Lib.hid hq
      clear hs hlen hxk hq
      generalize hR : bev (xs.take k) = R at *
      have HR := Lib.hid hR
      clear hR
      have hu := u.toNat_lt
      have hsm : R < 72057594037927936 := by rw [Nat.pow_succ] at hp; omega
      clear hl hp
      have e1 := or_256 R u.toNat hsm hu
      go_wp2
      go_round
      case rel => exact ⟨k + 1, by omega, by go_num, by rw [HQ.out]; go_num⟩
      case measure => simp [intOf] <;> omega
    · obtain rfl : k = N := by omega
      go_wp2
      go_ret
      exact ⟨by rw [HF.out]; rfl, rfl⟩
end Go.Proofs.Ytnfepikgbdeomaa
