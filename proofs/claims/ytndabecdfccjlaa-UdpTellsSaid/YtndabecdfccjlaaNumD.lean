/-
  The walk of num.Check.
-/
import Derived.Test.YtndabecdfccjlaaNumC
namespace Go.Proofs.Ytndabecdfccjlaa
set_option maxRecDepth 20000
open Go.RowKit
set_option linter.unusedVariables false
set_option linter.unusedSimpArgs false

theorem i64_and1 (n : Int) : bits .and .i64 n 1 = n % 2 := by
  have h1 : (BitVec.ofInt 64 1).toNat = 2 ^ 1 - 1 := by decide
  have key : (BitVec.ofInt 64 n &&& BitVec.ofInt 64 1).toNat = (n % ((2 ^ 64 : Nat) : Int)).toNat % 2 ^ 1 := by
    rw [BitVec.toNat_and, BitVec.toNat_ofInt, h1, Nat.and_two_pow_sub_one_eq_mod]
  show IntKind.i64.wrap ((BitVec.ofInt 64 n &&& BitVec.ofInt 64 1).toNat : Nat) = n % 2
  rw [key, IntKind.wrap_i64]
  omega
theorem u32_low16 (y : Nat) (h : y < 4294967296) : bits .and .u32 (y : Int) 65535 = ((y % 65536 : Nat) : Int) := by
  rw [show (65535 : Int) = ((65535 : Nat) : Int) from rfl, u32_and_nat y 65535 h (by omega), show (65535 : Nat) = 2 ^ 16 - 1 from rfl, Nat.and_two_pow_sub_one_eq_mod]
theorem not_xor16 {r : Nat} (h : r < 65536) : 65535 - r = r ^^^ 65535 := by
  apply Nat.eq_of_testBit_eq
  intro i
  have e : 65535 - r = 2 ^ 16 - (r + 1) := by omega
  rw [e, Nat.testBit_two_pow_sub_succ h, Nat.testBit_xor, show (65535 : Nat) = 2 ^ 16 - 1 from rfl, Nat.testBit_two_pow_sub_one]
  by_cases hi : i < 16
  · simp [hi]
  · have : r.testBit i = false := Nat.testBit_lt_two_pow (Nat.lt_of_lt_of_le h (Nat.pow_le_pow_right (n := 2) (by decide) (show 16 ≤ i by omega)))
    simp [hi, this]
theorem not_u16 (r : Nat) (h : r < 65536) : bits .xor .u16 IntKind.u16.max (r : Int) = ((65535 - r : Nat) : Int) := by
  rw [show IntKind.u16.max = ((65535 : Nat) : Int) from by decide, u16_xor_nat _ _ (by omega) h, Nat.xor_comm, ← not_xor16 h]
def CkI (n : Nat) (xs : List UInt8) (s i : Value) : Prop :=
  ∃ k : Nat, k ≤ n ∧ s = .int .u32 (ckFold (ckTot 0 (xs.take k)) : Nat) ∧ i = .int .i64 (k : Nat)

theorem numCheck_any (A : Option Addr) (n c : Nat) (xs : List UInt8) (w : World) (hr : RdB w A n c xs) :
    Calls Try.prog 82 #[.slice A n c] w fun e w' => e = .returned (.int .u16 (numCheck xs : Nat)) ∧ w = w' := by
  have hn63 := hr.n63
  go_enter Try.func82, Try.ntmps82
  go_wp2
  go_loop [3, 9] (CkI n xs) (fun _ i => n - (intOf i).toNat)
  case atStart => exact ⟨0, Nat.zero_le _, rfl, rfl⟩
  case round =>
    obtain ⟨k, hk, rfl, rfl⟩ := hrel
    by_cases hlt : k < n
    · obtain ⟨b, o, u, rfl, _, hu, hc⟩ := hr.at_ k hlt
      have k1 : (k : Int) < (n : Int) := by omega
      have k0 : (0 : Int) ≤ (k : Int) := by omega
      have hs : xs.take (k + 1) = xs.take k ++ [u] := by rw [List.take_add_one, hu]; rfl
      have hlen : (xs.take k).length = k := by rw [List.length_take, hr.2.1]; omega
      have hu8 : u.toNat < 256 := u.toNat_lt
      have hT : ckTot 0 (xs.take (k + 1)) = ckTot 0 (xs.take k) + (if k % 2 = 0 then 256 * u.toNat else u.toNat) := by rw [hs, ckTot_snoc, hlen]
      have hst : ckFold (ckTot 0 (xs.take (k + 1))) = (ckFold (ckTot 0 (xs.take k)) + (if k % 2 = 0 then 256 * u.toNat else u.toNat)) % 65536 + (ckFold (ckTot 0 (xs.take k)) + (if k % 2 = 0 then 256 * u.toNat else u.toNat)) / 65536 := by
        rw [hT, ckFold_step _ _ (by split <;> omega)]
      have hS1 := ckFold_le (ckTot 0 (xs.take k))
      generalize ckFold (ckTot 0 (xs.take k)) = S at *
      clear hT hs hlen
      by_cases hp : k % 2 = 0
      · rw [if_pos hp] at hst
        have HST := Lib.hid hst
        have t1 : (bits .and .i64 (k : Int) 1 == 0) = true := by rw [i64_and1, beq_iff_eq]; omega
        have t2 : bits .and .u32 ((S : Int) + (u.toNat : Int) * 256) 65535 = (((S + u.toNat * 256) % 65536 : Nat) : Int) := by
          have e : (S : Int) + (u.toNat : Int) * 256 = ((S + u.toNat * 256 : Nat) : Int) := by omega
          rw [e]; exact u32_low16 _ (by omega)
        clear hst hp
        go_wp2
        go_round
        case rel => exact ⟨k + 1, by omega, by rw [HST.out]; go_num, by go_num⟩
        case measure => simp [intOf] <;> omega
      · rw [if_neg hp] at hst
        have HST := Lib.hid hst
        have t1 : (bits .and .i64 (k : Int) 1 == 0) = false := by rw [i64_and1, beq_eq_false_iff_ne]; omega
        have t2 : bits .and .u32 ((S : Int) + (u.toNat : Int)) 65535 = (((S + u.toNat) % 65536 : Nat) : Int) := by
          have e : (S : Int) + (u.toNat : Int) = ((S + u.toNat : Nat) : Int) := by omega
          rw [e]; exact u32_low16 _ (by omega)
        clear hst hp
        go_wp2
        go_round
        case rel => exact ⟨k + 1, by omega, by rw [HST.out]; go_num, by go_num⟩
        case measure => simp [intOf] <;> omega
    · obtain rfl : k = n := by omega
      have hS1 : ckFold (ckTot 0 xs) ≤ 65535 := ckFold_le _
      have hn := not_u16 (ckFold (ckTot 0 xs)) (by omega)
      rw [List.take_of_length_le (by rw [hr.2.1]; exact Nat.le_refl _)]
      have hN : numCheck xs = 65535 - ckFold (ckTot 0 xs) := rfl
      generalize ckFold (ckTot 0 xs) = S at *
      have HN := Lib.hid hN
      clear hN
      go_wp2
      go_ret
      exact ⟨by rw [HN.out]; rfl, rfl⟩
end Go.Proofs.Ytndabecdfccjlaa
