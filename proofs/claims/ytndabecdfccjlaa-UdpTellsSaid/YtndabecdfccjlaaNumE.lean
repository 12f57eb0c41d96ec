/-
  The walk of the document's answer for num.Check.
-/
import Derived.Test.YtndabecdfccjlaaNumD
namespace Go.Proofs.Ytndabecdfccjlaa
set_option maxRecDepth 20000
open Go.RowKit
set_option linter.unusedVariables false
set_option linter.unusedSimpArgs false

def RckI (n : Nat) (xs : List UInt8) (s i : Value) : Prop :=
  ∃ k : Nat, k ≤ n ∧ s = .int .u64 (ckTot 0 (xs.take k) : Nat) ∧ i = .int .i64 (k : Nat)
def RckJ (T : Nat) (s : Value) : Prop := ∃ t : Nat, t ≤ 65280000000 ∧ ckFold t = ckFold T ∧ s = .int .u64 (t : Nat)

theorem refNumCheck_any (A : Option Addr) (n c : Nat) (xs : List UInt8) (w : World) (hr : RdB w A n c xs) (hn : n ≤ 1000000) :
    Calls Try.prog 88 #[.slice A n c] w fun e w' => e = .returned (.int .u16 (numCheck xs : Nat)) ∧ w = w' := by
  have hn63 := hr.n63
  go_enter Try.func88, Try.ntmps88
  go_wp2
  go_loop [3, 4] (RckI n xs) (fun _ i => n - (intOf i).toNat)
  case atStart => exact ⟨0, Nat.zero_le _, rfl, rfl⟩
  case round =>
    obtain ⟨k, hk, rfl, rfl⟩ := hrel
    by_cases hlt : k < n
    · obtain ⟨b, o, u, rfl, _, hu, hc⟩ := hr.at_ k hlt
      have k1 : (k : Int) < (n : Int) := by omega
      have k0 : (0 : Int) ≤ (k : Int) := by omega
      have hs : xs.take (k + 1) = xs.take k ++ [u] := by rw [List.take_add_one, hu]; rfl
      have hlen : (xs.take k).length = k := by rw [List.length_take, hr.2.1]; omega
      have hu8 : u.toNat < 256 := u.toNat_lt
      have hT : ckTot 0 (xs.take (k + 1)) = ckTot 0 (xs.take k) + (if k % 2 = 0 then 256 * u.toNat else u.toNat) := by rw [hs, ckTot_snoc, hlen]
      have hb : ckTot 0 (xs.take k) ≤ 65280000000 := by have := ckTot_le (xs.take k) 0; omega
      generalize ckTot 0 (xs.take k) = S at *
      clear hs hlen
      by_cases hp : k % 2 = 0
      · rw [if_pos hp] at hT
        have HT := Lib.hid hT
        have t1 : ((k : Int) % 2 == 0) = true := by rw [beq_iff_eq]; omega
        clear hT hp
        go_wp2
        go_round
        case rel => exact ⟨k + 1, by omega, by rw [HT.out]; go_num, by go_num⟩
        case measure => simp [intOf] <;> omega
      · rw [if_neg hp] at hT
        have HT := Lib.hid hT
        have t1 : ((k : Int) % 2 == 0) = false := by rw [beq_eq_false_iff_ne]; omega
        clear hT hp
        go_wp2
        go_round
        case rel => exact ⟨k + 1, by omega, by rw [HT.out]; go_num, by go_num⟩
        case measure => simp [intOf] <;> omega
    · obtain rfl : k = n := by omega
      rw [List.take_of_length_le (by rw [hr.2.1]; exact Nat.le_refl _)]
      have hb : ckTot 0 xs ≤ 65280000000 := by have := ckTot_le xs 0; rw [hr.2.1] at this; omega
      have hN : numCheck xs = 65535 - ckFold (ckTot 0 xs) := rfl
      generalize ckTot 0 xs = T at *
      have HN := Lib.hid hN
      clear hN
      go_wp2
      go_loop [3] (RckJ T) (fun s => (intOf s).toNat)
      case atStart => exact ⟨T, hb, rfl, rfl⟩
      case round =>
        obtain ⟨t, ht, hf, rfl⟩ := hrel
        by_cases hg : 65536 ≤ t
        · have g1 : decide ((65536 : Int) ≤ (t : Int)) = true := decide_eq_true (by omega)
          have HF := Lib.hid (show ckFold (t % 65536 + t / 65536) = ckFold T by rw [ckFold_fold t hg]; exact hf)
          clear hf
          go_wp2
          go_round
          case rel => exact ⟨t % 65536 + t / 65536, by omega, HF.out, by go_num⟩
          case measure => simp [intOf] <;> omega
        · have g1 : decide ((65536 : Int) ≤ (t : Int)) = false := decide_eq_false (by omega)
          rw [ckFold_small t (by omega)] at hf
          have HF := Lib.hid hf
          clear hf
          go_wp2
          go_ret
          exact ⟨by rw [HN.out, ← HF.out]; go_num, rfl⟩
end Go.Proofs.Ytndabecdfccjlaa
