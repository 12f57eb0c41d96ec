/-
  The walk of the document's answer for num.Dec.
-/
import Derived.Test.YthaampcfkmfjcaaNumF
namespace Go.Proofs.Ythaampcfkmfjcaa
open Go.RowKit
set_option linter.unusedVariables false
set_option linter.unusedSimpArgs false

theorem strOf_cons (u : UInt8) (zs : List UInt8) : strOf [u] ++ strOf zs = strOf (u :: zs) := by
  apply ByteArray.ext
  simp [strOf, ByteArray.data_append]
theorem strOf_size (zs : List UInt8) : (strOf zs).size = zs.length := rfl
def RdecJ (w : World) (U : Nat) (v s : Value) (wr : World) : Prop :=
  ∃ (k V : Nat) (zs : List UInt8), 1 ≤ k ∧ k + zs.length ≤ 20 ∧ V < 10 ^ k ∧ V < 18446744073709551616 ∧ v = .int .u64 (V : Nat) ∧ s = .string (strOf zs) ∧ Below w.heap.size w wr ∧ decL U = decL V ++ zs

theorem refDec_pos (n : Nat) (w : World) (hn : n ≤ 9223372036854775807) :
    Calls Try.prog 54 #[.int .i64 n] w (RetV w (.string (strOf (decL n)))) := by
  have d1 : decide ((n : Int) < 0) = false := decide_eq_false (by omega)
  go_enter Try.func54, Try.ntmps54
  go_wp2
  go_loopw [3, 4] (RdecJ w n) (fun v _ _ => (intOf v).toNat)
  case atStart => exact ⟨20, n, [], by omega, by simp, by omega, by omega, rfl, rfl, Below.refl _ w, by simp⟩
  case round =>
    obtain ⟨k, V, zs, k1, k20, hV, hV64, rfl, rfl, hB, hD⟩ := hrel
    have hd : (((UInt8.ofNat (48 + V % 10)).toNat : Nat) : Int) = 48 + (V : Int) % 10 := by
      rw [UInt8.toNat_ofNat']
      have h2 : (48 + V % 10) % 2 ^ 8 = 48 + V % 10 := Nat.mod_eq_of_lt (by omega)
      rw [h2]; push_cast; rfl
    have hst := (rd1 wr (48 + (V : Int) % 10) (UInt8.ofNat (48 + V % 10)) hd.symm).str
    obtain ⟨D, hDd⟩ : ∃ D : UInt8, D = UInt8.ofNat (48 + V % 10) := ⟨_, rfl⟩
    rw [← hDd] at hst
    have hcc := strOf_cons D zs
    obtain ⟨S1, hS1⟩ : ∃ S, S = strOf [D] := ⟨_, rfl⟩
    have hsz1 : S1.size = 1 := by rw [hS1]; rfl
    rw [← hS1] at hst hcc
    have hsz2 : ¬ 9223372036854775807 < 1 + (strOf zs).size := by rw [strOf_size]; omega
    clear hS1 hd
    by_cases h : V < 10
    · have hq : decide ((10 : Int) ≤ (V : Int)) = false := decide_eq_false (by omega)
      have hm : (V : Int) % 10 = (V : Int) := by omega
      rw [hm] at hst
      rw [decL_small h, show UInt8.ofNat (48 + V) = D by rw [hDd, show V % 10 = V by omega], List.singleton_append] at hD
      rw [← hD] at hcc
      have hlen : (decL n).length ≤ 20 := by rw [hD]; simp; omega
      have hsz3 : ¬ 9223372036854775807 < 1 + (strOf (decL n)).size := by rw [strOf_size]; omega
      clear hD hlen hDd
      go_wp2
      go_ret
      exact ⟨rfl, hB.alloc hB.size _⟩
    · have hq : decide ((10 : Int) ≤ (V : Int)) = true := decide_eq_true (by omega)
      rw [decL_big h, ← hDd, List.append_assoc, List.singleton_append] at hD
      have HD := Lib.hid hD
      have hk2 : 2 ≤ k := by
        rcases Nat.lt_or_ge k 2 with hk | hk
        · obtain rfl : k = 1 := by omega
          simp at hV; omega
        · exact hk
      obtain ⟨j, rfl⟩ : ∃ j, k = j + 1 := ⟨k - 1, by omega⟩
      have hpow : V / 10 < 10 ^ j := by rw [Nat.div_lt_iff_lt_mul (by omega), ← Nat.pow_succ]; exact hV
      clear hD hV hDd
      go_wp2
      go_roundw
      case rel => exact ⟨j, V / 10, D :: zs, by omega, by simp; omega, hpow, by omega, by go_num, rfl, hB.alloc hB.size _, HD.out⟩
      case measure => simp [intOf] <;> omega

theorem refDec_neg (n : Nat) (w : World) (h0 : 0 < n) (hn : n ≤ 9223372036854775808) :
    Calls Try.prog 54 #[.int .i64 (-(n : Int))] w (RetV w (.string (strOf (45 :: decL n)))) := by
  have d1 : decide (-(n : Int) < 0) = true := decide_eq_true (by omega)
  have e0 : IntKind.u64.wrap ((n : Int) - 1) = (n : Int) - 1 := IntWalk.u64_in _ (by omega)
  have e1 : IntKind.u64.wrap (-1 - -(n : Int)) = (n : Int) - 1 := by rw [IntKind.wrap_u64]; omega
  have hcat : strOf (45 :: decL n) = ⟨#[45]⟩ ++ strOf (decL n) := by
    apply ByteArray.ext
    simp [strOf, ByteArray.data_append]
  go_enter Try.func54, Try.ntmps54
  go_wp2
  go_loopw [3, 4] (RdecJ w n) (fun v _ _ => (intOf v).toNat)
  case atStart => exact ⟨20, n, [], by omega, by simp, by omega, by omega, by go_num, rfl, Below.refl _ w, by simp⟩
  case round =>
    obtain ⟨k, V, zs, k1, k20, hV, hV64, rfl, rfl, hB, hD⟩ := hrel
    have hd : (((UInt8.ofNat (48 + V % 10)).toNat : Nat) : Int) = 48 + (V : Int) % 10 := by
      rw [UInt8.toNat_ofNat']
      have h2 : (48 + V % 10) % 2 ^ 8 = 48 + V % 10 := Nat.mod_eq_of_lt (by omega)
      rw [h2]; push_cast; rfl
    have hst := (rd1 wr (48 + (V : Int) % 10) (UInt8.ofNat (48 + V % 10)) hd.symm).str
    obtain ⟨D, hDd⟩ : ∃ D : UInt8, D = UInt8.ofNat (48 + V % 10) := ⟨_, rfl⟩
    rw [← hDd] at hst
    have hcc := strOf_cons D zs
    obtain ⟨S1, hS1⟩ : ∃ S, S = strOf [D] := ⟨_, rfl⟩
    have hsz1 : S1.size = 1 := by rw [hS1]; rfl
    rw [← hS1] at hst hcc
    have hsz2 : ¬ 9223372036854775807 < 1 + (strOf zs).size := by rw [strOf_size]; omega
    clear hS1 hd
    by_cases h : V < 10
    · have hq : decide ((10 : Int) ≤ (V : Int)) = false := decide_eq_false (by omega)
      have hm : (V : Int) % 10 = (V : Int) := by omega
      rw [hm] at hst
      rw [decL_small h, show UInt8.ofNat (48 + V) = D by rw [hDd, show V % 10 = V by omega], List.singleton_append] at hD
      rw [← hD] at hcc
      have hlen : (decL n).length ≤ 20 := by rw [hD]; simp; omega
      have hsz3 : ¬ 9223372036854775807 < 1 + (strOf (decL n)).size := by rw [strOf_size]; omega
      clear hD hlen hDd
      go_wp2
      go_ret
      exact ⟨by rw [hcat]; rfl, hB.alloc hB.size _⟩
    · have hq : decide ((10 : Int) ≤ (V : Int)) = true := decide_eq_true (by omega)
      rw [decL_big h, ← hDd, List.append_assoc, List.singleton_append] at hD
      have HD := Lib.hid hD
      have hk2 : 2 ≤ k := by
        rcases Nat.lt_or_ge k 2 with hk | hk
        · obtain rfl : k = 1 := by omega
          simp at hV; omega
        · exact hk
      obtain ⟨j, rfl⟩ : ∃ j, k = j + 1 := ⟨k - 1, by omega⟩
      have hpow : V / 10 < 10 ^ j := by rw [Nat.div_lt_iff_lt_mul (by omega), ← Nat.pow_succ]; exact hV
      clear hD hV hDd
      go_wp2
      go_roundw
      case rel => exact ⟨j, V / 10, D :: zs, by omega, by simp; omega, hpow, by omega, by go_num, rfl, hB.alloc hB.size _, HD.out⟩
      case measure => simp [intOf] <;> omega

theorem refDec_any (n : Int) (w : World) (hn : -9223372036854775808 ≤ n ∧ n ≤ 9223372036854775807) :
    Calls Try.prog 54 #[.int .i64 n] w (RetV w (.string (strOf (decI n)))) := by
  unfold decI
  by_cases h : n < 0
  · rw [if_pos h]
    obtain ⟨u, rfl⟩ : ∃ u : Nat, n = -(u : Int) := ⟨n.natAbs, by omega⟩
    rw [show (-(u : Int)).natAbs = u by omega]
    exact refDec_neg u w (by omega) (by omega)
  · rw [if_neg h]
    obtain ⟨u, rfl⟩ : ∃ u : Nat, n = (u : Int) := ⟨n.toNat, by omega⟩
    rw [show ((u : Int)).natAbs = u by omega]
    exact refDec_pos u w (by omega)
end Go.Proofs.Ythaampcfkmfjcaa
