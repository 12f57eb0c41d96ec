/-
  The walk of num.Dec.
-/
import Derived.Test.YthaampcfkmfjcaaNumE
namespace Go.Proofs.Ythaampcfkmfjcaa
open Go.RowKit
set_option linter.unusedVariables false
set_option linter.unusedSimpArgs false

/-- A number's digits. -/
def decL (u : Nat) : List UInt8 := if h : u < 10 then [UInt8.ofNat (48 + u)] else decL (u / 10) ++ [UInt8.ofNat (48 + u % 10)]
termination_by u
decreasing_by omega
theorem decL_small {u : Nat} (h : u < 10) : decL u = [UInt8.ofNat (48 + u)] := by rw [decL, dif_pos h]
theorem decL_big {u : Nat} (h : ¬ u < 10) : decL u = decL (u / 10) ++ [UInt8.ofNat (48 + u % 10)] := by rw [decL, dif_neg h]
/-- What Dec writes. -/
def decI (n : Int) : List UInt8 := if n < 0 then 45 :: decL n.natAbs else decL n.natAbs

/-- A variable of twenty bytes. -/
def ArrB (w : World) (g : Nat) (zs : List UInt8) : Prop := w.heap[g]? = some (.cells (zs.map vB).toArray 80)
theorem ArrB.cell {w : World} {g : Nat} {zs : List UInt8} (h : ArrB w g zs) (k : Nat) (hk : k < zs.length) : w.cell? ⟨g, k, none⟩ = some (.int .u8 (zs[k].toNat : Int)) := by
  rw [cell_of_row _ _ k _ _ (0, 0) h]
  simp [hk, vB]
theorem ArrB.free {w : World} {g : Nat} {zs : List UInt8} (h : ArrB w g zs) (k : Nat) : w.frozen? ⟨g, k, none⟩ = false := frozen_of_row _ _ k _ _ h
theorem ArrB.set {w : World} {g : Nat} {zs : List UInt8} (h : ArrB w g zs) (k : Nat) (u : UInt8) : ArrB (w.setCell ⟨g, k, none⟩ (.int .u8 (u.toNat : Int))) g (zs.set k u) := by
  unfold ArrB at h ⊢
  simp [World.setCell, Array.getElem?_modify, h, List.map_set, vB]
theorem ArrB.rd {w : World} {g : Nat} {zs : List UInt8} (h : ArrB w g zs) (hz : zs.length = 20) (k m : Nat) (hm : k + m = 20) : RdB w (some ⟨g, k, none⟩) m m (zs.drop k) := by
  refine ⟨.inr ⟨g, k, rfl, ?_, fun i v hv => ?_⟩, by simp; omega, Nat.le_refl _, by unfold maxLen; omega⟩
  · unfold ArrB at h
    exact (Array.getElem?_eq_some_iff.mp h).1
  · rw [cell_of_row _ _ (k + i) _ _ (0, 0) h]
    rw [← hv]
    simp
def DecJ (w : World) (U : Nat) (a v : Value) (wr : World) : Prop :=
  ∃ (k V : Nat) (zs : List UInt8), 1 ≤ k ∧ k ≤ 20 ∧ V < 10 ^ k ∧ V < 18446744073709551616 ∧ a = .int .i64 (k : Nat) ∧ v = .int .u64 (V : Nat) ∧ zs.length = 20 ∧ ArrB wr w.heap.size zs ∧ Below w.heap.size w wr ∧ decL U = decL V ++ zs.drop k

theorem dec_pos (n : Nat) (w : World) (hn : n ≤ 9223372036854775807) :
    Calls Try.prog 53 #[.int .i64 n] w (RetV w (.string (strOf (decL n)))) := by
  have d1 : decide ((n : Int) < 0) = false := decide_eq_false (by omega)
  have d2 : decide ((0 : Int) ≤ (n : Int)) = true := decide_eq_true (by omega)
  go_enter Try.func53, Try.ntmps53
  go_wp2
  go_loopw [4, 5] (DecJ w n) (fun a _ _ => (intOf a).toNat)
  case atStart => exact ⟨20, n, List.replicate 20 0, by omega, by omega, by omega, by omega, rfl, rfl, rfl, heap_alloc_new w _, (below_self w).alloc (Nat.le_refl _) _, by simp⟩
  case round =>
    obtain ⟨k, V, zs, k1, k20, hV, hV64, rfl, rfl, hz, hA, hB, hD⟩ := hrel
    obtain ⟨k, rfl⟩ : ∃ j, k = j + 1 := ⟨k - 1, by omega⟩
    have hcell := hA.cell k (by omega)
    have hfree := hA.free k
    have k0 : (0 : Int) ≤ (k : Int) := by omega
    have k2 : (k : Int) < 20 := by omega
    have k3 : (k : Int) ≤ 20 := by omega
    have hne : ¬ (20 = k) := by omega
    have hA2 := hA.set k (UInt8.ofNat (48 + V % 10))
    have hv : (((UInt8.ofNat (48 + V % 10)).toNat : Nat) : Int) = 48 + (V : Int) % 10 := by
      rw [UInt8.toNat_ofNat']
      have h2 : (48 + V % 10) % 2 ^ 8 = 48 + V % 10 := Nat.mod_eq_of_lt (by omega)
      rw [h2]; push_cast; rfl
    rw [hv] at hA2
    have hz2 : (zs.set k (UInt8.ofNat (48 + V % 10))).length = 20 := by simp; exact hz
    have hd2 : (zs.set k (UInt8.ofNat (48 + V % 10))).drop k = UInt8.ofNat (48 + V % 10) :: zs.drop (k + 1) := by
      rw [List.drop_eq_getElem_cons (by omega), List.getElem_set_self, List.drop_set_of_lt (by omega)]
    have hst := (hA2.rd hz2 k (20 - k) (by omega)).str
    rw [hd2] at hst
    by_cases h : V < 10
    · have hq : ((V : Int) / 10 == 0) = true := by rw [beq_iff_eq]; omega
      rw [decL_small h] at hD
      rw [show V % 10 = V by omega] at hst
      have hfin : strOf (UInt8.ofNat (48 + V) :: zs.drop (k + 1)) = strOf (decL n) := by rw [hD]; rfl
      rw [hfin] at hst
      clear hD hd2 hfin
      go_wp2
      go_ret
      exact ⟨rfl, hB.setCell (Nat.le_refl _) _⟩
    · have hq : ((V : Int) / 10 == 0) = false := by rw [beq_eq_false_iff_ne]; omega
      rw [decL_big h, List.append_assoc, List.singleton_append, ← hd2] at hD
      have HD := Lib.hid hD
      have hpow : V / 10 < 10 ^ k := by rw [Nat.div_lt_iff_lt_mul (by omega), ← Nat.pow_succ]; exact hV
      have hk1 : 1 ≤ k := by
        rcases Nat.eq_zero_or_pos k with rfl | hk
        · simp at hpow; omega
        · exact hk
      clear hD hd2 hV
      go_wp2
      go_roundw
      case rel => exact ⟨k, V / 10, _, hk1, by omega, hpow, by omega, by go_num, by go_num, hz2, hA2, hB.setCell (Nat.le_refl _) _, HD.out⟩
      case measure => simp [intOf] <;> omega
theorem dec_neg (n : Nat) (w : World) (h0 : 0 < n) (hn : n ≤ 9223372036854775808) :
    Calls Try.prog 53 #[.int .i64 (-(n : Int))] w (RetV w (.string (strOf (45 :: decL n)))) := by
  have d1 : decide (-(n : Int) < 0) = true := decide_eq_true (by omega)
  have d2 : decide ((0 : Int) ≤ -(n : Int)) = false := decide_eq_false (by omega)
  have e1 : IntKind.u64.wrap (-(n : Int)) = 18446744073709551616 - (n : Int) := by rw [IntKind.wrap_u64]; omega
  have e2 : IntKind.u64.wrap (-(18446744073709551616 - (n : Int))) = (n : Int) := by rw [IntKind.wrap_u64]; omega
  have hcat : strOf (45 :: decL n) = ⟨#[45]⟩ ++ strOf (decL n) := by
    apply ByteArray.ext
    simp [strOf, ByteArray.data_append]
  go_enter Try.func53, Try.ntmps53
  go_wp2
  go_loopw [4, 5] (DecJ w n) (fun a _ _ => (intOf a).toNat)
  case atStart => exact ⟨20, n, List.replicate 20 0, by omega, by omega, by omega, by omega, rfl, rfl, rfl, heap_alloc_new w _, (below_self w).alloc (Nat.le_refl _) _, by simp⟩
  case round =>
    obtain ⟨k, V, zs, k1, k20, hV, hV64, rfl, rfl, hz, hA, hB, hD⟩ := hrel
    obtain ⟨k, rfl⟩ : ∃ j, k = j + 1 := ⟨k - 1, by omega⟩
    have hcell := hA.cell k (by omega)
    have hfree := hA.free k
    have k0 : (0 : Int) ≤ (k : Int) := by omega
    have k2 : (k : Int) < 20 := by omega
    have k3 : (k : Int) ≤ 20 := by omega
    have hne : ¬ (20 = k) := by omega
    have hA2 := hA.set k (UInt8.ofNat (48 + V % 10))
    have hv : (((UInt8.ofNat (48 + V % 10)).toNat : Nat) : Int) = 48 + (V : Int) % 10 := by
      rw [UInt8.toNat_ofNat']
      have h2 : (48 + V % 10) % 2 ^ 8 = 48 + V % 10 := Nat.mod_eq_of_lt (by omega)
      rw [h2]; push_cast; rfl
    rw [hv] at hA2
    have hz2 : (zs.set k (UInt8.ofNat (48 + V % 10))).length = 20 := by simp; exact hz
    have hd2 : (zs.set k (UInt8.ofNat (48 + V % 10))).drop k = UInt8.ofNat (48 + V % 10) :: zs.drop (k + 1) := by
      rw [List.drop_eq_getElem_cons (by omega), List.getElem_set_self, List.drop_set_of_lt (by omega)]
    have hst := (hA2.rd hz2 k (20 - k) (by omega)).str
    rw [hd2] at hst
    by_cases h : V < 10
    · have hq : ((V : Int) / 10 == 0) = true := by rw [beq_iff_eq]; omega
      rw [decL_small h] at hD
      rw [show V % 10 = V by omega] at hst
      have hfin : strOf (UInt8.ofNat (48 + V) :: zs.drop (k + 1)) = strOf (decL n) := by rw [hD]; rfl
      rw [hfin] at hst
      have hlen : (decL n).length ≤ 20 := by rw [hD]; simp; omega
      have hsz : ¬ 9223372036854775807 < 1 + (strOf (decL n)).size := by
        have e : (strOf (decL n)).size = (decL n).length := rfl
        rw [e]; omega
      have hn0 : ¬ n = 0 := by omega
      clear hlen
      clear hD hd2 hfin
      go_wp2
      go_ret
      exact ⟨by rw [hcat]; rfl, hB.setCell (Nat.le_refl _) _⟩
    · have hq : ((V : Int) / 10 == 0) = false := by rw [beq_eq_false_iff_ne]; omega
      rw [decL_big h, List.append_assoc, List.singleton_append, ← hd2] at hD
      have HD := Lib.hid hD
      have hpow : V / 10 < 10 ^ k := by rw [Nat.div_lt_iff_lt_mul (by omega), ← Nat.pow_succ]; exact hV
      have hk1 : 1 ≤ k := by
        rcases Nat.eq_zero_or_pos k with rfl | hk
        · simp at hpow; omega
        · exact hk
      clear hD hd2 hV
      go_wp2
      go_roundw
      case rel => exact ⟨k, V / 10, _, hk1, by omega, hpow, by omega, by go_num, by go_num, hz2, hA2, hB.setCell (Nat.le_refl _) _, HD.out⟩
      case measure => simp [intOf] <;> omega

theorem dec_any (n : Int) (w : World) (hn : -9223372036854775808 ≤ n ∧ n ≤ 9223372036854775807) :
    Calls Try.prog 53 #[.int .i64 n] w (RetV w (.string (strOf (decI n)))) := by
  unfold decI
  by_cases h : n < 0
  · rw [if_pos h]
    obtain ⟨u, rfl⟩ : ∃ u : Nat, n = -(u : Int) := ⟨n.natAbs, by omega⟩
    rw [show (-(u : Int)).natAbs = u by omega]
    exact dec_neg u w (by omega) (by omega)
  · rw [if_neg h]
    obtain ⟨u, rfl⟩ : ∃ u : Nat, n = (u : Int) := ⟨n.toNat, by omega⟩
    rw [show ((u : Int)).natAbs = u by omega]
    exact dec_pos u w (by omega)
end Go.Proofs.Ythaampcfkmfjcaa
