/-
  The walk of num.magnitude and num.Parse.
-/
import Derived.Test.YthaampcfkmfjcaaNumG
namespace Go.Proofs.Ythaampcfkmfjcaa
open Go.RowKit
set_option linter.unusedVariables false
set_option linter.unusedSimpArgs false

def isDig (u : UInt8) : Bool := decide (48 ≤ u.toNat) && decide (u.toNat ≤ 57)
def dval (xs : List UInt8) : Nat := xs.foldl (fun a u => a * 10 + (u.toNat - 48)) 0
theorem dval_snoc (xs : List UInt8) (u : UInt8) : dval (xs ++ [u]) = dval xs * 10 + (u.toNat - 48) := by simp [dval]
theorem dval_lt (xs : List UInt8) (h : xs.all isDig = true) : dval xs < 10 ^ xs.length := by
  suffices ∀ n (xs : List UInt8), xs.length = n → xs.all isDig = true → dval xs < 10 ^ n from this _ xs rfl h
  intro n
  induction n with
  | zero => intro xs hl _; rw [List.eq_nil_of_length_eq_zero hl]; decide
  | succ n ih =>
    intro xs hl ha
    rcases List.eq_nil_or_concat xs with rfl | ⟨ys, u, rfl⟩
    · simp at hl
    · rw [List.concat_eq_append] at hl ha ⊢
      rw [List.all_append, Bool.and_eq_true] at ha
      have h1 := ih ys (by simpa using hl) ha.1
      rw [dval_snoc, Nat.pow_succ]
      have h2 : isDig u = true := by simpa using ha.2
      simp [isDig] at h2
      omega
def MagI (n : Nat) (xs : List UInt8) (v i : Value) : Prop :=
  ∃ k : Nat, k ≤ n ∧ (xs.take k).all isDig = true ∧ v = .int .u64 (dval (xs.take k) : Nat) ∧ i = .int .i64 (k : Nat)
def magB (xs : List UInt8) : Bool := decide (0 < xs.length) && (decide (xs.length < 20) && xs.all isDig)
def magV (xs : List UInt8) : Nat := if magB xs = true then dval xs else 0

theorem strOf_get (xs : List UInt8) (k : Nat) (h : k < (strOf xs).size) (h' : k < xs.length) : (strOf xs)[k]'h = xs[k]'h' := rfl
theorem mag_bad (xs : List UInt8) (k : Nat) (h : k < xs.length) (hb : isDig (xs[k]'h) = false) : magB xs = false := by
  unfold magB
  have : xs.all isDig = false := by
    rw [Bool.eq_false_iff]
    intro ha
    rw [List.all_eq_true] at ha
    have := ha _ (List.getElem_mem h)
    rw [hb] at this
    cases this
  rw [this]; simp
theorem mag_good (xs : List UInt8) (h0 : 0 < xs.length) (h20 : xs.length < 20) (h : xs.all isDig = true) : magB xs = true := by
  unfold magB
  rw [h, decide_eq_true h0, decide_eq_true h20]; rfl

theorem mag_any (xs : List UInt8) (w : World) (h0 : 0 < xs.length) (h20 : xs.length < 20) :
    Calls Try.prog 67 #[.string (strOf xs)] w fun e w' => e = .returned (.tuple #[.int .u64 (magV xs : Nat), .bool (magB xs)]) ∧ w = w' := by
  have s0 : ((strOf xs).size : Nat) = xs.length := rfl
  have sl : (strOf xs).toList = xs := by rw [Lib.toList_data]; rfl
  have hne : ¬ (strOf xs).toList = [] := by rw [sl]; intro e; rw [e] at h0; simp at h0
  have he : (strOf xs).toList.isEmpty = false := by rw [sl]; cases xs with | nil => simp at h0 | cons _ _ => rfl
  have hl : decide ((20 : Int) ≤ (xs.length : Int)) = false := decide_eq_false (by omega)
  clear sl
  go_enter Try.func67, Try.ntmps67
  go_wp2
  go_loop [4, 16] (MagI xs.length xs) (fun _ i => xs.length - (intOf i).toNat)
  case atStart => exact ⟨0, Nat.zero_le _, rfl, rfl, rfl⟩
  case round =>
    obtain ⟨k, hk, hdig, rfl, rfl⟩ := hrel
    by_cases hlt : k < xs.length
    · have k1 : (k : Int) < (xs.length : Int) := by omega
      have k0 : (0 : Int) ≤ (k : Int) := by omega
      have hx := strOf_get xs k hlt hlt
      have hs : xs.take (k + 1) = xs.take k ++ [xs[k]] := by rw [List.take_add_one, List.getElem?_eq_getElem hlt]; rfl
      have hV : dval (xs.take k) < 10 ^ (xs.take k).length := dval_lt _ hdig
      have hlen : (xs.take k).length = k := by rw [List.length_take]; omega
      rw [hlen] at hV
      have hV2 : dval (xs.take k) < 1000000000000000000 := Nat.lt_of_lt_of_le hV (by rw [show (1000000000000000000 : Nat) = 10 ^ 18 from rfl]; exact Nat.pow_le_pow_right (by decide) (by omega))
      have hT : dval (xs.take (k + 1)) = dval (xs.take k) * 10 + ((xs[k]).toNat - 48) := by rw [hs, dval_snoc]
      have hc8 : ((strOf xs)[k]'hlt).toNat < 256 := UInt8.toNat_lt _
      rw [← hx] at hT hs
      have hD : isDig ((strOf xs)[k]'hlt) = false → magB xs = false := fun h => mag_bad xs k hlt h
      clear hV hlen hx
      cases hd : isDig ((strOf xs)[k]'hlt) with
      | false =>
        have hB := hD hd
        have hV0 : magV xs = 0 := by unfold magV; rw [if_neg (by rw [hB]; decide)]
        have t1 : ¬ ((((strOf xs)[k]'hlt).toNat : Int) - 48) % 256 ≤ 9 := by
          simp only [isDig, Bool.and_eq_false_iff, decide_eq_false_iff_not] at hd
          omega
        have HB := Lib.hid hB
        have HV := Lib.hid hV0
        clear hT hs hD hd hB hV0
        go_wp2
        · go_ret2
          exact ⟨by rw [HB.out, HV.out]; rfl, rfl⟩
      | true =>
        have hd2 := hd
        simp only [isDig, Bool.and_eq_true, decide_eq_true_eq] at hd2
        have t1 : ¬ (9 : Int) < ((((strOf xs)[k]'hlt).toNat : Int) - 48) % 256 := by omega
        have hall : (xs.take (k + 1)).all isDig = true := by rw [hs, List.all_append, hdig]; simp [hd]
        have w1 : IntKind.u64.wrap ((dval (xs.take k) : Int) * 10) = (dval (xs.take k) : Int) * 10 := IntWalk.u64_in _ (by omega)
        have w2 : IntKind.u64.wrap ((dval (xs.take k) : Int) * 10 + ((((strOf xs)[k]'hlt).toNat : Int) - 48) % 256) = ((dval (xs.take (k + 1)) : Nat) : Int) := by
          rw [hT, IntKind.wrap_u64]
          have hm : ((((strOf xs)[k]'hlt).toNat : Int) - 48) % 256 = ((((strOf xs)[k]'hlt).toNat - 48 : Nat) : Int) := by omega
          rw [hm]; omega
        have HA := Lib.hid hall
        have HT := Lib.hid hT
        clear hT hs hD hd hall hd2
        go_wp2
        go_round
        case rel => exact ⟨k + 1, by omega, HA.out, by rw [HT.out]; congr 1; omega, by go_num⟩
        case measure => simp [intOf] <;> omega
    · obtain rfl : k = xs.length := by omega
      have e : xs.take xs.length = xs := List.take_length
      rw [e] at hdig
      have hB := mag_good xs h0 h20 hdig
      have hV : magV xs = dval xs := by unfold magV; rw [if_pos hB]
      have HB := Lib.hid hB
      have HV := Lib.hid hV
      rw [e]
      clear hB hV e
      go_wp2
      go_ret2
      exact ⟨by rw [HB.out, HV.out]; rfl, rfl⟩
end Go.Proofs.Ythaampcfkmfjcaa
