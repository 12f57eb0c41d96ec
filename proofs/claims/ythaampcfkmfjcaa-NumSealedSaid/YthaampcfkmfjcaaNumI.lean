/-
  The walk of num.Parse.
-/
import Derived.Test.YthaampcfkmfjcaaNumH
namespace Go.Proofs.Ythaampcfkmfjcaa
open Go.RowKit
set_option linter.unusedVariables false
set_option linter.unusedSimpArgs false

theorem mag_all (xs : List UInt8) (w : World) (hb : xs.length ≤ 9223372036854775807) :
    Calls Try.prog 67 #[.string (strOf xs)] w fun e w' => e = .returned (.tuple #[.int .u64 (magV xs : Nat), .bool (magB xs)]) ∧ w = w' := by
  rcases Nat.eq_zero_or_pos xs.length with h0 | h0
  · obtain rfl := List.eq_nil_of_length_eq_zero h0
    have hne : (strOf []).toList = [] := by rw [Lib.toList_data]; rfl
    go_enter Try.func67, Try.ntmps67
    go_wp2
    go_ret2
    exact ⟨rfl, rfl⟩
  · rcases Nat.lt_or_ge xs.length 20 with h20 | h20
    · exact mag_any xs w h0 h20
    · have sl : (strOf xs).toList = xs := by rw [Lib.toList_data]; rfl
      have hne : ¬ (strOf xs).toList = [] := by rw [sl]; intro e; rw [e] at h0; simp at h0
      have he : (strOf xs).toList.isEmpty = false := by rw [sl]; cases xs with | nil => simp at h0 | cons _ _ => rfl
      have s0 : (strOf xs).size = xs.length := rfl
      have hl : decide ((20 : Int) ≤ (xs.length : Int)) = true := decide_eq_true (by omega)
      have hB : magB xs = false := by unfold magB; rw [show decide (xs.length < 20) = false from decide_eq_false (by omega)]; simp
      have hV : magV xs = 0 := by unfold magV; rw [if_neg (by rw [hB]; decide)]
      have HB := Lib.hid hB
      have HV := Lib.hid hV
      clear sl hB hV
      go_enter Try.func67, Try.ntmps67
      go_wp2
      go_ret2
      exact ⟨by rw [HB.out, HV.out]; rfl, rfl⟩

def RetU (w : World) (v1 v2 : Value) (e : Ending) (w' : World) : Prop := e = .returned (.tuple #[v1, v2]) ∧ Below w.heap.size w w'
def parseRest (xs : List UInt8) : List UInt8 := if xs.head? = some 45 then xs.tail else xs
def parseU (xs : List UInt8) : Int := if xs.head? = some 45 then -((magV xs.tail : Nat) : Int) else ((magV xs : Nat) : Int)
def parseOk (xs : List UInt8) : Bool := magB (parseRest xs) && decide (decI (IntKind.i64.wrap (parseU xs)) = xs)
def parseN (xs : List UInt8) : Int := if parseOk xs = true then IntKind.i64.wrap (parseU xs) else 0
theorem i64_range (a : Int) : -9223372036854775808 ≤ IntKind.i64.wrap a ∧ IntKind.i64.wrap a ≤ 9223372036854775807 := by rw [IntKind.wrap_i64]; omega
theorem wrap_64 (a : Int) : IntKind.i64.wrap (IntKind.u64.wrap a) = IntKind.i64.wrap a := by rw [IntKind.wrap_i64, IntKind.wrap_u64, IntKind.wrap_i64]; omega
theorem strOf_tail (c : UInt8) (ys : List UInt8) : (strOf (c :: ys)).extract 1 (strOf (c :: ys)).size = strOf ys := by
  apply ByteArray.ext
  simp [strOf, ByteArray.data_extract, strOf_size]
  exact List.take_of_length_le (by show ys.length ≤ (c :: ys).length - 1; simp)

theorem parse_pos_no (c : UInt8) (ys : List UInt8) (w : World) (hc : c ≠ 45) (hm : magB (c :: ys) = false) (hb : (c :: ys).length ≤ 9223372036854775807) :
    Calls Try.prog 49 #[.string (strOf (c :: ys))] w (RetU w (.int .i64 (0)) (.bool false)) := by
  have sl : (strOf (c :: ys)).toList = c :: ys := by rw [Lib.toList_data]; rfl
  have hne : ¬ (strOf (c :: ys)).toList = [] := by rw [sl]; simp
  have he : (strOf (c :: ys)).toList.isEmpty = false := by rw [sl]; rfl
  have hs0 : 0 < (strOf (c :: ys)).size := by rw [strOf_size]; simp
  have h45 : ((((strOf (c :: ys))[0]'hs0).toNat : Int) == 45) = false := by
    have e : (strOf (c :: ys))[0]'hs0 = c := rfl
    rw [e]
    rw [beq_eq_false_iff_ne]; intro h; exact hc (UInt8.toNat_inj.mp (by have : c.toNat = 45 := by omega
                                                                        rw [this]; rfl))
  obtain ⟨N, hN⟩ : ∃ N, N = IntKind.i64.wrap ((magV (c :: ys) : Nat) : Int) := ⟨_, rfl⟩
  have hr := i64_range ((magV (c :: ys) : Nat) : Int)
  rw [← hN] at hr 
  have hw : wrap64 ((magV (c :: ys) : Nat) : Int) = N := by rw [hN, IntKind.wrap_i64]; unfold wrap64; omega
  have hw' : IntKind.i64.wrap ((magV (c :: ys) : Nat) : Int) = N := hN.symm
  clear hN
  have HM := Lib.hid hm
  clear sl hm hc
  go_enter Try.func49, Try.ntmps49
  go_wp2_with fail
  refine (mag_all (c :: ys) w (by simp at hb ⊢; omega)).mono ?_
  rintro e w1 ⟨rfl, rfl⟩
  rw [HM.out]
  go_wp2
  go_ret2
  exact ⟨rfl, Below.refl _ w⟩

theorem parse_pos_bad (c : UInt8) (ys : List UInt8) (w : World) (hc : c ≠ 45) (hm : magB (c :: ys) = true) (hd : ¬ decI (IntKind.i64.wrap ((magV (c :: ys) : Nat) : Int)) = c :: ys) (hb : (c :: ys).length ≤ 9223372036854775807) :
    Calls Try.prog 49 #[.string (strOf (c :: ys))] w (RetU w (.int .i64 (0)) (.bool false)) := by
  have sl : (strOf (c :: ys)).toList = c :: ys := by rw [Lib.toList_data]; rfl
  have hne : ¬ (strOf (c :: ys)).toList = [] := by rw [sl]; simp
  have he : (strOf (c :: ys)).toList.isEmpty = false := by rw [sl]; rfl
  have hs0 : 0 < (strOf (c :: ys)).size := by rw [strOf_size]; simp
  have h45 : ((((strOf (c :: ys))[0]'hs0).toNat : Int) == 45) = false := by
    have e : (strOf (c :: ys))[0]'hs0 = c := rfl
    rw [e]
    rw [beq_eq_false_iff_ne]; intro h; exact hc (UInt8.toNat_inj.mp (by have : c.toNat = 45 := by omega
                                                                        rw [this]; rfl))
  obtain ⟨N, hN⟩ : ∃ N, N = IntKind.i64.wrap ((magV (c :: ys) : Nat) : Int) := ⟨_, rfl⟩
  have hr := i64_range ((magV (c :: ys) : Nat) : Int)
  rw [← hN] at hr hd
  have hw : wrap64 ((magV (c :: ys) : Nat) : Int) = N := by rw [hN, IntKind.wrap_i64]; unfold wrap64; omega
  have hw' : IntKind.i64.wrap ((magV (c :: ys) : Nat) : Int) = N := hN.symm
  clear hN
  have HM := Lib.hid hm
  clear sl hm hc
  have hq := strOf_eq (decI N) (c :: ys)
  rw [decide_eq_false hd] at hq
  clear hd
  go_enter Try.func49, Try.ntmps49
  go_wp2_with fail
  refine (mag_all (c :: ys) w (by simp at hb ⊢; omega)).mono ?_
  rintro e w1 ⟨rfl, rfl⟩
  rw [HM.out]
  go_wp2_with fail
  try rw [hw]
  refine (dec_any N w hr).mono ?_
  rintro e w2 ⟨rfl, hb2⟩
  go_wp2
  go_ret2
  exact ⟨rfl, hb2⟩

theorem parse_pos_good (c : UInt8) (ys : List UInt8) (w : World) (hc : c ≠ 45) (hm : magB (c :: ys) = true) (hd : decI (IntKind.i64.wrap ((magV (c :: ys) : Nat) : Int)) = c :: ys) (hb : (c :: ys).length ≤ 9223372036854775807) :
    Calls Try.prog 49 #[.string (strOf (c :: ys))] w (RetU w (.int .i64 (IntKind.i64.wrap ((magV (c :: ys) : Nat) : Int))) (.bool true)) := by
  have sl : (strOf (c :: ys)).toList = c :: ys := by rw [Lib.toList_data]; rfl
  have hne : ¬ (strOf (c :: ys)).toList = [] := by rw [sl]; simp
  have he : (strOf (c :: ys)).toList.isEmpty = false := by rw [sl]; rfl
  have hs0 : 0 < (strOf (c :: ys)).size := by rw [strOf_size]; simp
  have h45 : ((((strOf (c :: ys))[0]'hs0).toNat : Int) == 45) = false := by
    have e : (strOf (c :: ys))[0]'hs0 = c := rfl
    rw [e]
    rw [beq_eq_false_iff_ne]; intro h; exact hc (UInt8.toNat_inj.mp (by have : c.toNat = 45 := by omega
                                                                        rw [this]; rfl))
  obtain ⟨N, hN⟩ : ∃ N, N = IntKind.i64.wrap ((magV (c :: ys) : Nat) : Int) := ⟨_, rfl⟩
  have hr := i64_range ((magV (c :: ys) : Nat) : Int)
  rw [← hN] at hr hd
  rw [← hN]
  have hw : wrap64 ((magV (c :: ys) : Nat) : Int) = N := by rw [hN, IntKind.wrap_i64]; unfold wrap64; omega
  have hw' : IntKind.i64.wrap ((magV (c :: ys) : Nat) : Int) = N := hN.symm
  clear hN
  have HM := Lib.hid hm
  clear sl hm hc
  have hq := strOf_eq (decI N) (c :: ys)
  rw [decide_eq_true hd] at hq
  clear hd
  go_enter Try.func49, Try.ntmps49
  go_wp2_with fail
  refine (mag_all (c :: ys) w (by simp at hb ⊢; omega)).mono ?_
  rintro e w1 ⟨rfl, rfl⟩
  rw [HM.out]
  go_wp2_with fail
  try rw [hw]
  refine (dec_any N w hr).mono ?_
  rintro e w2 ⟨rfl, hb2⟩
  go_wp2
  go_ret2
  exact ⟨rfl, hb2⟩
theorem parse_neg_no (c : UInt8) (ys : List UInt8) (w : World) (hc : c = 45) (hm : magB ys = false) (hb : (c :: ys).length ≤ 9223372036854775807) :
    Calls Try.prog 49 #[.string (strOf (c :: ys))] w (RetU w (.int .i64 (0)) (.bool false)) := by
  have sl : (strOf (c :: ys)).toList = c :: ys := by rw [Lib.toList_data]; rfl
  have hne : ¬ (strOf (c :: ys)).toList = [] := by rw [sl]; simp
  have he : (strOf (c :: ys)).toList.isEmpty = false := by rw [sl]; rfl
  have hs0 : 0 < (strOf (c :: ys)).size := by rw [strOf_size]; simp
  have h45 : ((((strOf (c :: ys))[0]'hs0).toNat : Int) == 45) = true := by
    have e : (strOf (c :: ys))[0]'hs0 = c := rfl
    rw [e]
    subst hc; rfl
  obtain ⟨N, hN⟩ : ∃ N, N = IntKind.i64.wrap (-((magV ys : Nat) : Int)) := ⟨_, rfl⟩
  have hr := i64_range (-((magV ys : Nat) : Int))
  rw [← hN] at hr 
  have hw : wrap64 (IntKind.u64.wrap (-((magV ys : Nat) : Int))) = N := by rw [hN, IntKind.wrap_i64, IntKind.wrap_u64]; unfold wrap64; omega
  clear hN
  have hx := strOf_tail c ys
  have HM := Lib.hid hm
  clear sl hm hc
  go_enter Try.func49, Try.ntmps49
  go_wp2_with fail
  refine (mag_all ys w (by simp at hb ⊢; omega)).mono ?_
  rintro e w1 ⟨rfl, rfl⟩
  rw [HM.out]
  go_wp2
  go_ret2
  exact ⟨rfl, Below.refl _ w⟩

theorem parse_neg_bad (c : UInt8) (ys : List UInt8) (w : World) (hc : c = 45) (hm : magB ys = true) (hd : ¬ decI (IntKind.i64.wrap (-((magV ys : Nat) : Int))) = c :: ys) (hb : (c :: ys).length ≤ 9223372036854775807) :
    Calls Try.prog 49 #[.string (strOf (c :: ys))] w (RetU w (.int .i64 (0)) (.bool false)) := by
  have sl : (strOf (c :: ys)).toList = c :: ys := by rw [Lib.toList_data]; rfl
  have hne : ¬ (strOf (c :: ys)).toList = [] := by rw [sl]; simp
  have he : (strOf (c :: ys)).toList.isEmpty = false := by rw [sl]; rfl
  have hs0 : 0 < (strOf (c :: ys)).size := by rw [strOf_size]; simp
  have h45 : ((((strOf (c :: ys))[0]'hs0).toNat : Int) == 45) = true := by
    have e : (strOf (c :: ys))[0]'hs0 = c := rfl
    rw [e]
    subst hc; rfl
  obtain ⟨N, hN⟩ : ∃ N, N = IntKind.i64.wrap (-((magV ys : Nat) : Int)) := ⟨_, rfl⟩
  have hr := i64_range (-((magV ys : Nat) : Int))
  rw [← hN] at hr hd
  have hw : wrap64 (IntKind.u64.wrap (-((magV ys : Nat) : Int))) = N := by rw [hN, IntKind.wrap_i64, IntKind.wrap_u64]; unfold wrap64; omega
  clear hN
  have hx := strOf_tail c ys
  have HM := Lib.hid hm
  clear sl hm hc
  have hq := strOf_eq (decI N) (c :: ys)
  rw [decide_eq_false hd] at hq
  clear hd
  go_enter Try.func49, Try.ntmps49
  go_wp2_with fail
  refine (mag_all ys w (by simp at hb ⊢; omega)).mono ?_
  rintro e w1 ⟨rfl, rfl⟩
  rw [HM.out]
  go_wp2_with fail
  try rw [hw]
  refine (dec_any N w hr).mono ?_
  rintro e w2 ⟨rfl, hb2⟩
  go_wp2
  go_ret2
  exact ⟨rfl, hb2⟩

theorem parse_neg_good (c : UInt8) (ys : List UInt8) (w : World) (hc : c = 45) (hm : magB ys = true) (hd : decI (IntKind.i64.wrap (-((magV ys : Nat) : Int))) = c :: ys) (hb : (c :: ys).length ≤ 9223372036854775807) :
    Calls Try.prog 49 #[.string (strOf (c :: ys))] w (RetU w (.int .i64 (IntKind.i64.wrap (-((magV ys : Nat) : Int)))) (.bool true)) := by
  have sl : (strOf (c :: ys)).toList = c :: ys := by rw [Lib.toList_data]; rfl
  have hne : ¬ (strOf (c :: ys)).toList = [] := by rw [sl]; simp
  have he : (strOf (c :: ys)).toList.isEmpty = false := by rw [sl]; rfl
  have hs0 : 0 < (strOf (c :: ys)).size := by rw [strOf_size]; simp
  have h45 : ((((strOf (c :: ys))[0]'hs0).toNat : Int) == 45) = true := by
    have e : (strOf (c :: ys))[0]'hs0 = c := rfl
    rw [e]
    subst hc; rfl
  obtain ⟨N, hN⟩ : ∃ N, N = IntKind.i64.wrap (-((magV ys : Nat) : Int)) := ⟨_, rfl⟩
  have hr := i64_range (-((magV ys : Nat) : Int))
  rw [← hN] at hr hd
  rw [← hN]
  have hw : wrap64 (IntKind.u64.wrap (-((magV ys : Nat) : Int))) = N := by rw [hN, IntKind.wrap_i64, IntKind.wrap_u64]; unfold wrap64; omega
  clear hN
  have hx := strOf_tail c ys
  have HM := Lib.hid hm
  clear sl hm hc
  have hq := strOf_eq (decI N) (c :: ys)
  rw [decide_eq_true hd] at hq
  clear hd
  go_enter Try.func49, Try.ntmps49
  go_wp2_with fail
  refine (mag_all ys w (by simp at hb ⊢; omega)).mono ?_
  rintro e w1 ⟨rfl, rfl⟩
  rw [HM.out]
  go_wp2_with fail
  try rw [hw]
  refine (dec_any N w hr).mono ?_
  rintro e w2 ⟨rfl, hb2⟩
  go_wp2
  go_ret2
  exact ⟨rfl, hb2⟩
end Go.Proofs.Ythaampcfkmfjcaa
