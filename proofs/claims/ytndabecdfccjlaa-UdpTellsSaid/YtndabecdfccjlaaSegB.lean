/-
  Layer 24: Diff, Len, Same.
-/
import Derived.Test.YtndabecdfccjlaaSeg
namespace Go.Proofs.Ytndabecdfccjlaa
set_option maxRecDepth 20000
open Go.RowKit
set_option linter.unusedVariables false
set_option linter.unusedSimpArgs false
set_option maxHeartbeats 8000000

def sgDiff (a b : Nat) : Int := if (a + 4294967296 - b) % 4294967296 < 2147483648 then (((a + 4294967296 - b) % 4294967296 : Nat) : Int) else (((a + 4294967296 - b) % 4294967296 : Nat) : Int) - 4294967296
theorem sgDiff_any (a b : Nat) (w : World) (ha : a < 4294967296) (hb : b < 4294967296) :
    Calls Try.prog 19 #[.int .u32 a, .int .u32 b] w (RetV w (.int .i64 (sgDiff a b))) := by
  obtain ⟨R, hR⟩ : ∃ R, sgDiff a b = R := ⟨sgDiff a b, rfl⟩
  have h1 : IntKind.u32.wrap ((a : Int) - (b : Int)) = (((a + 4294967296 - b) % 4294967296 : Nat) : Int) := by rw [IntKind.wrap_u32]; omega
  obtain ⟨d, hd⟩ : ∃ d, (a + 4294967296 - b) % 4294967296 = d := ⟨_, rfl⟩
  have hd2 : d < 4294967296 := by omega
  rw [hd] at h1
  have h2 : IntKind.i32.wrap (d : Int) = R := by rw [← hR]; unfold sgDiff; rw [hd, IntKind.wrap_i32]; split <;> omega
  have h3 : IntKind.i64.wrap R = R := by rw [← hR]; unfold sgDiff; rw [hd]; split <;> exact IntWalk.i64_in _ (by omega)
  rw [hR]
  clear hd hR
  go_enter Try.func19, Try.ntmps19
  go_wp2
  go_ret
  exact ⟨rfl, below_self w⟩

theorem counted_any (w : World) : Calls Try.prog 50 #[] w (RetV w (.agg #[.int .i64 2, .int .i64 1])) := by
  go_enter Try.func50, Try.ntmps50
  go_wp2
  exact bodyPost_ret (v := .agg #[.int .i64 2, .int .i64 1]) (by simp [results, Try.results50, go_sem]) rfl ⟨rfl, (below_self w).alloc (Nat.le_refl _) _⟩
theorem and64 (x y : Nat) (hx : x < 9223372036854775808) (hy : y < 9223372036854775808) : bits .and .i64 (x : Int) (y : Int) = ((x &&& y : Nat) : Int) := by
  show IntKind.i64.wrap ((BitVec.ofInt 64 (x : Int) &&& BitVec.ofInt 64 (y : Int)).toNat : Nat) = _
  have h1 : ∀ z : Nat, z < 9223372036854775808 → (BitVec.ofInt 64 (z : Int)).toNat = z := fun z hz => by rw [BitVec.toNat_ofInt]; omega
  rw [BitVec.toNat_and, h1 x hx, h1 y hy]
  have : x &&& y ≤ x := Nat.and_le_left
  rw [IntWalk.i64_in _ (by omega)]
theorem and_two (x : Nat) : x &&& 2 = x / 2 % 2 * 2 := by
  apply Nat.eq_of_testBit_eq
  intro i
  rw [Nat.testBit_and, show (2 : Nat) = 2 ^ 1 from rfl, Nat.testBit_two_pow]
  rw [show x / 2 ^ 1 % 2 ^ 1 * 2 ^ 1 = 2 ^ 1 * (x / 2 % 2) from by rw [Nat.mul_comm], Nat.testBit_two_pow_mul]
  by_cases hi : 1 = i
  · subst hi
    have h2 : x.testBit 1 = decide (x / 2 % 2 = 1) := by rw [Nat.testBit_eq_decide_div_mod_eq]
    rw [h2]
    have : x / 2 % 2 = 0 ∨ x / 2 % 2 = 1 := by omega
    rcases this with h | h <;> rw [h] <;> simp
  · rw [decide_eq_false hi, Bool.and_false]
    symm
    rcases Nat.lt_or_ge i 1 with hlt | hge
    · simp [Nat.not_le.2 hlt]
    · have h3 : x / 2 % 2 < 2 ^ (i - 1) := by
        have : 2 ^ 1 ≤ 2 ^ (i - 1) := Nat.pow_le_pow_right (by decide) (by omega)
        omega
      rw [Nat.testBit_lt_two_pow h3]; simp

def sgLen (fl : Int) (n : Nat) : Nat := if fl < 0 then n else n + (fl / 2 % 2).toNat + (fl % 2).toNat
def LenI (f n : Nat) (s3 s14 : Value) : Prop :=
  (s3 = .int .i64 n ∧ s14 = .int .i64 0) ∨ (s3 = .int .i64 ((n + f / 2 % 2 : Nat) : Int) ∧ s14 = .int .i64 1) ∨ (s3 = .int .i64 ((n + f / 2 % 2 + f % 2 : Nat) : Int) ∧ s14 = .int .i64 2)
theorem sgLen_any (sp dp : Int) (sq ak : Nat) (fl wn : Int) (A : Option Addr) (n c : Nat) (w : World) (hn : n ≤ 1000000) (hf : -9223372036854775808 ≤ fl ∧ fl ≤ 9223372036854775807) :
    Calls Try.prog 16 #[.agg #[.int .i64 sp, .int .i64 dp, .int .u32 sq, .int .u32 ak, .int .i64 fl, .int .i64 wn, .slice A n c]] w (RetV w (.int .i64 (sgLen fl n : Nat))) := by
  by_cases h0 : fl < 0
  · have e : sgLen fl n = n := if_pos h0
    rw [e]
    have d1 : decide (fl < 0) = true := decide_eq_true h0
    go_enter Try.func16, Try.ntmps16
    go_wp2
    go_ret
    exact ⟨rfl, (below_self w).alloc (Nat.le_refl _) _⟩
  · obtain ⟨f, rfl⟩ : ∃ f : Nat, fl = (f : Int) := ⟨fl.toNat, by omega⟩
    have e : sgLen (f : Int) n = n + f / 2 % 2 + f % 2 := by unfold sgLen; rw [if_neg h0]; omega
    rw [e]
    have d1 : decide ((f : Int) < 0) = false := decide_eq_false h0
    have k2 : bits .and .i64 (f : Int) 2 = ((f / 2 % 2 * 2 : Nat) : Int) := by rw [← and_two]; exact and64 f 2 (by omega) (by omega)
    have k1 : bits .and .i64 (f : Int) 1 = ((f % 2 : Nat) : Int) := by rw [← Nat.and_one_is_mod]; exact and64 f 1 (by omega) (by omega)
    have hix0 := fun (W : World) => (by kernel_rfl : (Instr.index 84 (.agg #[.int .i64 2, .int .i64 1]) (.int .i64 0)).run Try.prog W = .ok (.int .i64 2) W)
    have hix1 := fun (W : World) => (by kernel_rfl : (Instr.index 84 (.agg #[.int .i64 2, .int .i64 1]) (.int .i64 1)).run Try.prog W = .ok (.int .i64 1) W)
    have HX0 := Lib.hid hix0
    have HX1 := Lib.hid hix1
    clear e h0 hix0 hix1
    go_enter Try.func16, Try.ntmps16
    go_wp2_with fail
    refine named ?_
    intro W1 hW1
    have bW1 : Below w.heap.size w W1 := by rw [hW1]; repeat' (first | exact Below.refl _ _ | (refine Below.alloc ?_ ?_ _; rotate_left; (simp <;> omega)) | refine Below.drew ?_)
    have zW1 := bW1.size
    have P1 : SgAt W1 w.heap.size sp dp sq ak (f : Int) wn A n c := by rw [hW1]; exact row1 ..
    have HW1 := Lib.hid hW1
    clear hW1
    refine (counted_any W1).mono ?_
    rintro e w2 ⟨rfl, hb2⟩
    have P2 := P1.below hb2 P1.lt
    have B2 := below_then bW1 hb2
    obtain ⟨a0, a1, a2, a3, a4, a5, a6, af⟩ := P2.cells
    clear af
    have x0 := HX0.out w2
    have x1 := HX1.out w2
    go_wp2_with fail
    go_loop [3, 14] (LenI f n) (fun _ s => 2 - (intOf s).toNat)
    case atStart => exact .inl ⟨rfl, rfl⟩
    case round =>
      rcases hrel with ⟨rfl, rfl⟩ | ⟨rfl, rfl⟩ | ⟨rfl, rfl⟩
      · have hc : f / 2 % 2 = 0 ∨ f / 2 % 2 = 1 := by omega
        rcases hc with h | h
        · rw [h] at k2
          go_wp2
          go_round
          case rel => exact .inr (.inl ⟨by rw [h]; rfl, rfl⟩)
          case measure => simp [intOf]
        · rw [h] at k2
          go_wp2
          go_round
          case rel => exact .inr (.inl ⟨by rw [h]; go_num, rfl⟩)
          case measure => simp [intOf]
      · have hc : f % 2 = 0 ∨ f % 2 = 1 := by omega
        obtain ⟨m, hm⟩ : ∃ m, n + f / 2 % 2 = m := ⟨_, rfl⟩
        have hm2 : m ≤ 1000001 := by omega
        rw [hm]
        rcases hc with h | h
        · rw [h] at k1
          go_wp2
          go_round
          case rel => exact .inr (.inr ⟨by rw [h, hm]; rfl, rfl⟩)
          case measure => simp [intOf]
        · rw [h] at k1
          go_wp2
          go_round
          case rel => exact .inr (.inr ⟨by rw [h, hm]; go_num, rfl⟩)
          case measure => simp [intOf]
      · go_wp2
        go_ret
        exact ⟨rfl, B2⟩

/-- The same segments. -/
theorem same24_any (sp dp : Int) (sq ak : Nat) (fl wn : Int) (A : Option Addr) (n c : Nat) (A' : Option Addr) (n' c' : Nat) (xs : List UInt8) (w : World) (hr : RdB w A n c xs) (hr' : RdB w A' n' c' xs) :
    Calls Try.prog 18 #[.agg #[.int .i64 sp, .int .i64 dp, .int .u32 sq, .int .u32 ak, .int .i64 fl, .int .i64 wn, .slice A n c], .agg #[.int .i64 sp, .int .i64 dp, .int .u32 sq, .int .u32 ak, .int .i64 fl, .int .i64 wn, .slice A' n' c']] w (RetV w (.bool true)) := by
  have k1 : (sp == sp) = true := by simp
  have k2 : (dp == dp) = true := by simp
  have k3 : ((sq : Int) == (sq : Int)) = true := by simp
  have k4 : ((ak : Int) == (ak : Int)) = true := by simp
  have k5 : (fl == fl) = true := by simp
  have k6 : (wn == wn) = true := by simp
  go_enter Try.func18, Try.ntmps18
  go_wp2_with fail
  refine named ?_
  intro W1 hW1
  have bW1 : Below w.heap.size w W1 := by rw [hW1]; repeat' (first | exact Below.refl _ _ | (refine Below.alloc ?_ ?_ _; rotate_left; (simp <;> omega)) | refine Below.drew ?_)
  have zW1 := bW1.size
  have HW1 := Lib.hid hW1
  clear hW1
  refine (bytes_any A A' n c n' c' xs xs W1 (hr.below bW1) (hr'.below bW1)).mono ?_
  rintro e w2 ⟨rfl, rfl⟩
  rw [decide_eq_true rfl]
  go_wp2
  go_ret
  exact ⟨rfl, bW1⟩
end Go.Proofs.Ytndabecdfccjlaa
