/-
  Layer 6: Pending of the package and of the document; the same ports.
-/
import Derived.Test.YtieilgphcfiapaaPortsD
namespace Go.Proofs.Ytieilgphcfiapaa
set_option maxRecDepth 20000
open Go.RowKit
set_option linter.unusedVariables false
set_option linter.unusedSimpArgs false
set_option maxHeartbeats 4000000

def pendN (l m k n : Nat) : Int := if ptCheck k n = true then lowN (l &&& m) else -1
def PendI (x : Nat) (s : Value) : Prop := ∃ i : Nat, i ≤ 32 ∧ (∀ q, q < i → x.testBit q = false) ∧ s = .int .i64 (i : Nat)
def PendJ (x : Nat) (y s : Value) : Prop := ∃ i : Nat, i ≤ 32 ∧ (∀ q, q < i → x.testBit q = false) ∧ y = .int .u32 ((x / 2 ^ i : Nat) : Int) ∧ s = .int .i64 (i : Nat)

theorem bit_low (x i : Nat) (hx : x < 4294967296) : (bits .and .u32 ((x : Int) / 2 ^ i) 1 == 1) = x.testBit i := by
  have e : ((x : Int) / 2 ^ i) = ((x / 2 ^ i : Nat) : Int) := by rw [Int.natCast_ediv, Int.natCast_pow]; rfl
  have hle : x / 2 ^ i ≤ x := Nat.div_le_self _ _
  have h := and32 (x / 2 ^ i) 1 (by omega) (by omega)
  rw [e, show (1 : Int) = ((1 : Nat) : Int) from rfl, h, Nat.and_one_is_mod, bit_shift]
  cases x.testBit i <;> rfl
theorem bits_more {x i : Nat} (hb : ∀ q, q < i → x.testBit q = false) (h : x.testBit i = false) : ∀ q, q < i + 1 → x.testBit q = false := by
  intro q hq
  by_cases e : q = i
  · rw [e]; exact h
  · exact hb q (by omega)
theorem ptPend_any (l m k : Nat) (A : Option Addr) (n c : Nat) (w : World) (hn : n ≤ 9223372036854775807) (hl : l < 4294967296) (hm : m < 4294967296) (hk : k < 18446744073709551616) :
    Calls Try.prog 42 #[.agg #[.int .u32 l, .int .u32 m, .int .u64 k, .slice A n c]] w (RetV w (.int .i64 (pendN l m k n))) := by
  obtain ⟨R, hR⟩ : ∃ R, pendN l m k n = R := ⟨pendN l m k n, rfl⟩
  rw [hR]
  have HR := Lib.hid hR
  clear hR
  go_enter Try.func42, Try.ntmps42
  go_wp2_with fail
  refine named ?_
  intro W1 hW1
  have bW1 : Below w.heap.size w W1 := by rw [hW1]; repeat' (first | exact Below.refl _ _ | (refine Below.alloc ?_ ?_ _; rotate_left; (simp <;> omega)) | refine Below.drew ?_)
  have zW1 := bW1.size
  have p1 : PtAt W1 w.heap.size l m k A n c := by rw [hW1]; exact row1 ..
  have HW1 := Lib.hid hW1
  clear hW1
  refine (ptCheck_any l m k A n c W1 hn hk).mono ?_
  rintro e w2 ⟨rfl, hb2⟩
  have p2 := p1.below hb2 p1.lt
  have B2 := below_then bW1 hb2
  obtain ⟨c0, c1, c2, c3, cf⟩ := p2.cells
  clear cf
  cases h1 : ptCheck k n with
  | false =>
    have e1 : R = -1 := by rw [← HR.out]; unfold pendN; rw [h1]; rfl
    subst e1
    go_wp2
    go_ret
    exact ⟨rfl, B2⟩
  | true =>
    have e1 : R = lowN (l &&& m) := by rw [← HR.out]; unfold pendN; rw [h1]; rfl
    have hx : l &&& m < 4294967296 := andN_lt l m hl
    have ha := and32 l m hl hm
    obtain ⟨x, hx0⟩ : ∃ x, l &&& m = x := ⟨_, rfl⟩
    rw [hx0] at e1 ha hx
    have HE := Lib.hid e1
    clear e1 hx0
    go_wp2
    go_loop [13] (PendI x) (fun s => 32 - (intOf s).toNat)
    case atStart => exact ⟨0, by omega, fun q hq => by omega, rfl⟩
    case round =>
      obtain ⟨i, hi, hbits, rfl⟩ := hrel
      have HB := Lib.hid hbits
      clear hbits
      by_cases hlt : i < 32
      · have k1 : decide ((i : Int) < 32) = true := decide_eq_true (by omega)
        have k0 : (0 : Int) ≤ (i : Int) := by omega
        have kb := bit_low x i hx
        cases hbi : x.testBit i with
        | true =>
          rw [hbi] at kb
          have e2 : R = (i : Int) := by rw [HE.out]; exact lowN_at x i hlt hbi HB.out
          subst e2
          clear hbi
          go_wp2
          go_ret
          exact ⟨rfl, B2⟩
        | false =>
          have HN := Lib.hid (bits_more HB.out hbi)
          rw [hbi] at kb
          clear hbi
          go_wp2
          go_round
          case rel => exact ⟨i + 1, by omega, HN.out, by go_num⟩
          case measure => simp [intOf] <;> omega
      · have k1 : decide ((i : Int) < 32) = false := decide_eq_false (by omega)
        have e2 : R = -1 := by rw [HE.out]; exact lowN_none x (fun q hq => HB.out q (by omega))
        subst e2
        go_wp2
        go_ret
        exact ⟨rfl, B2⟩
theorem refPtPend_any (l m k : Nat) (A : Option Addr) (n c : Nat) (w : World) (hn : n ≤ 9223372036854775807) (hl : l < 4294967296) (hm : m < 4294967296) (hk : k < 18446744073709551616) :
    Calls Try.prog 56 #[.agg #[.int .u32 l, .int .u32 m, .int .u64 k, .slice A n c]] w (RetV w (.int .i64 (pendN l m k n))) := by
  obtain ⟨R, hR⟩ : ∃ R, pendN l m k n = R := ⟨pendN l m k n, rfl⟩
  rw [hR]
  have HR := Lib.hid hR
  clear hR
  go_enter Try.func56, Try.ntmps56
  go_wp2_with fail
  refine named ?_
  intro W1 hW1
  have bW1 : Below w.heap.size w W1 := by rw [hW1]; repeat' (first | exact Below.refl _ _ | (refine Below.alloc ?_ ?_ _; rotate_left; (simp <;> omega)) | refine Below.drew ?_)
  have zW1 := bW1.size
  have p1 : PtAt W1 w.heap.size l m k A n c := by rw [hW1]; exact row1 ..
  have HW1 := Lib.hid hW1
  clear hW1
  refine (refCheck06_any l m k A n c W1 hn hk).mono ?_
  rintro e w2 ⟨rfl, hb2⟩
  have p2 := p1.below hb2 p1.lt
  have B2 := below_then bW1 hb2
  obtain ⟨c0, c1, c2, c3, cf⟩ := p2.cells
  clear cf
  cases h1 : ptCheck k n with
  | false =>
    have e1 : R = -1 := by rw [← HR.out]; unfold pendN; rw [h1]; rfl
    subst e1
    go_wp2
    go_ret
    exact ⟨rfl, B2⟩
  | true =>
    have e1 : R = lowN (l &&& m) := by rw [← HR.out]; unfold pendN; rw [h1]; rfl
    have hx : l &&& m < 4294967296 := andN_lt l m hl
    have ha := and32 l m hl hm
    obtain ⟨x, hx0⟩ : ∃ x, l &&& m = x := ⟨_, rfl⟩
    rw [hx0] at e1 ha hx
    have HE := Lib.hid e1
    clear e1 hx0
    go_wp2
    go_loop [3, 4] (PendJ x) (fun _ s => 32 - (intOf s).toNat)
    case atStart => exact ⟨0, by omega, fun q hq => by omega, by simp, rfl⟩
    case round =>
      obtain ⟨i, hi, hbits, rfl, rfl⟩ := hrel
      have HB := Lib.hid hbits
      clear hbits
      by_cases hlt : i < 32
      · have k1 : decide ((i : Int) < 32) = true := decide_eq_true (by omega)
        have k0 : (0 : Int) ≤ (i : Int) := by omega
        have hy := bit_shift x i
        have hy1 : x / 2 ^ i / 2 = x / 2 ^ (i + 1) := by rw [Nat.pow_succ, Nat.div_div_eq_div_mul]
        have hyb : x / 2 ^ i ≤ x := Nat.div_le_self _ _
        obtain ⟨y, hyy⟩ : ∃ y, x / 2 ^ i = y := ⟨_, rfl⟩
        rw [hyy] at hyb
        rw [hyy] at hy hy1 ⊢
        have HY := Lib.hid hy1
        have t1 : ((y : Int).tmod 2) = ((y % 2 : Nat) : Int) := (Int.ofNat_tmod y 2).symm
        have t2 : ((y : Int).tdiv 2) = ((y / 2 : Nat) : Int) := (Int.ofNat_tdiv y 2).symm
        clear hy1 hyy
        cases hbi : x.testBit i with
        | true =>
          have e2 : R = (i : Int) := by rw [HE.out]; exact lowN_at x i hlt hbi HB.out
          subst e2
          rw [hbi, if_pos rfl] at hy
          rw [hy] at t1
          clear hbi hy
          go_wp2
          go_ret
          exact ⟨rfl, B2⟩
        | false =>
          have HN := Lib.hid (bits_more HB.out hbi)
          rw [hbi, if_neg (by decide)] at hy
          rw [hy] at t1
          clear hbi hy
          go_wp2
          go_round
          case rel => exact ⟨i + 1, by omega, HN.out, by rw [← HY.out]; congr 1 <;> omega, by go_num⟩
          case measure => simp [intOf] <;> omega
      · have k1 : decide ((i : Int) < 32) = false := decide_eq_false (by omega)
        have e2 : R = -1 := by rw [HE.out]; exact lowN_none x (fun q hq => HB.out q (by omega))
        subst e2
        go_wp2
        go_ret
        exact ⟨rfl, B2⟩

/-- The same ports. -/
theorem same06_any (l m k : Nat) (A : Option Addr) (n c : Nat) (xs : List UInt8) (l' m' k' : Nat) (A' : Option Addr) (n' c' : Nat) (xs' : List UInt8) (w : World) (hr : RdB w A n c xs) (hr' : RdB w A' n' c' xs') (e1 : l = l') (e2 : m = m') (e3 : k = k') (e4 : xs = xs') :
    Calls Try.prog 46 #[.agg #[.int .u32 l, .int .u32 m, .int .u64 k, .slice A n c], .agg #[.int .u32 l', .int .u32 m', .int .u64 k', .slice A' n' c']] w (RetV w (.bool true)) := by
  subst e1 e2 e3 e4
  have k1 : ((l : Int) == (l : Int)) = true := by simp
  have k2 : ((m : Int) == (m : Int)) = true := by simp
  have k3 : ((k : Int) == (k : Int)) = true := by simp
  have k4 : ((strOf xs).toList == (strOf xs).toList) = true := by simp
  have s1 := ((hr.alloc (.cells #[.int .u32 l, .int .u32 m, .int .u64 k, .slice A n c] 63)).alloc (.cells #[.int .u32 l, .int .u32 m, .int .u64 k, .slice A' n' c'] 63)).str
  have s2 := ((hr'.alloc (.cells #[.int .u32 l, .int .u32 m, .int .u64 k, .slice A n c] 63)).alloc (.cells #[.int .u32 l, .int .u32 m, .int .u64 k, .slice A' n' c'] 63)).str
  go_enter Try.func46, Try.ntmps46
  go_wp2
  go_ret
  exact ⟨rfl, bstep (below_self w) ((below_self _).alloc (Nat.le_refl _) _)⟩
end Go.Proofs.Ytieilgphcfiapaa
