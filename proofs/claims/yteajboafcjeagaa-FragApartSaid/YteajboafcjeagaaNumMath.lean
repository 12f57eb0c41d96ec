/-
  The plain law of layer 1: numbers as bytes, the sum of sixteen bits.
-/
import Derived.Test.YteajboafcjeagaaCrcMath
namespace Go.Proofs.Yteajboafcjeagaa
set_option maxRecDepth 20000

def leB (n size : Nat) : List UInt8 := (List.range size).map fun i => UInt8.ofNat (n / 256 ^ i)
def beB (n size : Nat) : List UInt8 := (leB n size).reverse
def clamp (s : Int) : Nat := if s < 0 then 0 else if 8 < s then 8 else s.toNat
def fromLe (xs : List UInt8) : Nat := lev (xs.take 8)
def bev (xs : List UInt8) : Nat := xs.foldl (fun a u => a * 256 + u.toNat) 0
def fromBe (xs : List UInt8) : Nat := bev (xs.take 8)

theorem clamp_le (s : Int) : clamp s ≤ 8 := by unfold clamp; split <;> (try split) <;> omega
theorem leB_length (n k : Nat) : (leB n k).length = k := by simp [leB]
theorem beB_length (n k : Nat) : (beB n k).length = k := by simp [beB, leB_length]
theorem leB_succ (n k : Nat) : leB n (k + 1) = leB n k ++ [UInt8.ofNat (n / 256 ^ k)] := by
  simp [leB, List.range_succ]
theorem leB_zero (n : Nat) : leB n 0 = [] := rfl
theorem lev_leB (n k : Nat) : lev (leB n k) = n % 256 ^ k := by
  induction k with
  | zero => simp [leB_zero, lev, Nat.mod_one]
  | succ k ih =>
    rw [leB_succ, lev_append, ih, leB_length, Nat.mod_pow_succ]
    simp [lev, UInt8.toNat_ofNat']
theorem bev_snoc (xs : List UInt8) (u : UInt8) : bev (xs ++ [u]) = bev xs * 256 + u.toNat := by simp [bev]
theorem bev_fold (xs : List UInt8) : ∀ a : Nat, xs.foldl (fun a u => a * 256 + u.toNat) a = a * 256 ^ xs.length + bev xs := by
  induction xs with
  | nil => intro a; simp [bev]
  | cons u us ih =>
    intro a
    have h0 : bev (u :: us) = (0 * 256 + u.toNat) * 256 ^ us.length + bev us := ih _
    rw [List.foldl_cons, ih, h0, List.length_cons, Nat.pow_succ, Nat.add_mul, Nat.add_mul]
    have e : a * 256 * 256 ^ us.length = a * (256 ^ us.length * 256) := by rw [Nat.mul_assoc, Nat.mul_comm 256]
    rw [e]; omega
theorem bev_cons (u : UInt8) (us : List UInt8) : bev (u :: us) = u.toNat * 256 ^ us.length + bev us := by
  have h0 : bev (u :: us) = (0 * 256 + u.toNat) * 256 ^ us.length + bev us := bev_fold us (0 * 256 + u.toNat)
  rw [h0, Nat.zero_mul, Nat.zero_add]
theorem bev_lt (xs : List UInt8) : bev xs < 256 ^ xs.length := by
  induction xs with
  | nil => simp [bev]
  | cons u us ih =>
    rw [bev_cons, List.length_cons, Nat.pow_succ]
    have hu := u.toNat_lt
    have : u.toNat * 256 ^ us.length ≤ 255 * 256 ^ us.length := Nat.mul_le_mul_right _ (by omega)
    omega
theorem bev_beB (n k : Nat) : bev (beB n k) = n % 256 ^ k := by
  induction k with
  | zero => simp [beB, leB_zero, bev, Nat.mod_one]
  | succ k ih =>
    unfold beB at ih ⊢
    rw [leB_succ, List.reverse_append, List.reverse_singleton, List.singleton_append, bev_cons, ih, Nat.mod_pow_succ, List.length_reverse, leB_length, UInt8.toNat_ofNat']
    rw [Nat.mul_comm (256 ^ k), show (2 : Nat) ^ 8 = 256 from rfl]; omega
theorem leB_take (n k m : Nat) (h : k ≤ m) : (leB n m).take k = leB n k := by
  induction m with
  | zero => obtain rfl : k = 0 := by omega
            rfl
  | succ m ih =>
    rcases Nat.lt_or_ge m k with hlt | hge
    · obtain rfl : k = m + 1 := by omega
      exact List.take_of_length_le (by rw [leB_length]; omega)
    · rw [leB_succ, List.take_append_of_le_length (by rw [leB_length]; omega), ih hge]
theorem beB_drop (n k m : Nat) (h : k ≤ m) : (beB n m).drop (m - k) = beB n k := by
  unfold beB
  rw [List.drop_reverse, leB_length, show m - (m - k) = k by omega, leB_take n k m h]
theorem leB_div (n k : Nat) : leB n (k + 1) = UInt8.ofNat n :: leB (n / 256) k := by
  induction k with
  | zero => simp [leB]
  | succ k ih =>
    rw [leB_succ, ih, leB_succ]
    simp only [List.cons_append]
    congr 3
    rw [Nat.div_div_eq_div_mul, Nat.pow_succ, Nat.mul_comm]

/-! The sum of sixteen bits -/
def ckTot : Nat → List UInt8 → Nat
  | _, [] => 0
  | i, u :: us => (if i % 2 = 0 then 256 * u.toNat else u.toNat) + ckTot (i + 1) us
def ckFold (t : Nat) : Nat := if t = 0 then 0 else (t - 1) % 65535 + 1
def numCheck (xs : List UInt8) : Nat := 65535 - ckFold (ckTot 0 xs)
theorem ckFold_le (t : Nat) : ckFold t ≤ 65535 := by unfold ckFold; split <;> omega
theorem ckTot_append (xs ys : List UInt8) : ∀ i, ckTot i (xs ++ ys) = ckTot i xs + ckTot (i + xs.length) ys := by
  induction xs with
  | nil => intro i; simp [ckTot]
  | cons u us ih => intro i; simp only [List.cons_append, ckTot, ih, List.length_cons]; rw [show i + 1 + us.length = i + (us.length + 1) by omega]; omega
theorem ckTot_snoc (xs : List UInt8) (u : UInt8) : ckTot 0 (xs ++ [u]) = ckTot 0 xs + (if xs.length % 2 = 0 then 256 * u.toNat else u.toNat) := by
  rw [ckTot_append]; simp [ckTot]
theorem ckTot_le (xs : List UInt8) : ∀ i, ckTot i xs ≤ 65280 * xs.length := by
  induction xs with
  | nil => intro i; simp [ckTot]
  | cons u us ih =>
    intro i
    have hu := u.toNat_lt
    have := ih (i + 1)
    simp only [ckTot, List.length_cons]
    split <;> omega
/-- One step of the folded sum. -/
theorem ckFold_step (t w : Nat) (hw : w ≤ 65280) : (ckFold t + w) % 65536 + (ckFold t + w) / 65536 = ckFold (t + w) := by
  unfold ckFold
  by_cases ht : t = 0
  · subst ht
    by_cases h0 : w = 0
    · subst h0; rfl
    · rw [if_pos rfl, if_neg (by omega)]; omega
  · rw [if_neg ht, if_neg (by omega)]; omega
/-- The reference's way: fold while it is great. -/
theorem ckFold_small (t : Nat) (h : t < 65536) : ckFold t = t := by unfold ckFold; split <;> omega
theorem ckFold_fold (t : Nat) (h : 65536 ≤ t) : ckFold (t % 65536 + t / 65536) = ckFold t := by
  unfold ckFold
  rw [if_neg (by omega), if_neg (by omega)]
  omega
end Go.Proofs.Yteajboafcjeagaa
