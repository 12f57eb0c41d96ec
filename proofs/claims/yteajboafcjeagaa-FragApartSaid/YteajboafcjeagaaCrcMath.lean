/-
  The plain law of the check sum of 32 bits (layer 2): no program in sight.
-/
import Derived.Test.YteajboafcjeagaaPre
namespace Go.Proofs.Yteajboafcjeagaa
set_option maxRecDepth 20000

def crcBit (x : Nat) : Nat := if x % 2 = 0 then x / 2 else (x / 2) ^^^ 2197175160
def crcBits : Nat → Nat → Nat
  | 0, x => x
  | k + 1, x => crcBits k (crcBit x)
def crcNext (x c : Nat) : Nat := crcBits 8 (x ^^^ c)
def crcReg (x : Nat) (xs : List UInt8) : Nat := xs.foldl (fun s u => crcNext s u.toNat) x
def crcOf (xs : List UInt8) : Nat := 4294967295 - crcReg 4294967295 xs
def le4 (s : Nat) : List UInt8 := [UInt8.ofNat s, UInt8.ofNat (s / 256), UInt8.ofNat (s / 65536), UInt8.ofNat (s / 16777216)]
def crcClosed (xs : List UInt8) : List UInt8 := xs ++ le4 (crcOf xs)
def crcHolds (xs : List UInt8) : Bool := decide (4 ≤ xs.length) && decide (xs.drop (xs.length - 4) = le4 (crcOf (xs.take (xs.length - 4))))

theorem crcBit_lt {x : Nat} (h : x < 4294967296) : crcBit x < 4294967296 := by
  unfold crcBit
  split
  · omega
  · exact Nat.xor_lt_two_pow (n := 32) (by omega) (by omega)
theorem crcBits_lt (k : Nat) : ∀ x, x < 4294967296 → crcBits k x < 4294967296 := by
  induction k with
  | zero => intro x h; exact h
  | succ k ih => intro x h; exact ih _ (crcBit_lt h)
theorem crcNext_lt {x c : Nat} (hx : x < 4294967296) (hc : c < 256) : crcNext x c < 4294967296 :=
  crcBits_lt 8 _ (Nat.xor_lt_two_pow (n := 32) (by omega) (by omega))
theorem crcReg_lt (xs : List UInt8) : ∀ x, x < 4294967296 → crcReg x xs < 4294967296 := by
  induction xs with
  | nil => intro x h; exact h
  | cons u xs ih => intro x h; exact ih _ (crcNext_lt h u.toNat_lt)
theorem crcReg_snoc (x : Nat) (xs : List UInt8) (u : UInt8) : crcReg x (xs ++ [u]) = crcNext (crcReg x xs) u.toNat := by
  simp [crcReg]
theorem crcReg_append (x : Nat) (xs ys : List UInt8) : crcReg x (xs ++ ys) = crcReg (crcReg x xs) ys := by
  simp [crcReg]
theorem crcOf_lt (xs : List UInt8) : crcOf xs < 4294967296 := by unfold crcOf; omega
theorem le4_length (s : Nat) : (le4 s).length = 4 := rfl

/-! What a bit of difference becomes -/
theorem crcBit_xor (x y : Nat) : crcBit (x ^^^ y) = crcBit x ^^^ crcBit y := by
  have hm : (x ^^^ y) % 2 = (x % 2) ^^^ (y % 2) := Nat.xor_mod_two_pow (n := 1)
  have hd : (x ^^^ y) / 2 = (x / 2) ^^^ (y / 2) := Nat.xor_div_two
  unfold crcBit
  rw [hm, hd]
  rcases Nat.mod_two_eq_zero_or_one x with h1 | h1 <;> rcases Nat.mod_two_eq_zero_or_one y with h2 | h2 <;> rw [h1, h2]
  · rfl
  · simp [Nat.xor_assoc]
  · simp only [Nat.xor_zero, if_neg (by omega : ¬ (1 = 0)), if_true]
    rw [Nat.xor_assoc, Nat.xor_comm (y / 2), Nat.xor_assoc]
  · simp only [Nat.xor_self, if_neg (by omega : ¬ (1 = 0)), if_true]
    rw [Nat.xor_assoc, Nat.xor_comm 2197175160, Nat.xor_assoc, Nat.xor_self, Nat.xor_zero]
theorem crcBits_xor (k : Nat) : ∀ x y, crcBits k (x ^^^ y) = crcBits k x ^^^ crcBits k y := by
  induction k with
  | zero => intro x y; rfl
  | succ k ih => intro x y; simp only [crcBits]; rw [crcBit_xor, ih]
theorem crcBit_zero {x : Nat} (h : x < 4294967296) : crcBit x = 0 ↔ x = 0 := by
  constructor
  · intro h0
    unfold crcBit at h0
    split at h0
    · omega
    · have : x / 2 = 2197175160 := by
        have h1 : (x / 2 ^^^ 2197175160) ^^^ 2197175160 = 0 ^^^ 2197175160 := by rw [h0]
        rwa [Nat.xor_assoc, Nat.xor_self, Nat.xor_zero, Nat.zero_xor] at h1
      omega
  · rintro rfl; rfl
theorem crcBits_zero (k : Nat) : ∀ x, x < 4294967296 → (crcBits k x = 0 ↔ x = 0) := by
  induction k with
  | zero => intro x h; exact Iff.rfl
  | succ k ih => intro x h; exact (ih _ (crcBit_lt h)).trans (crcBit_zero h)
end Go.Proofs.Yteajboafcjeagaa
namespace Go.Proofs.Yteajboafcjeagaa

/-! Bytes as one number, the lowest first -/
def lev : List UInt8 → Nat
  | [] => 0
  | u :: us => u.toNat + 256 * lev us

theorem split256 (a b : Nat) (h1 : a / 256 = b / 256) (h2 : a % 256 = b % 256) : a = b := by omega
theorem xor_div256 (a b : Nat) : (a ^^^ b) / 256 = a / 256 ^^^ b / 256 := Nat.xor_div_two_pow (n := 8)
theorem xor_mod256 (a b : Nat) : (a ^^^ b) % 256 = (a % 256) ^^^ (b % 256) := Nat.xor_mod_two_pow (n := 8)
theorem low_xor (u V : Nat) (h : u < 256) : u + 256 * V = u ^^^ (256 * V) := by
  apply split256
  · rw [xor_div256]; rw [show u / 256 = 0 by omega, Nat.zero_xor]; omega
  · rw [xor_mod256]; rw [show 256 * V % 256 = 0 by omega, Nat.xor_zero]; omega
theorem crcBit_two (y : Nat) : crcBit (2 * y) = y := by unfold crcBit; rw [if_pos (by omega)]; omega
theorem crcBits_pow (k : Nat) : ∀ y, crcBits k (2 ^ k * y) = y := by
  induction k with
  | zero => intro y; simp [crcBits]
  | succ k ih => intro y; rw [crcBits, show 2 ^ (k + 1) * y = 2 * (2 ^ k * y) by rw [Nat.pow_succ]; rw [Nat.mul_comm (2 ^ k) 2, Nat.mul_assoc], crcBit_two, ih]
theorem crcBits_add (k m : Nat) : ∀ x, crcBits (k + m) x = crcBits m (crcBits k x) := by
  induction k with
  | zero => intro x; simp [crcBits]
  | succ k ih => intro x; rw [show k + 1 + m = (k + m) + 1 by omega, crcBits, crcBits, ih]
theorem crcReg_lev (xs : List UInt8) : ∀ x, crcReg x xs = crcBits (8 * xs.length) (x ^^^ lev xs) := by
  induction xs with
  | nil => intro x; simp [crcReg, crcBits, lev]
  | cons u us ih =>
    intro x
    have hu := u.toNat_lt
    show crcReg (crcNext x u.toNat) us = _
    rw [ih, lev, low_xor _ _ (by omega), ← Nat.xor_assoc, List.length_cons, show 8 * (us.length + 1) = 8 + 8 * us.length by omega, crcBits_add, crcBits_xor 8,
      show 256 * lev us = 2 ^ 8 * lev us by rfl, crcBits_pow]
    rfl
theorem lev_set (b : UInt8) (s : List UInt8) : ∀ i (h : i < s.length), lev (s.set i (s[i] ^^^ b)) = lev s ^^^ (b.toNat * 256 ^ i) := by
  induction s with
  | nil => intro i h; simp at h
  | cons u us ih =>
    intro i h
    have hu := u.toNat_lt
    have hb := b.toNat_lt
    cases i with
    | zero =>
      have hx : (u ^^^ b).toNat < 256 := (u ^^^ b).toNat_lt
      simp only [List.set_cons_zero, List.getElem_cons_zero, lev, Nat.pow_zero, Nat.mul_one]
      apply split256
      · rw [xor_div256, show b.toNat / 256 = 0 by omega, Nat.xor_zero]; omega
      · rw [xor_mod256, show (u.toNat + 256 * lev us) % 256 = u.toNat by omega, show b.toNat % 256 = b.toNat by omega, ← UInt8.toNat_xor]; omega
    | succ i =>
      have h' : i < us.length := by simpa using h
      have := ih i h'
      simp only [List.set_cons_succ, List.getElem_cons_succ, lev, this]
      have e : b.toNat * 256 ^ (i + 1) = 256 * (b.toNat * 256 ^ i) := by rw [Nat.pow_succ, ← Nat.mul_assoc, Nat.mul_comm]
      rw [e]
      apply split256
      · rw [xor_div256, show (u.toNat + 256 * lev us) / 256 = lev us by omega, show 256 * (b.toNat * 256 ^ i) / 256 = b.toNat * 256 ^ i by omega]; omega
      · rw [xor_mod256, show 256 * (b.toNat * 256 ^ i) % 256 = 0 by omega, Nat.xor_zero]; omega
theorem lev_lt (s : List UInt8) : lev s < 256 ^ s.length := by
  induction s with
  | nil => simp [lev]
  | cons u us ih => have := u.toNat_lt; simp only [lev, List.length_cons, Nat.pow_succ]; omega
theorem lev_inj (s : List UInt8) : ∀ t : List UInt8, s.length = t.length → lev s = lev t → s = t := by
  induction s with
  | nil => intro t h _; cases t with
    | nil => rfl
    | cons => simp at h
  | cons u us ih =>
    intro t h e
    cases t with
    | nil => simp at h
    | cons v vs =>
      have hu := u.toNat_lt
      have hv := v.toNat_lt
      simp only [lev] at e
      have h1 : u.toNat = v.toNat := by omega
      have h2 : lev us = lev vs := by omega
      rw [ih vs (by simpa using h) h2, UInt8.toNat_inj.1 h1]
theorem lev_append (s t : List UInt8) : lev (s ++ t) = lev s + 256 ^ s.length * lev t := by
  induction s with
  | nil => simp [lev]
  | cons u us ih => simp only [List.cons_append, lev, ih, List.length_cons, Nat.pow_succ]; rw [Nat.mul_add, ← Nat.mul_assoc, Nat.mul_comm 256 (256 ^ us.length)]; omega
theorem lev_le4 (s : Nat) (h : s < 4294967296) : lev (le4 s) = s := by
  simp only [le4, lev, UInt8.toNat_ofNat']
  omega

/-- The register behind bytes with their sum: one number, whatever they are. -/
def crcK : Nat := crcBits 32 4294967295
theorem not_xor {r : Nat} (h : r < 4294967296) : 4294967295 - r = r ^^^ 4294967295 := by
  apply Nat.eq_of_testBit_eq
  intro i
  have e : 4294967295 - r = 2 ^ 32 - (r + 1) := by omega
  rw [e, Nat.testBit_two_pow_sub_succ h, Nat.testBit_xor, show (4294967295 : Nat) = 2 ^ 32 - 1 from rfl, Nat.testBit_two_pow_sub_one]
  by_cases hi : i < 32
  · simp [hi]
  · have hz : r.testBit i = false := Nat.testBit_lt_two_pow (Nat.lt_of_lt_of_le h (Nat.pow_le_pow_right (n := 2) (by decide) (by omega : 32 ≤ i)))
    simp [hi, hz]
theorem xor_eq_zero' {a b : Nat} : a ^^^ b = 0 ↔ a = b := by
  constructor
  · intro h
    have h1 : (a ^^^ b) ^^^ b = 0 ^^^ b := by rw [h]
    rwa [Nat.xor_assoc, Nat.xor_self, Nat.xor_zero, Nat.zero_xor] at h1
  · rintro rfl; exact Nat.xor_self a
theorem crcHolds_reg (xs : List UInt8) : crcHolds xs = (decide (4 ≤ xs.length) && decide (crcReg 4294967295 xs = crcK)) := by
  unfold crcHolds
  by_cases h4 : 4 ≤ xs.length
  · simp only [h4, decide_true, Bool.true_and]
    congr 1
    have hx : xs.take (xs.length - 4) ++ xs.drop (xs.length - 4) = xs := List.take_append_drop _ _
    generalize hys : xs.take (xs.length - 4) = ys at *
    generalize hts : xs.drop (xs.length - 4) = ts at *
    have hl : ts.length = 4 := by rw [← hts, List.length_drop]; omega
    rw [← hx, crcReg_append, crcReg_lev ts, hl]
    have hr := crcReg_lt ys 4294967295 (by omega)
    have ht : lev ts < 4294967296 := by have := lev_lt ts; rw [hl] at this; exact this
    generalize hR : crcReg 4294967295 ys = r at *
    have ho : crcOf ys = r ^^^ 4294967295 := by unfold crcOf; rw [hR, not_xor hr]
    apply propext
    constructor
    · intro e
      rw [e, lev_le4 _ (crcOf_lt _), ho, ← Nat.xor_assoc, Nat.xor_self, Nat.zero_xor]; rfl
    · intro e
      have e' : crcBits 32 (r ^^^ lev ts ^^^ 4294967295) = 0 := by
        rw [crcBits_xor]; exact xor_eq_zero'.2 e
      have e2 := (crcBits_zero 32 _ (Nat.xor_lt_two_pow (n := 32) (Nat.xor_lt_two_pow (n := 32) hr ht) (by omega))).1 e'
      have e3 : r ^^^ lev ts = 4294967295 := xor_eq_zero'.1 e2
      apply lev_inj _ _ (by rw [hl]; rfl)
      rw [lev_le4 _ (crcOf_lt _), ho, ← e3, ← Nat.xor_assoc, Nat.xor_self, Nat.zero_xor]
  · simp [h4]
theorem crcHolds_closed (xs : List UInt8) : crcHolds (crcClosed xs) = true := by
  have e : (crcClosed xs).length - 4 = xs.length := by simp [crcClosed, le4_length]
  unfold crcHolds
  rw [e]
  simp [crcClosed, le4_length]
theorem crcHolds_as (xs : List UInt8) (h : 4 ≤ xs.length) : crcHolds xs = decide (crcClosed (xs.take (xs.length - 4)) = xs) := by
  unfold crcHolds crcClosed
  rw [decide_eq_true h, Bool.true_and]
  congr 1
  apply propext
  constructor
  · intro e; rw [← e]; exact List.take_append_drop _ _
  · intro e
    have h2 : (xs.take (xs.length - 4)).length = xs.length - 4 := by rw [List.length_take]; omega
    conv => lhs; rw [← e]
    rw [List.drop_append_of_le_length (by rw [h2]; simp [le4_length, h2]), List.drop_of_length_le (by rw [h2]; simp [le4_length, h2])]
    simp
/-- What differs from closed bytes by bits within 32 side by side holds just if none is turned. -/
theorem crc_burst (xs ts : List UInt8) (bits from_ : Nat) (hb : bits < 4294967296) (hl : ts.length = xs.length + 4) (hf : from_ + 32 ≤ 8 * ts.length)
    (hv : lev ts = lev (crcClosed xs) ^^^ (bits * 2 ^ from_)) : crcHolds ts = decide (bits = 0) := by
  have hc : crcHolds (crcClosed xs) = true := crcHolds_closed xs
  rw [crcHolds_reg] at hc ⊢
  have hcl : (crcClosed xs).length = ts.length := by simp [crcClosed, le4_length, hl]
  simp only [Bool.and_eq_true, decide_eq_true_eq] at hc
  have hk := hc.2
  rw [crcReg_lev, hcl] at hk
  rw [crcReg_lev, hv, ← Nat.xor_assoc, crcBits_xor, hk]
  have e1 : 8 * ts.length = from_ + (8 * ts.length - from_) := by omega
  have e2 : crcBits (8 * ts.length) (bits * 2 ^ from_) = crcBits (8 * ts.length - from_) bits := by
    rw [Nat.mul_comm bits]
    conv => lhs; rw [e1]
    rw [crcBits_add, crcBits_pow]
  rw [e2]
  have h4 : 4 ≤ ts.length := by omega
  simp only [h4, decide_true, Bool.true_and]
  congr 1
  apply propext
  constructor
  · intro h
    refine (crcBits_zero (8 * ts.length - from_) bits hb).1 ?_
    have h1 : crcK ^^^ (crcK ^^^ crcBits (8 * ts.length - from_) bits) = crcK ^^^ crcK := by rw [h]
    rwa [← Nat.xor_assoc, Nat.xor_self, Nat.zero_xor] at h1
  · rintro rfl
    rw [(crcBits_zero _ 0 (by omega)).2 rfl, Nat.xor_zero]

theorem add_pow_xor (a j : Nat) (h : a < 2 ^ j) : a + 2 ^ j = a ^^^ 2 ^ j := by
  have hp : 0 < 2 ^ j := Nat.two_pow_pos j
  have hd : (a ^^^ 2 ^ j) / 2 ^ j = 1 := by rw [Nat.xor_div_two_pow, Nat.div_eq_of_lt h, Nat.div_self hp, Nat.zero_xor]
  have hm : (a ^^^ 2 ^ j) % 2 ^ j = a := by rw [Nat.xor_mod_two_pow, Nat.mod_self, Nat.xor_zero, Nat.mod_eq_of_lt h]
  have := Nat.div_add_mod (a ^^^ 2 ^ j) (2 ^ j)
  rw [hd, hm] at this
  omega
theorem xor_mul_pow (a b F : Nat) : (a ^^^ b) * 2 ^ F = a * 2 ^ F ^^^ b * 2 ^ F := by
  rw [← Nat.shiftLeft_eq, ← Nat.shiftLeft_eq, ← Nat.shiftLeft_eq, Nat.shiftLeft_xor_distrib]
theorem pow_lt_256 (I : Nat) : 2 ^ (I % 8) < 256 := by
  have h : I % 8 < 8 := Nat.mod_lt _ (by decide)
  exact Nat.lt_of_lt_of_le (Nat.pow_lt_pow_right (by decide) h) (by decide)
theorem burst_odd (ts : List UInt8) (u : UInt8) (L F bits j I : Nat) (hI : F + j = I) (hu : ts[I / 8]? = some u) (hv : lev ts = L ^^^ (bits % 2 ^ j) * 2 ^ F) (ho : (bits / 2 ^ j) % 2 = 1) :
    lev (ts.set (I / 8) (u ^^^ UInt8.ofNat (2 ^ (I % 8)))) = L ^^^ (bits % 2 ^ (j + 1)) * 2 ^ F := by
  obtain ⟨hl, hu'⟩ := List.getElem?_eq_some_iff.1 hu
  have h1 := lev_set (UInt8.ofNat (2 ^ (I % 8))) ts (I / 8) hl
  rw [hu'] at h1
  have hb : (UInt8.ofNat (2 ^ (I % 8))).toNat = 2 ^ (I % 8) := by
    rw [UInt8.toNat_ofNat']; exact Nat.mod_eq_of_lt (pow_lt_256 I)
  have hp : 2 ^ (I % 8) * 256 ^ (I / 8) = 2 ^ j * 2 ^ F := by
    rw [show (256 : Nat) = 2 ^ 8 from rfl, ← Nat.pow_mul, ← Nat.pow_add, ← Nat.pow_add]
    congr 1
    omega
  rw [h1, hb, hp, hv, Nat.xor_assoc, ← xor_mul_pow, Nat.mod_pow_succ, ho, Nat.mul_one, add_pow_xor _ _ (Nat.mod_lt _ (Nat.two_pow_pos j))]
theorem burst_even (L F bits j v : Nat) (hv : v = L ^^^ (bits % 2 ^ j) * 2 ^ F) (ho : (bits / 2 ^ j) % 2 = 0) : v = L ^^^ (bits % 2 ^ (j + 1)) * 2 ^ F := by
  rw [hv, Nat.mod_pow_succ, ho, Nat.mul_zero, Nat.add_zero]
end Go.Proofs.Yteajboafcjeagaa
