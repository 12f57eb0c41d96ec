/-
  Layer 20: the same packets; a field of a packet's bytes.
-/
import Derived.Test.YtieilgphcfiapaaIpD
-- facts: PkAt
namespace Go.Proofs.Ytieilgphcfiapaa
set_option maxRecDepth 20000
open Go.RowKit
set_option linter.unusedVariables false
set_option linter.unusedSimpArgs false

/-- What is the same, field by field, is said to be. -/
theorem same20_any (id : Nat) (more : Bool) (place proto : Int) (src dst : Nat) (A : Option Addr) (n c : Nat) (A' : Option Addr) (n' c' : Nat) (xs : List UInt8) (w : World) (hr : RdB w A n c xs) (hr' : RdB w A' n' c' xs) :
    Calls Try.prog 34 #[.agg #[.int .u16 id, .bool more, .int .i64 place, .int .i64 proto, .int .u32 src, .int .u32 dst, .slice A n c], .agg #[.int .u16 id, .bool more, .int .i64 place, .int .i64 proto, .int .u32 src, .int .u32 dst, .slice A' n' c']] w (RetV w (.bool true)) := by
  have k1 : ((id : Int) == (id : Int)) = true := by simp
  have k2 : (more == more) = true := by simp
  have k3 : (place == place) = true := by simp
  have k4 : (proto == proto) = true := by simp
  have k5 : ((src : Int) == (src : Int)) = true := by simp
  have k6 : ((dst : Int) == (dst : Int)) = true := by simp
  go_enter Try.func34, Try.ntmps34
  go_wp2_with fail
  refine (bytes_any _ _ _ _ _ _ xs xs _ ((hr.alloc _).alloc _) ((hr'.alloc _).alloc _)).mono ?_
  rintro e w1 ⟨rfl, rfl⟩
  rw [decide_eq_true rfl]
  go_wp2
  go_ret
  exact ⟨rfl, ((below_self w).alloc (Nat.le_refl _) _).alloc (by simp) _⟩

/-- A field: k bytes from a place on. -/
def fld (xs : List UInt8) (p k : Nat) : Nat := bev ((xs.drop p).take k)
theorem fld_lt (xs : List UInt8) (p k : Nat) : fld xs p k < 256 ^ k := by
  unfold fld
  refine Nat.lt_of_lt_of_le (bev_lt _) (Nat.pow_le_pow_right (by decide) ?_)
  exact List.length_take_le _ _
theorem field_any (p k : Nat) (A : Option Addr) (n c : Nat) (xs : List UInt8) (g : Nat) (w : World) (hr : RdB w A n c xs) (hp : p + k ≤ n) (hk : 0 < k) (hk4 : k ≤ 4) (hg : w.cell? ⟨g, 0, none⟩ = some (.slice A n c)) :
    Calls Try.prog 72 #[.int .i64 p, .int .i64 k, .pointer (some ⟨g, 0, none⟩)] w fun e w' => e = .returned (.int .i64 (fld xs p k : Nat)) ∧ w = w' := by
  have hc := hr.2.2.1
  have hc63 := hr.c63
  have hn63 := hr.n63
  obtain ⟨b, o, u, rfl, hbl, _⟩ := hr.at_ 0 (by omega)
  have hr2 := (hr.cutS p (n - p) (by omega) (by omega)).take k (by omega)
  have hF : fromBe ((xs.drop p).take k) = fld xs p k := by unfold fromBe fld; rw [List.take_of_length_le (by rw [hr2.2.1]; omega)]
  have hFl := fld_lt xs p k
  have hF2 : fld xs p k < 4294967296 := Nat.lt_of_lt_of_le hFl (by rw [show (4294967296 : Nat) = 256 ^ 4 from rfl]; exact Nat.pow_le_pow_right (by decide) hk4)
  have HF := Lib.hid hF
  have hr3 := hr2.cap k (Nat.le_refl _) (by unfold maxLen; omega)
  obtain ⟨s, hs⟩ : ∃ s, s = p + k := ⟨_, rfl⟩
  have e0 : ¬ (k = 0) := by omega
  have e1 : (p : Int) + (k : Int) = (s : Int) := by omega
  have e2 : (p : Int) ≤ (s : Int) := by omega
  have e3 : (s : Int) ≤ (c : Int) := by omega
  have e4 : (0 : Int) ≤ (p : Int) := by omega
  have e5 : s - p = k := by omega
  have e6 : ¬ (s = p) := by omega
  clear hF hFl hs
  go_enter Try.func72, Try.ntmps72
  go_wp2_with fail
  refine (fromBe_any _ _ _ _ _ hr3).mono ?_
  rintro e w1 ⟨rfl, rfl⟩
  rw [HF.out]
  go_wp2
  go_ret
  exact ⟨rfl, rfl⟩
end Go.Proofs.Ytieilgphcfiapaa
