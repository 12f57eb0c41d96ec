/-
  Layer 7: rings: what is available.
-/
import Derived.Test.YtnfepikgbdeomaaRingD
import Derived.Test.YtnfepikgbdeomaaPlanT
namespace Go.Proofs.Ytnfepikgbdeomaa
set_option maxRecDepth 20000
open Go.RowKit
set_option linter.unusedVariables false
set_option linter.unusedSimpArgs false
set_option maxHeartbeats 4000000

theorem and_mask (i m : Nat) (h : m = 1 ∨ m = 2 ∨ m = 4 ∨ m = 8 ∨ m = 16) : i &&& (m - 1) = i % m := by
  rcases h with rfl | rfl | rfl | rfl | rfl
  · simp [Nat.mod_one]
  · exact Nat.and_two_pow_sub_one_eq_mod i 1
  · exact Nat.and_two_pow_sub_one_eq_mod i 2
  · exact Nat.and_two_pow_sub_one_eq_mod i 3
  · exact Nat.and_two_pow_sub_one_eq_mod i 4
theorem i64_and_small (a b : Nat) (ha : a < 65536) (hb : b < 65536) : bits .and .i64 (a : Int) (b : Int) = ((a &&& b : Nat) : Int) := by
  have ea : BitVec.ofInt 64 (a : Int) = BitVec.ofNat 64 a := by apply BitVec.eq_of_toNat_eq; simp [BitVec.toNat_ofInt]
  have eb : BitVec.ofInt 64 (b : Int) = BitVec.ofNat 64 b := by apply BitVec.eq_of_toNat_eq; simp [BitVec.toNat_ofInt]
  have hab : a &&& b < 65536 := Nat.lt_of_le_of_lt Nat.and_le_left ha
  show IntKind.i64.wrap ((BitVec.ofInt 64 (a : Int) &&& BitVec.ofInt 64 (b : Int)).toNat : Nat) = _
  rw [ea, eb, BitVec.toNat_and, BitVec.toNat_ofNat, BitVec.toNat_ofNat, Nat.mod_eq_of_lt (by omega), Nat.mod_eq_of_lt (by omega)]
  exact wi64n (k := a &&& b) (by omega)
/-- Where, within a part, the entry of an index stands. -/
def rgPlace (k : Int) (i : Nat) (s : Int) : Int := 4 + s * ((i % k.toNat : Nat) : Int)
theorem ringPlace_any (k : Int) (i : Nat) (s : Int) (w : World) (hi : i < 65536) (hs : s = 2 ∨ s = 8) : Calls Try.prog 64 #[.int .i64 k, .int .u16 (i : Int), .int .i64 s] w fun e w' => ∃ z : Int, e = .returned (.int .i64 z) ∧ (rgN k → z = rgPlace k i s) ∧ w = w' := by
  by_cases h : rgN k
  · obtain ⟨m, hm⟩ : ∃ m : Nat, m = k.toNat := ⟨_, rfl⟩
    have hm5 : m = 1 ∨ m = 2 ∨ m = 4 ∨ m = 8 ∨ m = 16 := by unfold rgN at h; omega
    obtain rfl : k = (m : Int) := by unfold rgN at h; omega
    obtain ⟨r, hr⟩ : ∃ r, r = i % m := ⟨_, rfl⟩
    have hrm : r < 16 := by rw [hr]; have := Nat.mod_lt i (show 0 < m by omega); omega
    have hb : bits .and .i64 (i : Int) ((m : Int) - 1) = (r : Int) := by
      rw [show (m : Int) - 1 = ((m - 1 : Nat) : Int) by omega, hr, ← and_mask i m hm5]
      exact i64_and_small i (m - 1) hi (by omega)
    have hp : rgPlace (m : Int) i s = 4 + s * (r : Int) := by unfold rgPlace; rw [hr]; simp
    rw [hp]
    have wi := IntWalk.wrap64_in (i : Int) ⟨by omega, by omega⟩
    clear hr hm
    rcases hs with rfl | rfl <;>
    · go_enter Try.func64, Try.ntmps64
      go_wp2
      go_ret
      exact ⟨_, rfl, fun _ => rfl, rfl⟩
  · go_enter Try.func64, Try.ntmps64
    go_wp2
    go_ret
    exact ⟨_, rfl, fun h2 => absurd h2 h, rfl⟩
theorem memNum_lt (xs : List UInt8) (a : Int) (s : Nat) : memNum xs a s < 256 ^ s := by
  unfold memNum
  split
  · unfold fromLe memGet
    split
    · have h := lev_lt ((((xs.drop a.toNat).take (s : Int).toNat)).take 8)
      refine Nat.lt_of_lt_of_le h (Nat.pow_le_pow_right (by omega) ?_)
      simp only [List.length_take]; omega
    · exact Nat.pow_pos (by omega)
  · exact Nat.pow_pos (by omega)
theorem ringIndex1_any (g gi : Nat) (A : Option Addr) (n c : Nat) (xs : List UInt8) (at_ : Int) (old : Value) (w : World) (hf : FdAt w g A n c at_) (hr : RdB w A n c xs) (ha : 0 ≤ at_ ∧ at_ ≤ 1000000) (hg : gi < g) (hi : w.heap[gi]? = some (.cells #[old] 22 (0, 0))) :
    Calls Try.prog 118 #[.pointer (some ⟨g, 0, none⟩), .pointer (some ⟨gi, 0, none⟩)] w fun e w' => e = .returned (.tuple #[]) ∧ w'.heap[gi]? = some (.cells #[.int .u16 (memNum xs at_ 2)] 22 (0, 0)) ∧ Below gi w w' := by
  have hh := fget_any g A n c xs at_ 2 w hf hr ha (by omega)
  have hlt := memNum_lt xs at_ 2
  obtain ⟨v, hv⟩ : ∃ v, memNum xs at_ 2 = v := ⟨_, rfl⟩
  rw [hv] at hh ⊢
  rw [show ((2 : Nat) : Int) = 2 from rfl, hv] at hlt
  have HH := Lib.hid hh
  have wv : IntKind.u16.wrap (v : Int) = (v : Int) := by rw [IntKind.wrap_u16]; omega
  have HI := Lib.hid hi
  clear hh hv hi
  go_enter Try.func118, Try.ntmps118
  go_wp2_with fail
  refine HH.out.mono ?_
  rintro e w2 ⟨rfl, hf2, hb2⟩
  have hi2 := (hb2.block gi hg).trans HI.out
  have c2 := (cell_of_row w2 gi 0 _ _ _ hi2).trans (show (#[old] : Array Value)[0]? = some old from rfl)
  have f2 : w2.frozen? ⟨gi, 0, none⟩ = false := frozen_of_row _ _ 0 _ _ hi2
  have HI2 := Lib.hid hi2
  clear hi2
  go_wp2_with fail
  refine bodyPost_end (v := .tuple #[]) (by simp [results, Try.results118]) rfl ?_
  exact ⟨rfl, (setc_rowT HI2.out).trans rfl, (hb2.mono (Nat.le_of_lt hg)).setCell (p := ⟨gi, 0, none⟩) (Nat.le_refl _) _⟩
def rgE (n : Nat) (b k : Int) : Int := if rgCheck n b k = true then 0 else 70
def rgIdx (xs : List UInt8) (b k p : Int) : Nat := if rgCheck xs.length b k = true then memNum xs (b + (p + 2)) 2 else 0
theorem ringIndex_any (A : Option Addr) (n c : Nat) (xs : List UInt8) (b k p : Int) (w : World) (hr : RdB w A n c xs) (hb : -9223372036854775808 ≤ b ∧ b ≤ 9223372036854775807) (hk : -9223372036854775808 ≤ k ∧ k ≤ 9223372036854775807) (hp : rgN k → 0 ≤ p ∧ p ≤ 900) :
    Calls Try.prog 72 #[.agg #[.slice A n c], .int .i64 b, .int .i64 k, .int .i64 p] w (RetT w (.int .u16 (rgIdx xs b k p : Nat)) (.int .i64 (rgE n b k))) := by
  have hn := hr.n63
  unfold rgIdx rgE
  rw [hr.2.1]
  obtain ⟨V, hV⟩ : ∃ V, V = (w.alloc (.cells #[.slice A n c] 28)).alloc (.cells #[.int .u16 0] 22) := ⟨_, rfl⟩
  have bV : Below w.heap.size w V := by rw [hV]; exact ((below_self w).alloc (Nat.le_refl _) _).alloc (by simp) _
  have zV : V.heap.size = w.heap.size + 1 + 1 := by rw [hV]; simp
  have rV : V.heap[w.heap.size + 1]? = some (.cells #[.int .u16 0] 22 (0, 0)) := by rw [hV]; exact row2b ..
  have rM : V.heap[w.heap.size]? = some (.cells #[.slice A n c] 28 (0, 0)) := by rw [hV]; exact row2a ..
  have HV := Lib.hid hV
  have RV := Lib.hid rV
  have ZV := Lib.hid zV
  have hrV := hr.below bV
  clear hV rV zV
  by_cases h : rgCheck n b k = true
  · rw [if_pos h, if_pos h]
    have hc := of_decide_eq_true h
    have hp2 := hp hc.2.1
    have hz := (rgSize_le k).2.2 hc.2.1
    have hb2 : 0 ≤ b ∧ b ≤ 8192 := by omega
    obtain ⟨v, hv⟩ : ∃ v, memNum xs (b + (p + 2)) 2 = v := ⟨_, rfl⟩
    rw [hv]
    have hh := ringReading_yes A n c xs b k (p + 2) 118 #[.pointer (some ⟨w.heap.size + 1, 0, none⟩)] V (fun W g w' => w'.heap[w.heap.size + 1]? = some (.cells #[.int .u16 (memNum xs (b + (p + 2)) 2)] 22 (0, 0)) ∧ Below (w.heap.size + 1) W w') hrV hb hk h (by omega) (fun args W => by go_simp)
      (fun W g hbW hg hs hf => ringIndex1_any g (w.heap.size + 1) A n c xs (b + (p + 2)) _ W hf (hrV.below hbW) (by omega) (by have := ZV.out; omega) ((hbW.block _ (by have := ZV.out; omega)).trans RV.out))
    rw [hv] at hh
    have HH := Lib.hid hh
    have hp3 : 0 ≤ p ∧ p ≤ 900 := hp2
    clear hh hv hp hc hz h
    go_enter Try.func72, Try.ntmps72
    go_wp2_with fail
    rw [← HV.out]
    refine HH.out.mono ?_
    rintro e w2 ⟨rfl, W, g, hbW, hg, hf, hrow, hb3⟩
    have B2 : Below w.heap.size w w2 := (bV.trans (hbW.mono (by have := ZV.out; omega))).trans (hb3.mono (by omega))
    have c2 := (cell_of_row w2 _ 0 _ _ _ hrow).trans (show (#[.int .u16 (v : Int)] : Array Value)[0]? = some (.int .u16 (v : Int)) from rfl)
    go_wp2_with fail
    go_ret2
    exact ⟨rfl, B2⟩
  · have h' : rgCheck n b k = false := by simpa using h
    rw [if_neg h, if_neg h]
    have HH := Lib.hid (fun a d => ringReading_no A n c b k a d V hn hb hk h')
    clear hp h h'
    go_enter Try.func72, Try.ntmps72
    go_wp2_with fail
    rw [← HV.out]
    refine (HH.out _ _).mono ?_
    rintro e w2 ⟨rfl, hb2⟩
    have hrow := (hb2.block (w.heap.size + 1) (by have := ZV.out; omega)).trans RV.out
    have c2 := (cell_of_row w2 _ 0 _ _ _ hrow).trans (show (#[.int .u16 0] : Array Value)[0]? = some (.int .u16 0) from rfl)
    have B2 := below_then bV hb2
    go_wp2_with fail
    go_ret2
    exact ⟨rfl, B2⟩
end Go.Proofs.Ytnfepikgbdeomaa
