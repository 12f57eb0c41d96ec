/-
  Layer 3: digests (the document): Pad.
-/
import Derived.Test.YtnfepikgbdeomaaShaJ
namespace Go.Proofs.Ytnfepikgbdeomaa
set_option maxRecDepth 20000
open Go.RowKit Go.Shelf
set_option linter.unusedVariables false
set_option linter.unusedSimpArgs false
set_option maxHeartbeats 8000000
attribute [local go_sem] Oper.semAt_some

theorem refPad_neg (n : Int) (w : World) (h : n < 0) : Calls Try.prog 88 #[.int .i64 n] w (RetB w []) := by
  have d1 : decide (n < 0) = true := decide_eq_true h
  go_enter Try.func88, Try.ntmps88
  go_wp2
  go_ret
  exact ⟨none, 0, 0, rfl, OwnB.nilB _ _, below_self w⟩
/-- Between two rounds of Pad's loop. -/
def RPad (w : World) (z : Nat) (s : Value) (wr : World) : Prop :=
  ∃ (A : Option Addr) (k m c : Nat), k ≤ z ∧ m = 1 + k ∧ s = .slice A m c ∧ OwnB wr w.heap.size A m c (128 :: List.replicate k 0) ∧ Below w.heap.size w wr
theorem refPad_num (r m : Nat) (hr : r < 64) (hm : m ≤ 100) : wrap64 ((r + m : Nat) : Int) = ((r + m : Nat) : Int) ∧ wrap64 (((r + m : Nat) : Int) + 8) = ((r + m + 8 : Nat) : Int) ∧ (((r + m + 8 : Nat) : Int)).tmod 64 = (((r + m + 8) % 64 : Nat) : Int) := by
  refine ⟨IntWalk.wrap64_in _ ⟨by omega, by omega⟩, ?_, ?_⟩
  · rw [show ((r + m : Nat) : Int) + 8 = ((r + m + 8 : Nat) : Int) by omega]; exact IntWalk.wrap64_in _ ⟨by omega, by omega⟩
  · rw [Int.tmod_eq_emod_of_nonneg (by omega)]; omega
theorem refPad_z (r z : Nat) (hr : r < 64) (hz : z = (119 - r) % 64) : (r ≤ 55 ∧ z = 55 - r) ∨ (56 ≤ r ∧ z = 119 - r) := by
  rcases Nat.lt_or_ge r 56 with h | h
  · left; exact ⟨by omega, by rw [hz, show 119 - r = (55 - r) + 64 by omega, Nat.add_mod_right]; exact Nat.mod_eq_of_lt (by omega)⟩
  · right; exact ⟨h, by rw [hz]; exact Nat.mod_eq_of_lt (by omega)⟩
theorem refPad_on (r z k : Nat) (hr : r < 64) (hz : z = (119 - r) % 64) (hk : k < z) : (r + (1 + k) + 8) % 64 ≠ 0 := by
  rcases refPad_z r z hr hz with ⟨h1, h2⟩ | ⟨h1, h2⟩
  · rw [Nat.mod_eq_of_lt (by omega)]; omega
  · rw [show r + (1 + k) + 8 = (r + k - 55) + 64 by omega, Nat.add_mod_right, Nat.mod_eq_of_lt (by omega)]; omega
theorem refPad_off (r z : Nat) (hr : r < 64) (hz : z = (119 - r) % 64) : (r + (1 + z) + 8) % 64 = 0 := by
  rcases refPad_z r z hr hz with ⟨h1, h2⟩ | ⟨h1, h2⟩
  · rw [show r + (1 + z) + 8 = 64 by omega]
  · rw [show r + (1 + z) + 8 = 128 by omega]
set_option maxRecDepth 100000 in
theorem refPad_any (n : Nat) (w : World) (h : n ≤ 1000000) : Calls Try.prog 88 #[.int .i64 (n : Int)] w (RetB w (shPad n)) := by
  obtain ⟨r, hr⟩ : ∃ r, r = n % 64 := ⟨_, rfl⟩
  obtain ⟨z, hz⟩ : ∃ z, z = (119 - r) % 64 := ⟨_, rfl⟩
  have a1 : (n : Int) % 64 = (r : Int) := by omega
  have d1 : decide ((n : Int) < 0) = false := decide_eq_false (by omega)
  obtain ⟨m8, hm8⟩ : ∃ m, m = 8 * n := ⟨_, rfl⟩
  have hP : shPad n = (128 :: List.replicate z 0) ++ beB m8 8 := by unfold shPad; rw [hz, hr, hm8]; simp
  have HP := Lib.hid hP
  have hm64 : m8 < 18446744073709551616 := by omega
  have hz64 : z < 64 := by omega
  have hr64 : r < 64 := by omega
  have wn := w64n (k := n) (by omega)
  have w8 : IntKind.u64.wrap (8 * (n : Int)) = (m8 : Int) := by rw [IntWalk.u64_in _ (by omega)]; omega
  have HZ := Lib.hid hz
  have HR64 := Lib.hid hr64
  have HZ64 := Lib.hid hz64
  have HM64 := Lib.hid hm64
  have WN := Lib.hid wn
  have W8 := Lib.hid w8
  clear hP hr hz hm8 h hr64 hz64 hm64 wn w8
  go_enter Try.func88, Try.ntmps88
  go_wp2
  go_loopw [3] (fun s wr => RPad w z s wr) (fun s _ => match s with | .slice _ n _ => 1 + z - n | _ => 0)
  case atStart =>
    exact ⟨some ⟨w.heap.size, 0, none⟩, 0, 1, 1, Nat.zero_le _, rfl, rfl, OwnB.lit w #[.int .u8 128] [128] 1 rfl rfl (by simp [maxLen]), (below_self w).alloc (Nat.le_refl _) _⟩
  case round =>
    obtain ⟨A, k, m, c, hk, hm, rfl, ho, hB⟩ := hrel
    have hmb : m ≤ 100 := by have := HZ64.out; omega
    have hr64 := HR64.out
    have hon := fun h => refPad_on r z k hr64 HZ.out h
    have hoff := fun h : k = z => h ▸ refPad_off r z hr64 HZ.out
    rw [← hm] at hon
    have hn3 := refPad_num r m hr64 hmb
    have b1 : (r : Int) + (m : Int) = ((r + m : Nat) : Int) := rfl
    have hoff' : k = z → (r + m + 8) % 64 = 0 := fun h => by rw [hm]; subst h; exact refPad_off r k hr64 HZ.out
    clear hoff
    obtain ⟨t, ht⟩ : ∃ t, t = (r + m + 8) % 64 := ⟨_, rfl⟩
    rw [← ht] at hn3 hon hoff'
    have htl : t < 64 := by rw [ht]; exact Nat.mod_lt _ (by omega)
    generalize hs2 : r + m + 8 = s2 at hn3 ht
    generalize hs1 : r + m = s1 at hn3 b1
    clear hr64
    obtain ⟨g1, g2, g3⟩ := hn3
    have b2 : (s1 : Int) + 8 = (s2 : Int) := by rw [← hs1, ← hs2]; rfl
    have b3 : (s2 : Int) % 64 = (t : Int) := by rw [ht]; rfl
    by_cases hlt : k < z
    · have b4 : ¬ (t = 0) := hon hlt
      clear hon hoff' ht hs1 hs2
      have b6 : ¬ ((t : Int) = 0) := fun e => b4 (Int.ofNat.inj e)
      have b5 : ((t : Int) != 0) = true := bne_iff_ne.2 b6
      have HM := Lib.hid hm
      clear hm htl b4
      iterate 43 (first | go_values | go_skip | go_guarded | go_step | go_upon | go_in | go_back)
      at_builtin
      refine wp_appB rfl _ _ rfl (hB.alloc hB.size _) (Nat.le_refl _) (by have := hB.size; simp; omega) A m c (128 :: List.replicate k 0) rfl (ho.alloc _) (some ⟨wr.heap.size, 0, none⟩) 1 1 [0] rfl (RdB.litM wr #[.int .u8 0] (0, 0) [0] 1 rfl rfl (by simp [maxLen])) (by omega) (m + 1) (128 :: List.replicate (k + 1) 0) rfl (by rw [List.replicate_succ']; rfl) ?_
      intro A4 c4 w4 ho4 hb4 hg4
      go_wp2_with fail
      go_roundw
      case rel => exact ⟨A4, k + 1, m + 1, c4, hlt, by rw [HM.out]; rfl, rfl, ho4, hb4⟩
      case measure => exact Nat.sub_lt_sub_left (by rw [HM.out]; exact Nat.add_lt_add_left hlt 1) (Nat.lt_succ_self m)
    · obtain rfl : k = z := by omega
      have b4 : t = 0 := hoff' rfl
      clear hon hoff' ht hs1 hs2
      have b5 : ((t : Int) != 0) = false := by rw [b4]; rfl
      have HB4 := Lib.hid b4
      clear b4
      have HM := Lib.hid hm
      have wn := WN.out
      have w8 := W8.out
      have hm64 := HM64.out
      clear hm htl
      go_wp2_with fail
      refine (refBe_any m8 8 wr hm64).mono ?_
      rw [show clamp 8 = 8 from rfl]
      rintro e w5 ⟨A5, n5, c5, rfl, ho5, hb5⟩
      obtain rfl : n5 = 8 := by rw [← ho5.len, beB_length]
      have B5 := below_then hB hb5
      go_wp2_with (at_builtin; refine wp_appB rfl _ _ rfl B5 (Nat.le_refl _) B5.size A m c (128 :: List.replicate k 0) rfl (ho.below hb5) A5 8 c5 (beB m8 8) rfl ho5.rd (by omega) (m + 8) (shPad n) rfl (by rw [HP.out]) ?_; intro A6 c6 w6 ho6 hb6 hg6)
      go_ret
      exact ⟨A6, _, c6, rfl, ho6, hb6⟩
end Go.Proofs.Ytnfepikgbdeomaa
