/-
  Layer 3: the law ShaWhole.
-/
import Derived.Test.YtmbdfanaegadjaaShaL
import Derived.Test.YtmbdfanaegadjaaNumN
namespace Go.Proofs.Ytmbdfanaegadjaa
set_option maxRecDepth 20000
open Go.RowKit
set_option linter.unusedVariables false
set_option linter.unusedSimpArgs false
set_option maxHeartbeats 8000000

theorem pad_whole (k z : Nat) (hz : z = (119 - k % 64) % 64) : (k + (9 + z)) % 64 = 0 := by
  rcases refPad_z (k % 64) z (Nat.mod_lt _ (by omega)) hz with ⟨h1, h2⟩ | ⟨h1, h2⟩ <;> omega
theorem pad_zero (x z j : Nat) (h1 : 1 ≤ j) (h2 : j < 1 + z) : ((128 : UInt8) :: (List.replicate z 0 ++ beB x 8)).getD j 0 = 0 := by
  obtain ⟨i, rfl⟩ : ∃ i, j = i + 1 := ⟨j - 1, by omega⟩
  rw [List.getD_cons_succ, List.getD, List.getElem?_append_left (by simp; omega)]
  simp [List.getElem?_replicate, show i < z by omega]
theorem pad_tail (x z : Nat) : ((128 : UInt8) :: (List.replicate z 0 ++ beB x 8)).drop (1 + z) = beB x 8 := by
  rw [Nat.add_comm, List.drop_succ_cons]; exact List.drop_left' (by simp)
set_option maxRecDepth 100000 in
theorem shaWhole_main (k : Nat) (w : World) (hk : k ≤ 2000) : Calls Try.prog 9 #[.int .i64 (k : Int)] w (RetV w (.bool true)) := by
  have d1 : decide ((k : Int) < 0) = false := decide_eq_false (by omega)
  have d2 : decide ((2000 : Int) < (k : Int)) = false := decide_eq_false (by omega)
  obtain ⟨z, hz⟩ : ∃ z, z = (119 - k % 64) % 64 := ⟨_, rfl⟩
  have hz64 : z < 64 := by rw [hz]; exact Nat.mod_lt _ (by omega)
  have hw := pad_whole k z hz
  have hP : shPad k = 128 :: (List.replicate z 0 ++ beB (8 * k) 8) := by unfold shPad; rw [← hz]
  have HP := Lib.hid hP
  obtain ⟨x8, hx8⟩ : ∃ x, x = 8 * k := ⟨_, rfl⟩
  rw [← hx8] at HP
  have hx : x8 < 18446744073709551616 := by omega
  have wk := w64n (k := k) (by omega)
  have w8 : IntKind.u64.wrap (8 * (k : Int)) = (x8 : Int) := by rw [IntWalk.u64_in _ (by omega)]; omega
  have hfb : fromBe (beB x8 8) = x8 := by rw [fromBe_beB _ _ (by omega)]; exact Nat.mod_eq_of_lt hx
  obtain ⟨e, he⟩ : ∃ e, e = 1 + z := ⟨_, rfl⟩
  have he64 : e ≤ 64 := by omega
  obtain ⟨m, hm⟩ : ∃ m, m = 9 + z := ⟨_, rfl⟩
  rw [← hm] at hw
  obtain ⟨s, hs⟩ : ∃ s, s = k + m := ⟨_, rfl⟩
  rw [← hs] at hw
  have b1 : (k : Int) + (m : Int) = (s : Int) := by rw [hs]; rfl
  have b2 : (s : Int) % 64 = 0 := by omega
  have b3 : (m : Int) - 8 = (e : Int) := by omega
  have hs3 : s ≤ 3000 := by omega
  have hme : m = e + 8 := by omega
  have d3 : decide ((m : Int) < 9) = false := decide_eq_false (by omega)
  have d4 : decide ((72 : Int) < (m : Int)) = false := decide_eq_false (by omega)
  have d5 : ((0 : Int) != 0) = false := by decide
  have HZ := Lib.hid (fun j h1 h2 => pad_zero x8 z j h1 h2)
  have HT := Lib.hid (pad_tail x8 z)
  rw [← he] at HT
  have HE := Lib.hid he
  have HFB := Lib.hid hfb
  have HME := Lib.hid hme
  have hm9 : 9 ≤ m ∧ m ≤ 72 := by omega
  clear hP hz hw hx8 hs hm hfb he hme
  go_enter Try.func9, Try.ntmps9
  go_wp2_with fail
  refine (shaPad_any k w (by omega)).mono ?_
  rw [HP.out]
  rintro e_ w2 ⟨A, m', c, rfl, ho, hb2⟩
  obtain rfl : m' = m := by rw [← ho.len, HME.out, HE.out]; simp [beB_length]; omega
  have hr := ho.rd
  obtain ⟨b, o, u, rfl, hbl, -⟩ := hr.at_ 0 (by omega)
  have c0 : w2.cell? ⟨b, o + 0, none⟩ = some (.int .u8 ((128 : UInt8).toNat : Int)) := hr.cellS 0 (by omega)
  have c0' : w2.cell? ⟨b, o, none⟩ = some (.int .u8 128) := c0
  have hc := hr.2.2.1
  have hc63 := hr.c63
  have m0 : (0 : Int) < (m' : Int) := by omega
  clear c0
  go_wp2_with fail
  go_loopw [4] (fun v wr => wr = w2 ∧ ∃ j : Nat, v = .int .i64 j ∧ 1 ≤ j ∧ j ≤ e) (fun i _ => 1 + e - (intOf i).toNat)
  case atStart => exact ⟨rfl, 1, rfl, by omega, by have := HE.out; omega⟩
  case round =>
    obtain ⟨rfl, j, rfl, hj1, hj2⟩ := hrel
    have hme := HME.out
    by_cases hlt : j < e
    · have cj := hr.cellS j (by omega)
      rw [HZ.out j hj1 (by have := HE.out; omega)] at cj
      have cj' : wr.cell? ⟨b, o + j, none⟩ = some (.int .u8 0) := cj
      have hjm : (j : Int) < (m' : Int) := by omega
      have hje : decide ((j : Int) < (e : Int)) = true := decide_eq_true (by omega)
      clear cj hme
      go_wp2_with fail
      go_roundw
      case rel => exact ⟨trivial, j + 1, by go_num, by omega, by omega⟩
      case measure => simp [intOf]; omega
    · obtain rfl : j = e := by omega
      have a3 : (m' : Int) ≤ (c : Int) := by omega
      have a4 : ¬ (c = j) := by omega
      have a5 : m' - j = 8 := by omega
      have a6 : (j : Int) ≤ (m' : Int) := by omega
      have hje : decide ((j : Int) < (j : Int)) = false := decide_eq_false (by omega)
      have rc := hr.cutS j 8 hme (by omega)
      rw [HT.out] at rc
      clear hme
      go_wp2_with fail
      refine (refFromBe_any _ _ _ _ _ rc).mono ?_
      rintro e_ w9 ⟨rfl, rfl⟩
      rw [HFB.out]
      go_wp2_with (go_at_call 28; refine (heads03 _).mono ?_; rintro e_ w1 ⟨rfl, hb1⟩)
      go_ret
      exact ⟨rfl, below_then hb2 hb1⟩
theorem shaWhole_law (n : Int) (w : World) (hn : -9223372036854775808 ≤ n ∧ n ≤ 9223372036854775807) : Calls Try.prog 9 #[.int .i64 n] w (RetV w (.bool true)) := by
  by_cases h : 0 ≤ n ∧ n ≤ 2000
  · obtain ⟨k, rfl⟩ : ∃ k : Nat, n = (k : Int) := ⟨n.toNat, by omega⟩
    exact shaWhole_main k w (by omega)
  · by_cases h0 : n < 0
    · have d1 : decide (n < 0) = true := decide_eq_true h0
      go_enter Try.func9, Try.ntmps9
      go_wp2_with (go_at_call 28; refine (heads03 _).mono ?_; rintro e w1 ⟨rfl, hb1⟩)
      go_ret
      exact ⟨rfl, hb1⟩
    · have d1 : decide (n < 0) = false := decide_eq_false h0
      have d2 : decide ((2000 : Int) < n) = true := decide_eq_true (by omega)
      go_enter Try.func9, Try.ntmps9
      go_wp2_with (go_at_call 28; refine (heads03 _).mono ?_; rintro e w1 ⟨rfl, hb1⟩)
      go_ret
      exact ⟨rfl, hb1⟩
end Go.Proofs.Ytmbdfanaegadjaa
