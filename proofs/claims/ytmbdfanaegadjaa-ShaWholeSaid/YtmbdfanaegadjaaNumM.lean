/-
  The plain law of decimals: what is written is read back.
-/
import Derived.Test.YtmbdfanaegadjaaNumJ
namespace Go.Proofs.Ytmbdfanaegadjaa
set_option maxRecDepth 20000
open Go.RowKit
set_option linter.unusedVariables false
set_option linter.unusedSimpArgs false

theorem dig_byte (d : Nat) (h : d < 10) : (UInt8.ofNat (48 + d)).toNat = 48 + d := by
  rw [UInt8.toNat_ofNat']; exact Nat.mod_eq_of_lt (by omega)
theorem decL_facts (u : Nat) : (decL u).all isDig = true ∧ dval (decL u) = u ∧ 0 < (decL u).length ∧ ∀ k, 0 < k → u < 10 ^ k → (decL u).length ≤ k := by
  induction u using Nat.strongRecOn with
  | _ u ih =>
    by_cases h : u < 10
    · rw [decL_small h]
      refine ⟨by simp [isDig, dig_byte u h]; omega, by show 0 * 10 + ((UInt8.ofNat (48 + u)).toNat - 48) = u; rw [dig_byte u h]; omega, by simp, fun k hk _ => by simp; omega⟩
    · obtain ⟨h1, h2, h3, h4⟩ := ih (u / 10) (by omega)
      rw [decL_big h]
      have hd := dig_byte (u % 10) (Nat.mod_lt _ (by decide))
      refine ⟨?_, ?_, by simp, fun k hk hu => ?_⟩
      · rw [List.all_append, h1]; simp [isDig, hd]; omega
      · rw [dval_snoc, h2, hd]; omega
      · obtain ⟨j, rfl⟩ : ∃ j, k = j + 1 := ⟨k - 1, by omega⟩
        have hj : 0 < j := by
          rcases Nat.eq_zero_or_pos j with rfl | hj
          · simp at hu; omega
          · exact hj
        have := h4 j hj (by rw [Nat.div_lt_iff_lt_mul (by omega), ← Nat.pow_succ]; exact hu)
        simp; omega
theorem decL_head (u : Nat) : (decL u).head? ≠ some 45 := by
  obtain ⟨h1, _, h3, _⟩ := decL_facts u
  intro e
  rw [List.all_eq_true] at h1
  have := h1 45 (List.mem_of_mem_head? e)
  revert this
  decide
theorem mag_dec (u : Nat) (h : u < 10000000000000000000) : magB (decL u) = true ∧ magV (decL u) = u := by
  obtain ⟨h1, h2, h3, h4⟩ := decL_facts u
  have hl := h4 19 (by omega) (by rw [show (10 : Nat) ^ 19 = 10000000000000000000 from rfl]; exact h)
  have hB := mag_good _ h3 (by omega) h1
  exact ⟨hB, by unfold magV; rw [if_pos hB, h2]⟩
theorem parse_dec (n : Int) (hn : -9223372036854775808 ≤ n ∧ n ≤ 9223372036854775807) : parseOk (decI n) = true ∧ parseN (decI n) = n := by
  suffices h : magB (parseRest (decI n)) = true ∧ IntKind.i64.wrap (parseU (decI n)) = n by
    have hO : parseOk (decI n) = true := by unfold parseOk; rw [h.1, h.2]; simp
    exact ⟨hO, by unfold parseN; rw [if_pos hO, h.2]⟩
  obtain ⟨hB, hV⟩ := mag_dec n.natAbs (by omega)
  by_cases h : n < 0
  · have e : decI n = 45 :: decL n.natAbs := by unfold decI; rw [if_pos h]
    rw [e]
    refine ⟨by unfold parseRest; rw [if_pos (show (45 :: decL n.natAbs).head? = some 45 from rfl)]; exact hB, ?_⟩
    have hU : parseU (45 :: decL n.natAbs) = n := by unfold parseU; rw [if_pos (show (45 :: decL n.natAbs).head? = some 45 from rfl), List.tail_cons, hV]; omega
    rw [hU]
    exact IntWalk.i64_in _ (by omega)
  · have e : decI n = decL n.natAbs := by unfold decI; rw [if_neg h]
    rw [e]
    refine ⟨by unfold parseRest; rw [if_neg (decL_head _)]; exact hB, ?_⟩
    have hU : parseU (decL n.natAbs) = n := by unfold parseU; rw [if_neg (decL_head _), hV]; omega
    rw [hU]
    exact IntWalk.i64_in _ (by omega)
/-- So nothing is read from a text but what was written. -/
theorem decI_inj {a b : Int} (ha : -9223372036854775808 ≤ a ∧ a ≤ 9223372036854775807) (hb : -9223372036854775808 ≤ b ∧ b ≤ 9223372036854775807) (h : decI a = decI b) : a = b := by
  rw [← (parse_dec a ha).2, h, (parse_dec b hb).2]
end Go.Proofs.Ytmbdfanaegadjaa
