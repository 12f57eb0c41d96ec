/-
  Plain: a header of which a byte is another one is none; sums of what is carried.
-/
import Derived.Test.YtieilgphcfiapaaIpL
import Derived.Test.YtieilgphcfiapaaIpC
import Derived.Test.YtieilgphcfiapaaNumQ
namespace Go.Proofs.Ytieilgphcfiapaa
set_option maxRecDepth 20000

theorem set_take {α : Type} (xs : List α) (k n : Nat) (v : α) : (xs.set k v).take n = (xs.take n).set k v := by
  apply List.ext_getElem?
  intro i
  by_cases hi : i < n
  · simp only [List.getElem?_take, List.getElem?_set, hi, if_true, List.length_take]
    by_cases hk : k = i
    · subst hk; simp only [if_true]
      by_cases hl : k < xs.length
      · rw [if_pos hl, if_pos (by omega)]
      · rw [if_neg hl, if_neg (by omega)]
    · rw [if_neg hk, if_neg hk]
  · rw [List.getElem?_take, if_neg hi, List.getElem?_eq_none (by simp; omega)]

/-- A header of which a byte is another one. -/
theorem pk_turned (id : Nat) (more : Bool) (place proto : Int) (src dst : Nat) (xs : List UInt8) (k : Nat) (hk : k < 20) (v : UInt8)
    (hc : ipCheck place proto xs.length = true) (hv : v ≠ (ipPutL id more place proto src dst xs).getD k 0) :
    ipGetE ((ipPutL id more place proto src dst xs).set k v) ≠ 0 := by
  intro h0
  have e1 : ipPutL id more place proto src dst xs = ipS (20 + xs.length) id (ipPl place more) proto.toNat src dst ++ xs := by unfold ipPutL; rw [if_pos hc]
  have hl := ipS_length (20 + xs.length) id (ipPl place more) proto.toNat src dst
  have hck := ipS_check (20 + xs.length) id (ipPl place more) proto.toNat src dst
  generalize ipS (20 + xs.length) id (ipPl place more) proto.toNat src dst = S at *
  rw [e1] at h0 hv
  have hg : S[k]? = some S[k] := List.getElem?_eq_getElem (by omega)
  have hv2 : v ≠ S[k] := by
    intro e; apply hv; rw [e]
    simp [List.getD, List.getElem?_append, hl, hk]
  have hf := ck_flip S k _ v hg hv2 hck
  have ht : ((S ++ xs).set k v).take 20 = S.set k v := by
    rw [set_take, List.take_append_of_le_length (by omega), List.take_of_length_le (by omega)]
  rcases get_cases ((S ++ xs).set k v) with ⟨_, h⟩ | ⟨_, _, h⟩ | ⟨⟨_, _, _, _, _, h, _⟩, _⟩
  · rw [h] at h0; exact absurd h0 (by decide)
  · exact h h0
  · rw [ht] at h; exact hf h

theorem ipPs_even (src dst p n : Nat) : (ipPs src dst p n).length % 2 = 0 := by rw [ipPs_length]

/-- Bytes of an even number with their sum behind them. -/
theorem ip_sealed (src dst : Nat) (proto : Int) (xs : List UInt8) (hx : xs.length % 2 = 0) :
    ipSumN src dst proto (xs ++ beB (ipSumN src dst proto (xs ++ [0, 0])) 2) = 0 := by
  unfold ipSumN
  have e : (xs ++ beB (numCheck (ipPs src dst (proto % 256).toNat (xs ++ [0, 0]).length ++ (xs ++ [0, 0]))) 2).length = (xs ++ [0, 0]).length := by simp [beB_length]
  rw [e]
  have := ck_field_zero (ipPs src dst (proto % 256).toNat (xs ++ [0, 0]).length ++ xs) [] (by rw [List.length_append, ipPs_length]; omega)
  simpa [List.append_assoc] using this

theorem ip_turned (src dst : Nat) (proto : Int) (xs : List UInt8) : ipSumN dst src proto xs = ipSumN src dst proto xs := by
  unfold ipSumN
  have : ∀ ys : List UInt8, ckTot 0 (ipPs dst src (proto % 256).toNat xs.length ++ ys) = ckTot 0 (ipPs src dst (proto % 256).toNat xs.length ++ ys) := by
    intro ys
    rw [ckTot_append, ckTot_append, ipPs_length, ipPs_length]
    congr 1
    simp only [ipPs, beB_four, beB_two, List.nil_append, List.cons_append, ckTot]
    simp
    omega
  unfold numCheck
  rw [this]
end Go.Proofs.Ytieilgphcfiapaa
