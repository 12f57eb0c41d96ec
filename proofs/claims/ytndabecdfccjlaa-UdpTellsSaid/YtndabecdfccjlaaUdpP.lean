/-
  Plain: what is put is got; a byte that is another one shows; what is cut is none.
-/
import Derived.Test.YtndabecdfccjlaaUdpB
namespace Go.Proofs.Ytndabecdfccjlaa
set_option maxRecDepth 20000
set_option linter.unusedSimpArgs false

theorem udB_list (f t : Nat) (xs : List UInt8) : udB f t xs = [UInt8.ofNat (f / 256), UInt8.ofNat f, UInt8.ofNat (t / 256), UInt8.ofNat t, UInt8.ofNat ((8 + xs.length) / 256), UInt8.ofNat (8 + xs.length)] ++ ([0, 0] ++ xs) := by
  unfold udB
  simp only [beB_two]
  rfl
theorem udS_bounds (src dst f t : Nat) (xs : List UInt8) : udS src dst f t xs ≠ 0 ∧ udS src dst f t xs < 65536 := by
  unfold udS
  have := ipSumN_lt src dst 17 (udB f t xs)
  split <;> omega
theorem udL_list (src dst f t : Nat) (xs : List UInt8) : udL src dst f t xs = [UInt8.ofNat (f / 256), UInt8.ofNat f, UInt8.ofNat (t / 256), UInt8.ofNat t, UInt8.ofNat ((8 + xs.length) / 256), UInt8.ofNat (8 + xs.length), UInt8.ofNat (udS src dst f t xs / 256), UInt8.ofNat (udS src dst f t xs)] ++ xs := by
  unfold udL
  obtain ⟨S, hS⟩ : ∃ S, udS src dst f t xs = S := ⟨udS src dst f t xs, rfl⟩
  rw [hS, udB_list, beB_two]
  rfl
theorem udL_len (src dst f t : Nat) (xs : List UInt8) : (udL src dst f t xs).length = 8 + xs.length := by
  rw [udL_list]; simp; omega
theorem udL_sum (src dst f t : Nat) (xs : List UInt8) : ipSumN src dst 17 (udL src dst f t xs) = 0 := by
  have e : ∀ Z : List UInt8, Z = Z.take 6 ++ ([0, 0] ++ Z.drop 8) → 8 ≤ Z.length → ∀ S : Nat, (S = if ipSumN src dst 17 Z = 0 then 65535 else ipSumN src dst 17 Z) → ipSumN src dst 17 (Z.take 6 ++ (beB S 2 ++ Z.drop 8)) = 0 := by
    intro Z hZ hl S hS
    have hS2 : S < 65536 := by rw [hS]; have := ipSumN_lt src dst 17 Z; split <;> omega
    have hlen : (Z.take 6 ++ (beB S 2 ++ Z.drop 8)).length = Z.length := by simp [beB_length]; omega
    have t6 : (Z.take 6).length = 6 := by rw [List.length_take]; omega
    unfold ipSumN at hS ⊢
    rw [hlen]
    obtain ⟨P, hP⟩ : ∃ P, ipPs src dst ((17 : Int) % 256).toNat Z.length = P := ⟨_, rfl⟩
    have hPl : P.length = 12 := by rw [← hP, ipPs_length]
    rw [hP] at hS ⊢
    have hf := ck_field (P ++ Z.take 6) (Z.drop 8) S (by rw [List.length_append, hPl, t6]) hS2
    rw [List.append_assoc, List.append_assoc, ← hZ] at hf
    rw [numCheck_zero, hf]
    by_cases h0 : numCheck (P ++ Z) = 0
    · rw [if_pos h0] at hS
      obtain ⟨h1, h2⟩ := (numCheck_zero _).1 h0
      subst hS
      omega
    · rw [if_neg h0] at hS
      have hk : S = 65535 - ckFold (ckTot 0 (P ++ Z)) := hS
      have hle := ckFold_le (ckTot 0 (P ++ Z))
      have hne : S ≠ 0 := by rw [hS]; exact h0
      unfold ckFold at hk hle
      split at hk <;> omega
  refine e _ ?_ (by rw [udB_len]; omega) _ rfl
  rw [udB_list]; rfl
theorem ubev2 (k : Nat) (hk : k < 65536) : bev [UInt8.ofNat (k / 256), UInt8.ofNat k] = k := by
  simp [bev]; omega
theorem ud_back (src dst f t : Nat) (xs rest : List UInt8) (hf : f < 65536) (ht : t < 65536) (hf0 : f ≠ 0) (ht0 : t ≠ 0) (hn : xs.length ≤ 120) :
    udGetE src dst (udL src dst f t xs ++ rest) = 0 ∧ udF src dst (udL src dst f t xs ++ rest) = f ∧ udT src dst (udL src dst f t xs ++ rest) = t ∧ udD src dst (udL src dst f t xs ++ rest) = xs ∧ fld (udL src dst f t xs) 6 2 ≠ 0 := by
  have hl := udL_len src dst f t xs
  have hsum := udL_sum src dst f t xs
  have hS := udS_bounds src dst f t xs
  have hL := udL_list src dst f t xs
  obtain ⟨P, hP⟩ : ∃ P, udL src dst f t xs = P := ⟨udL src dst f t xs, rfl⟩
  rw [hP] at hl hsum hL ⊢
  obtain ⟨S, hSS⟩ : ∃ S, udS src dst f t xs = S := ⟨udS src dst f t xs, rfl⟩
  rw [hSS] at hS hL
  have e0 : fld (P ++ rest) 0 2 = f := by rw [hL]; exact ubev2 f hf
  have e2 : fld (P ++ rest) 2 2 = t := by rw [hL]; exact ubev2 t ht
  have e4 : fld (P ++ rest) 4 2 = 8 + xs.length := by rw [hL]; exact ubev2 _ (by omega)
  have e6 : fld P 6 2 = S := by rw [hL]; exact ubev2 _ hS.2
  have et : (P ++ rest).take (8 + xs.length) = P := by rw [List.take_append_of_le_length (by omega), List.take_of_length_le (by omega)]
  have hE : udGetE src dst (P ++ rest) = 0 := by
    unfold udGetE
    rw [e0, e2, e4, et, hsum, List.length_append, hl, if_neg (by omega), if_neg (by omega), if_neg (by omega), if_neg (by simp)]
  refine ⟨hE, ?_, ?_, ?_, by rw [e6]; exact hS.1⟩
  · unfold udF; rw [if_pos hE, e0]
  · unfold udT; rw [if_pos hE, e2]
  · unfold udD; rw [if_pos hE, e4, et, hL]; rfl
theorem fld_set (xs : List UInt8) (p k : Nat) (v : UInt8) (h : k < p ∨ p + 2 ≤ k) : fld (xs.set k v) p 2 = fld xs p 2 := by
  unfold fld
  congr 1
  apply List.ext_getElem?
  intro i
  rw [List.getElem?_take, List.getElem?_take]
  by_cases hi : i < 2
  · rw [if_pos hi, if_pos hi, List.getElem?_drop, List.getElem?_drop, List.getElem?_set, if_neg (by omega)]
  · rw [if_neg hi, if_neg hi]
theorem ud_turned (src dst f t : Nat) (xs : List UInt8) (k : Nat) (v : UInt8) (hn : xs.length ≤ 120) (hk : k < 8 + xs.length) (hk2 : k < 4 ∨ 8 ≤ k) (hv : v ≠ (udL src dst f t xs).getD k 0) :
    udGetE src dst ((udL src dst f t xs).set k v) ≠ 0 := by
  have hl := udL_len src dst f t xs
  have hs := sum_turned src dst 17 _ k v (by rw [hl]; exact hk) hv (udL_sum src dst f t xs)
  have hS := udS_bounds src dst f t xs
  have hL := udL_list src dst f t xs
  obtain ⟨P, hP⟩ : ∃ P, udL src dst f t xs = P := ⟨udL src dst f t xs, rfl⟩
  rw [hP] at hl hs hL ⊢
  have e4 : fld (P.set k v) 4 2 = 8 + xs.length := by rw [fld_set _ _ _ _ (by omega), hL]; exact ubev2 _ (by omega)
  have e6 : fld (P.set k v) 6 2 = udS src dst f t xs := by rw [fld_set _ _ _ _ (by omega), hL]; exact ubev2 _ hS.2
  have et : (P.set k v).take (8 + xs.length) = P.set k v := List.take_of_length_le (by rw [List.length_set]; omega)
  unfold udGetE
  rw [e4, e6, et]
  split
  · decide
  split
  · decide
  split
  · decide
  rw [if_pos ⟨hS.1, hs⟩]; decide
theorem ud_cut (src dst f t : Nat) (xs : List UInt8) (j : Nat) (hn : xs.length ≤ 120) (hj : j < 8 + xs.length) : udGetE src dst ((udL src dst f t xs).take j) = 5 := by
  have hl := udL_len src dst f t xs
  have hL := udL_list src dst f t xs
  obtain ⟨P, hP⟩ : ∃ P, udL src dst f t xs = P := ⟨udL src dst f t xs, rfl⟩
  rw [hP] at hl hL ⊢
  have hlt : (P.take j).length = j := by rw [List.length_take]; omega
  unfold udGetE
  rw [hlt]
  by_cases h : j < 8
  · rw [if_pos h]
  · rw [if_neg h]
    have e4 : fld (P.take j) 4 2 = 8 + xs.length := by
      have : fld (P.take j) 4 2 = fld P 4 2 := by
        unfold fld
        congr 1
        apply List.ext_getElem?
        intro i
        rw [List.getElem?_take, List.getElem?_take]
        by_cases hi : i < 2
        · rw [if_pos hi, if_pos hi, List.getElem?_drop, List.getElem?_drop, List.getElem?_take, if_pos (by omega)]
        · rw [if_neg hi, if_neg hi]
      rw [this, hL]; exact ubev2 _ (by omega)
    rw [e4, if_pos (by omega)]
end Go.Proofs.Ytndabecdfccjlaa
