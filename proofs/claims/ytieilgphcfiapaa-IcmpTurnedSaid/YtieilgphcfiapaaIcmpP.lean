/-
  Plain: questions, and what is answered.
-/
import Derived.Test.YtieilgphcfiapaaIcmpB
namespace Go.Proofs.Ytieilgphcfiapaa
set_option maxRecDepth 20000
set_option linter.unusedSimpArgs false

def qz (xs : List UInt8) : List UInt8 := [8, 0, 0, 0, 0, 1, 0, 2] ++ xs
def qry (xs : List UInt8) : List UInt8 := [8, 0] ++ (beB (numCheck (qz xs)) 2 ++ ([0, 1, 0, 2] ++ xs))
theorem qry_len (xs : List UInt8) : (qry xs).length = 8 + xs.length := by simp [qry, beB_length]; omega
theorem qz_eq (xs : List UInt8) : qz xs = [8, 0] ++ ([0, 0] ++ ([0, 1, 0, 2] ++ xs)) := rfl
theorem qry_ck (xs : List UInt8) : numCheck (qry xs) = 0 := by
  unfold qry
  rw [qz_eq]
  exact ck_field_zero [8, 0] ([0, 1, 0, 2] ++ xs) rfl
theorem qry_set (xs : List UInt8) (a b : UInt8) (h : [a, b] = beB (numCheck (qz xs)) 2) : ((qz xs).set 2 a).set 3 b = qry xs := by
  have e : ∀ L : List UInt8, [a, b] = L → ((qz xs).set 2 a).set 3 b = [8, 0] ++ (L ++ ([0, 1, 0, 2] ++ xs)) := by
    intro L hL
    subst hL
    rfl
  exact e _ h
theorem qry_0 (xs : List UInt8) : (qry xs).getD 0 0 = 8 := rfl
theorem qry_1 (xs : List UInt8) : (qry xs).getD 1 0 = 0 := rfl
theorem echo_qry (xs : List UInt8) (n : Nat) (hn : n = 8 + xs.length) : echoE n (qry xs) = 0 := by
  unfold echoE
  rw [if_neg (by omega), qry_ck, qry_0, qry_1, if_neg (by decide), if_neg (by decide)]
def ans (xs : List UInt8) : List UInt8 := smd ([0] ++ (qry xs).drop 1)
theorem ans_len (xs : List UInt8) : (ans xs).length = 8 + xs.length := by
  unfold ans
  have h := qry_len xs
  rw [smd_length _ (by simp [h]; omega)]
  simp [h]; omega
theorem ans_ck (xs : List UInt8) : numCheck (ans xs) = 0 := smd_check _ (by simp [qry_len]; omega)
theorem ans_0 (xs : List UInt8) : (ans xs).getD 0 0 = 0 := by
  unfold ans smd
  rfl
theorem ans_drop (xs : List UInt8) : (ans xs).drop 4 = (qry xs).drop 4 := by
  unfold ans smd
  have hl := qry_len xs
  have h1 : (([0] ++ (qry xs).drop 1).take 2).length = 2 := by rw [List.length_take]; simp [hl]; omega
  have h2 : (([0] ++ (qry xs).drop 1 : List UInt8).drop 4) = (qry xs).drop 4 := by
    simp [List.drop_drop]
  rw [List.drop_append, List.drop_of_length_le (by omega), List.nil_append, h1, List.drop_append, List.drop_of_length_le (by rw [beB_length]; omega), List.nil_append, beB_length, h2]
  rfl
theorem qry_turned (xs : List UInt8) (n k : Nat) (v : UInt8) (hn : n = 8 + xs.length) (hk : k < n) (hv : v ≠ (qry xs).getD k 0) : numCheck ((qry xs).set k v) ≠ 0 ∧ echoE n ((qry xs).set k v) = 6 := by
  have hl := qry_len xs
  have hg : (qry xs)[k]? = some (qry xs)[k] := List.getElem?_eq_getElem (by omega)
  have hf := ck_flip (qry xs) k _ v hg (by
    intro e; apply hv; rw [e]
    simp [List.getD, hg]) (qry_ck xs)
  refine ⟨hf, ?_⟩
  unfold echoE
  rw [if_neg (by omega), if_pos hf]
theorem refuse_ck (P : List UInt8) : numCheck (refuseL P 0) = 0 := smd_check _ (by simp)
theorem refuse_drop (P : List UInt8) : (refuseL P 0).drop 8 = P.take 28 := by
  show (smd ([3, 3, 0, 0, 0, 0, 0, 0] ++ P.take 28)).drop 8 = P.take 28
  unfold smd
  have e : ([3, 3, 0, 0, 0, 0, 0, 0] ++ P.take 28 : List UInt8).drop 4 = [0, 0, 0, 0] ++ P.take 28 := rfl
  have e2 : ([3, 3, 0, 0, 0, 0, 0, 0] ++ P.take 28 : List UInt8).take 2 = [3, 3] := rfl
  rw [e, e2]
  obtain ⟨S, hS⟩ : ∃ S, numCheck ([3, 3] ++ ([0, 0] ++ ([0, 0, 0, 0] ++ P.take 28))) = S := ⟨numCheck ([3, 3] ++ ([0, 0] ++ ([0, 0, 0, 0] ++ P.take 28))), rfl⟩
  rw [hS, beB_two]
  rfl
theorem refuse_len (P : List UInt8) : (refuseL P 0).length = 8 + (P.take 28).length := by
  show (smd ([3, 3, 0, 0, 0, 0, 0, 0] ++ P.take 28)).length = _
  rw [smd_length _ (by simp)]; simp; omega
end Go.Proofs.Ytieilgphcfiapaa
