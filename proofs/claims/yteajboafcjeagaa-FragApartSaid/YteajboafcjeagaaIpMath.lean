/-
  Plain: layer 20's packets as bytes, sums.
-/
import Derived.Test.YteajboafcjeagaaNumQ
namespace Go.Proofs.Yteajboafcjeagaa
set_option maxRecDepth 20000

theorem beB_one (x : Nat) : beB x 1 = [UInt8.ofNat x] := by simp [beB, leB]
theorem beB_four (x : Nat) : beB x 4 = [UInt8.ofNat (x / 16777216), UInt8.ofNat (x / 65536), UInt8.ofNat (x / 256), UInt8.ofNat x] := by
  simp [beB, leB, List.range_succ]
/-- A sum's field, put where nothing stood. -/
theorem ck_field (as zs : List UInt8) (s : Nat) (ha : as.length % 2 = 0) (hs : s < 65536) : ckTot 0 (as ++ (beB s 2 ++ zs)) = ckTot 0 (as ++ ([0, 0] ++ zs)) + s := by
  rw [ckTot_append, ckTot_append, ckTot_append, ckTot_append, beB_two]
  simp only [ckTot, Nat.zero_add, ha, if_true, List.length_cons, List.length_nil, UInt8.toNat_ofNat']
  have h1 : ¬ (as.length + 1) % 2 = 0 := by omega
  rw [if_neg h1]
  have h2 : s / 256 % 2 ^ 8 * 256 + s % 2 ^ 8 = s := by omega
  have h3 : (0 : UInt8).toNat = 0 := rfl
  simp only [h1, if_false, h3]
  omega
theorem ck_field_zero (as zs : List UInt8) (ha : as.length % 2 = 0) : numCheck (as ++ (beB (numCheck (as ++ ([0, 0] ++ zs))) 2 ++ zs)) = 0 := by
  have hl : numCheck (as ++ ([0, 0] ++ zs)) < 65536 := by unfold numCheck; omega
  rw [numCheck_zero, ck_field as zs _ ha hl]
  unfold numCheck ckFold
  split <;> omega
/-! A packet's head: ahead of its sum, and behind it. -/
def ipA (len id pl proto : Nat) : List UInt8 := beB 69 1 ++ beB 0 1 ++ beB len 2 ++ beB id 2 ++ beB pl 2 ++ beB 64 1 ++ beB proto 1
def ipZ (src dst : Nat) : List UInt8 := beB src 4 ++ beB dst 4
theorem ipA_length (len id pl proto : Nat) : (ipA len id pl proto).length = 10 := by simp [ipA, beB_length]
theorem ipZ_length (src dst : Nat) : (ipZ src dst).length = 8 := by simp [ipZ, beB_length]
/-- Without its sum. -/
def ipH (len id pl proto src dst : Nat) : List UInt8 := ipA len id pl proto ++ ([0, 0] ++ ipZ src dst)
/-- With it. -/
def ipS (len id pl proto src dst : Nat) : List UInt8 := ipA len id pl proto ++ (beB (numCheck (ipH len id pl proto src dst)) 2 ++ ipZ src dst)
theorem ipH_length (len id pl proto src dst : Nat) : (ipH len id pl proto src dst).length = 20 := by simp [ipH, ipA_length, ipZ_length]
theorem ipS_length (len id pl proto src dst : Nat) : (ipS len id pl proto src dst).length = 20 := by simp [ipS, ipA_length, ipZ_length, beB_length]
theorem ipS_check (len id pl proto src dst : Nat) : numCheck (ipS len id pl proto src dst) = 0 := ck_field_zero _ _ (by rw [ipA_length])
theorem ipH_take (len id pl proto src dst : Nat) (ys : List UInt8) : (ipH len id pl proto src dst).take 10 ++ (ys ++ (ipH len id pl proto src dst).drop 12) = ipA len id pl proto ++ (ys ++ ipZ src dst) := by
  have h1 : (ipH len id pl proto src dst).take 10 = ipA len id pl proto := by
    unfold ipH
    rw [List.take_append_of_le_length (by rw [ipA_length]; omega), List.take_of_length_le (by rw [ipA_length]; omega)]
  have h2 : (ipH len id pl proto src dst).drop 12 = ipZ src dst := by
    unfold ipH
    rw [← List.append_assoc, List.drop_append_of_le_length (by simp [ipA_length]), List.drop_of_length_le (by simp [ipA_length]), List.nil_append]
  rw [h1, h2]
theorem ipH_seq (len id pl proto src dst : Nat) : [] ++ beB 69 1 ++ beB 0 1 ++ beB len 2 ++ beB id 2 ++ beB pl 2 ++ beB 64 1 ++ beB proto 1 ++ beB 0 2 ++ beB src 4 ++ beB dst 4 = ipH len id pl proto src dst := by
  have e : beB 0 2 = [0, 0] := rfl
  unfold ipH ipA ipZ
  rw [e]
  simp only [List.nil_append, List.append_assoc]
theorem set2_field (xs : List UInt8) (a b : UInt8) : ∀ k, k + 1 < xs.length → (xs.set k a).set (k + 1) b = xs.take k ++ ([a, b] ++ xs.drop (k + 2)) := by
  induction xs with
  | nil => intro k h; simp at h
  | cons x xs ih =>
    intro k h
    cases k with
    | zero =>
      cases xs with
      | nil => simp at h
      | cons y ys => simp
    | succ k =>
      have := ih k (by simpa using h)
      simp only [List.set_cons_succ, List.take_succ_cons, List.cons_append]
      rw [this]
      simp
theorem ipH_lit (len id pl proto src dst : Nat) : [69, 0] ++ beB len 2 ++ beB id 2 ++ beB pl 2 ++ [64, UInt8.ofNat proto, 0, 0] ++ beB src 4 ++ beB dst 4 = ipH len id pl proto src dst := by
  rw [← ipH_seq]
  have e1 : beB 69 1 = [69] := rfl
  have e2 : beB 0 1 = [0] := rfl
  have e3 : beB 64 1 = [64] := rfl
  have e4 : beB 0 2 = [0, 0] := rfl
  rw [e1, e2, e3, e4, beB_one proto]
  simp
end Go.Proofs.Yteajboafcjeagaa
