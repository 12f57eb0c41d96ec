/-
  Plain: records.
-/
import Derived.Test.YtnfepikgbdeomaaShaMath
import Derived.Test.YtnfepikgbdeomaaCrcMath
import Derived.Test.YtnfepikgbdeomaaNumMath
namespace Go.Proofs.Ytnfepikgbdeomaa
set_option maxRecDepth 20000
set_option linter.unusedSimpArgs false
set_option linter.unusedVariables false

structure Rc where
  g : Nat
  s : Nat
  m : Nat
  t : Nat
  k : Int
  c : Nat
  b : List UInt8
  D : List UInt8
deriving DecidableEq
def Rc.ok (r : Rc) : Prop := r.g < 4294967296 ∧ r.s < 4294967296 ∧ r.m < 4294967296 ∧ r.t < 18446744073709551616 ∧ (-9223372036854775808 ≤ r.k ∧ r.k ≤ 9223372036854775807) ∧ r.c < 18446744073709551616 ∧ r.D.length = 32
def rcZ : Rc := ⟨0, 0, 0, 0, 0, 0, [], List.replicate 32 0⟩
def rcChk (k : Int) (c n : Nat) : Bool := if k = 1 then decide (c ≤ 1099511627776 ∧ n = 0) else if k = 2 then decide (c = 0 ∧ 1 ≤ n ∧ n ≤ 16) else if k = 3 then decide (c = 0 ∧ 1 ≤ n ∧ n ≤ 180) else false
def Rc.chk (r : Rc) : Bool := rcChk r.k r.c r.b.length
def rcBody (r : Rc) : List UInt8 := [80, 72, 82, 67] ++ (leB r.g 4 ++ (leB r.s 4 ++ (leB r.m 4 ++ (leB r.t 8 ++ ([UInt8.ofNat r.k.toNat] ++ ([UInt8.ofNat r.b.length] ++ (leB r.c 8 ++ (r.b ++ List.replicate (186 - r.b.length) 0))))))))
def rcL (r : Rc) : List UInt8 := crcClosed (rcBody r ++ r.D)
def rcPutL (r : Rc) : List UInt8 := if r.chk = true then rcL r else []
def rcPutE (r : Rc) : Int := if r.chk = true then 0 else 2
def rcOf (b : List UInt8) : Rc := ⟨lev ((b.drop 4).take 4), lev ((b.drop 8).take 4), lev ((b.drop 12).take 4), lev ((b.drop 16).take 8), ((b.getD 24 0).toNat : Nat), lev ((b.drop 26).take 8), (b.drop 34).take (b.getD 25 0).toNat, (b.drop 220).take 32⟩
def rcGetE (b : List UInt8) : Int :=
  if b.length ≠ 256 then 2 else if crcHolds b = false then 6 else if 180 < (b.getD 25 0).toNat then 3 else if (rcOf b).chk = true ∧ rcL (rcOf b) = b then 0 else 3
def rcGet (b : List UInt8) : Rc := if rcGetE b = 0 then rcOf b else rcZ
/-- A record made. -/
def rcMk (P : List UInt8) (r : Rc) : Rc := { r with D := shLink P (rcBody r) }
def rcFolE (P : List UInt8) (g s : Nat) (b : List UInt8) : Int :=
  if rcGetE b = 0 then (if (rcGet b).g ≠ g then 120 else if (rcGet b).s ≠ s then 121 else if (rcGet b).D ≠ shLink P (rcBody (rcGet b)) then 122 else 0) else rcGetE b
def rcFol (P : List UInt8) (g s : Nat) (b : List UInt8) : Rc := if rcFolE P g s b = 0 then rcGet b else rcZ

theorem rcChk_cases {k : Int} {c n : Nat} (h : rcChk k c n = true) : (k = 1 ∧ c ≤ 1099511627776 ∧ n = 0) ∨ (k = 2 ∧ c = 0 ∧ 1 ≤ n ∧ n ≤ 16) ∨ (k = 3 ∧ c = 0 ∧ 1 ≤ n ∧ n ≤ 180) := by
  unfold rcChk at h
  split at h
  · exact .inl ⟨by assumption, of_decide_eq_true h⟩
  · split at h
    · exact .inr (.inl ⟨by assumption, of_decide_eq_true h⟩)
    · split at h
      · exact .inr (.inr ⟨by assumption, of_decide_eq_true h⟩)
      · cases h
theorem rcChk_len {k : Int} {c n : Nat} (h : rcChk k c n = true) : n ≤ 180 ∧ 1 ≤ k ∧ k ≤ 3 ∧ c ≤ 1099511627776 := by
  rcases rcChk_cases h with h | h | h <;> omega
theorem rcBody_len (r : Rc) (h : r.b.length ≤ 186) : (rcBody r).length = 220 := by simp [rcBody, leB_length]; omega
theorem rcBody_D (r : Rc) (D : List UInt8) : rcBody { r with D := D } = rcBody r := rfl
theorem rcL_len (r : Rc) (h : r.b.length ≤ 186) (hD : r.D.length = 32) : (rcL r).length = 256 := by simp [rcL, crcClosed, rcBody_len r h, le4_length, hD]
theorem rcPutL_len (r : Rc) (hD : r.D.length = 32) : (rcPutL r).length ≤ 256 := by
  unfold rcPutL; split
  · rename_i h; rw [rcL_len _ (by have := rcChk_len h; omega) hD]; omega
  · simp
theorem rcLev (b : List UInt8) (k n : Nat) : lev ((b.drop k).take n) < 256 ^ n := by
  have h := lev_lt ((b.drop k).take n)
  exact Nat.lt_of_lt_of_le h (Nat.pow_le_pow_right (by omega) (by rw [List.length_take]; omega))
theorem rcOf_ok (b : List UInt8) (h : b.length = 256) : (rcOf b).ok := by
  have := (b.getD 24 0).toNat_lt
  refine ⟨rcLev b 4 4, rcLev b 8 4, rcLev b 12 4, rcLev b 16 8, ⟨by simp only [rcOf]; omega, by simp only [rcOf]; omega⟩, rcLev b 26 8, by simp [rcOf, h]⟩
theorem rcOf_blen (b : List UInt8) (h : b.length = 256) (hn : (b.getD 25 0).toNat ≤ 180) : (rcOf b).b.length = (b.getD 25 0).toNat := by simp only [rcOf, List.length_take, List.length_drop, h]; omega
theorem rcZ_ok : rcZ.ok := by refine ⟨by decide, by decide, by decide, by decide, ⟨by decide, by decide⟩, by decide, rfl⟩
theorem rcOf_put (r : Rc) (h : r.ok) (hc : r.chk = true) : rcOf (rcL r) = r := by
  obtain ⟨hb, hk1, hk3, hcc⟩ := rcChk_len hc
  obtain ⟨g, s, m, t, k, c, b, D⟩ := r
  obtain ⟨hg, hs, hm, ht, -, hc8, hD⟩ := h
  simp only at hb hk1 hk3 hcc hg hs hm ht hc8 hD
  obtain ⟨k, rfl⟩ : ∃ j : Nat, k = (j : Int) := ⟨k.toNat, by omega⟩
  obtain ⟨E, hE⟩ : ∃ E, rcL ⟨g, s, m, t, k, c, b, D⟩ = E := ⟨_, rfl⟩
  obtain ⟨L, hL⟩ : ∃ L, le4 (crcOf (rcBody ⟨g, s, m, t, k, c, b, D⟩ ++ D)) = L := ⟨_, rfl⟩
  obtain ⟨Z, hZ⟩ : ∃ Z, List.replicate (186 - b.length) (0 : UInt8) = Z := ⟨_, rfl⟩
  have hZl : Z.length = 186 - b.length := by rw [← hZ]; simp
  have e0 : E = [80, 72, 82, 67] ++ (leB g 4 ++ (leB s 4 ++ (leB m 4 ++ (leB t 8 ++ ([UInt8.ofNat k] ++ ([UInt8.ofNat b.length] ++ (leB c 8 ++ (b ++ (Z ++ (D ++ L)))))))))) := by
    rw [← hE]; unfold rcL crcClosed; rw [hL]; unfold rcBody; simp only [hZ, Int.toNat_natCast, List.append_assoc]
  rw [hE]
  have d4 : E.drop 4 = leB g 4 ++ (leB s 4 ++ (leB m 4 ++ (leB t 8 ++ ([UInt8.ofNat k] ++ ([UInt8.ofNat b.length] ++ (leB c 8 ++ (b ++ (Z ++ (D ++ L))))))))) := by rw [e0]; rfl
  have d8 : E.drop 8 = leB s 4 ++ (leB m 4 ++ (leB t 8 ++ ([UInt8.ofNat k] ++ ([UInt8.ofNat b.length] ++ (leB c 8 ++ (b ++ (Z ++ (D ++ L)))))))) := by
    rw [show 8 = 4 + 4 from rfl, ← List.drop_drop, d4]; exact List.drop_left' (by rw [leB_length])
  have d12 : E.drop 12 = leB m 4 ++ (leB t 8 ++ ([UInt8.ofNat k] ++ ([UInt8.ofNat b.length] ++ (leB c 8 ++ (b ++ (Z ++ (D ++ L))))))) := by
    rw [show 12 = 8 + 4 from rfl, ← List.drop_drop, d8]; exact List.drop_left' (by rw [leB_length])
  have d16 : E.drop 16 = leB t 8 ++ ([UInt8.ofNat k] ++ ([UInt8.ofNat b.length] ++ (leB c 8 ++ (b ++ (Z ++ (D ++ L)))))) := by
    rw [show 16 = 12 + 4 from rfl, ← List.drop_drop, d12]; exact List.drop_left' (by rw [leB_length])
  have d24 : E.drop 24 = [UInt8.ofNat k] ++ ([UInt8.ofNat b.length] ++ (leB c 8 ++ (b ++ (Z ++ (D ++ L))))) := by
    rw [show 24 = 16 + 8 from rfl, ← List.drop_drop, d16]; exact List.drop_left' (by rw [leB_length])
  have d25 : E.drop 25 = [UInt8.ofNat b.length] ++ (leB c 8 ++ (b ++ (Z ++ (D ++ L)))) := by
    rw [show 25 = 24 + 1 from rfl, ← List.drop_drop, d24]; rfl
  have d26 : E.drop 26 = leB c 8 ++ (b ++ (Z ++ (D ++ L))) := by
    rw [show 26 = 25 + 1 from rfl, ← List.drop_drop, d25]; rfl
  have d34 : E.drop 34 = b ++ (Z ++ (D ++ L)) := by
    rw [show 34 = 26 + 8 from rfl, ← List.drop_drop, d26]; exact List.drop_left' (by rw [leB_length])
  have d220 : E.drop 220 = D ++ L := by
    rw [show 220 = 34 + 186 from rfl, ← List.drop_drop, d34, ← List.append_assoc]; exact List.drop_left' (by rw [List.length_append, hZl]; omega)
  have g24 : E.getD 24 0 = UInt8.ofNat k := by
    have : (E.drop 24)[0]? = some (UInt8.ofNat k) := by rw [d24]; rfl
    rw [List.getElem?_drop] at this; simp only [Nat.add_zero] at this
    rw [List.getD, this]; rfl
  have g25 : E.getD 25 0 = UInt8.ofNat b.length := by
    have : (E.drop 25)[0]? = some (UInt8.ofNat b.length) := by rw [d25]; rfl
    rw [List.getElem?_drop] at this; simp only [Nat.add_zero] at this
    rw [List.getD, this]; rfl
  unfold rcOf
  rw [d4, d8, d12, d16, d26, d34, d220, g24, g25, List.take_left' (by rw [leB_length]), List.take_left' (by rw [leB_length]), List.take_left' (by rw [leB_length]), List.take_left' (by rw [leB_length]), List.take_left' (by rw [leB_length]), lev_leB, lev_leB, lev_leB, lev_leB, lev_leB, UInt8.toNat_ofNat', UInt8.toNat_ofNat', List.take_left' hD]
  rw [Nat.mod_eq_of_lt hg, Nat.mod_eq_of_lt hs, Nat.mod_eq_of_lt hm, Nat.mod_eq_of_lt (show t < 256 ^ 8 from ht), Nat.mod_eq_of_lt (show c < 256 ^ 8 from hc8), Nat.mod_eq_of_lt (show k < 2 ^ 8 by omega), Nat.mod_eq_of_lt (show b.length < 2 ^ 8 by omega), List.take_left' rfl]
theorem rcL_25 (r : Rc) (h : r.ok) (hc : r.chk = true) : ((rcL r).getD 25 0).toNat = r.b.length := by
  have hb := (rcChk_len hc).1
  have e : (rcL r)[25]? = some (UInt8.ofNat r.b.length) := by
    unfold rcL crcClosed
    rw [List.append_assoc, List.getElem?_append_left (by rw [rcBody_len r (by omega)]; omega)]
    rfl
  rw [List.getD, e, Option.getD_some, UInt8.toNat_ofNat', Nat.mod_eq_of_lt (by omega)]
theorem rcGet_put (r : Rc) (h : r.ok) (hc : r.chk = true) : rcGetE (rcPutL r) = 0 ∧ rcGet (rcPutL r) = r := by
  have e : rcPutL r = rcL r := by unfold rcPutL; rw [if_pos hc]
  have hb := (rcChk_len hc).1
  have e2 := rcOf_put r h hc
  have e1 : rcGetE (rcL r) = 0 := by
    unfold rcGetE
    rw [if_neg (by rw [rcL_len r (by omega) h.2.2.2.2.2.2]; simp), if_neg (by unfold rcL; rw [crcHolds_closed]; simp), if_neg (by rw [rcL_25 r h hc]; omega), e2, if_pos ⟨hc, rfl⟩]
  rw [e]
  exact ⟨e1, by unfold rcGet; rw [if_pos e1, e2]⟩
theorem rcGet_ok (b : List UInt8) (h : rcGetE b = 0) : rcGet b = rcOf b ∧ b.length = 256 ∧ crcHolds b = true ∧ (rcGet b).chk = true ∧ rcL (rcGet b) = b ∧ rcPutL (rcGet b) = b ∧ (rcGet b).ok := by
  have e : rcGet b = rcOf b := by unfold rcGet; rw [if_pos h]
  rw [e]
  unfold rcGetE at h
  split at h
  · simp at h
  · rename_i h1
    split at h
    · simp at h
    · rename_i h2
      split at h
      · simp at h
      · split at h
        · rename_i h3
          exact ⟨rfl, by simpa using h1, by simpa using h2, h3.1, h3.2, by unfold rcPutL; rw [if_pos h3.1, h3.2], rcOf_ok b (by simpa using h1)⟩
        · simp at h
theorem rcGet_okk (b : List UInt8) : (rcGet b).ok ∧ (rcGet b).b.length ≤ 180 := by
  by_cases h : rcGetE b = 0
  · obtain ⟨h1, h2, h3, h4, h5, h6, h7⟩ := rcGet_ok b h
    exact ⟨h7, (rcChk_len h4).1⟩
  · unfold rcGet; rw [if_neg h]; exact ⟨rcZ_ok, by simp [rcZ]⟩
theorem rcL_take (r : Rc) (h : r.b.length ≤ 186) : (rcL r).take 220 = rcBody r := by
  unfold rcL crcClosed
  rw [List.append_assoc]; exact List.take_left' (rcBody_len r h)
theorem rcGet_take (b : List UInt8) (h : rcGetE b = 0) : b.take 220 = rcBody (rcGet b) := by
  obtain ⟨h1, h2, h3, h4, h5, h6, h7⟩ := rcGet_ok b h
  have := rcL_take (rcGet b) (by have := (rcChk_len h4).1; omega)
  rw [h5] at this; exact this
theorem rcGetE_cases (b : List UInt8) : rcGetE b = 0 ∨ rcGetE b = 2 ∨ rcGetE b = 6 ∨ rcGetE b = 3 := by
  unfold rcGetE; split
  · simp
  · split
    · simp
    · split
      · simp
      · split <;> simp
theorem rcMk_ok (P : List UInt8) (r : Rc) (h : r.ok) : (rcMk P r).ok := by
  obtain ⟨h1, h2, h3, h4, h5, h6, h7⟩ := h
  exact ⟨h1, h2, h3, h4, h5, h6, shLink_len _ _⟩
theorem rcFol_put (P Q : List UInt8) (r : Rc) (g s : Nat) (h : r.ok) (hc : r.chk = true) :
    rcFolE Q g s (rcPutL (rcMk P r)) = if r.g ≠ g then 120 else if r.s ≠ s then 121 else if shLink P (rcBody r) ≠ shLink Q (rcBody r) then 122 else 0 := by
  obtain ⟨h1, h2⟩ := rcGet_put (rcMk P r) (rcMk_ok P r h) hc
  unfold rcFolE
  rw [if_pos h1, h2]
  rfl
end Go.Proofs.Ytnfepikgbdeomaa
