/-
  Plain: what is put is got; a byte that is another one shows.
-/
import Derived.Test.YtndabecdfccjlaaSegD
import Derived.Test.YtndabecdfccjlaaIpMath
import Derived.Test.YtndabecdfccjlaaNumQ
namespace Go.Proofs.Ytndabecdfccjlaa
set_option maxRecDepth 20000
set_option linter.unusedSimpArgs false

theorem sbev2 (k : Nat) (hk : k < 65536) : bev [UInt8.ofNat (k / 256), UInt8.ofNat k] = k := by
  simp [bev]; omega
theorem sbev4 (k : Nat) (hk : k < 4294967296) : bev [UInt8.ofNat (k / 16777216), UInt8.ofNat (k / 65536), UInt8.ofNat (k / 256), UInt8.ofNat k] = k := by
  simp [bev]; omega
theorem sbev1 (k : Nat) (hk : k < 256) : bev [UInt8.ofNat k] = k := by
  simp [bev]; omega
/-- A sum of what is carried, put in its place. -/
theorem sum_placed (src dst : Nat) (proto : Int) (ps zs : List UInt8) (ha : ps.length % 2 = 0) : ipSumN src dst proto (ps ++ (beB (ipSumN src dst proto (ps ++ ([0, 0] ++ zs))) 2 ++ zs)) = 0 := by
  unfold ipSumN
  have e : (ps ++ (beB (numCheck (ipPs src dst (proto % 256).toNat (ps ++ ([0, 0] ++ zs)).length ++ (ps ++ ([0, 0] ++ zs)))) 2 ++ zs)).length = (ps ++ ([0, 0] ++ zs)).length := by simp [beB_length]; omega
  rw [e]
  have := ck_field_zero (ipPs src dst (proto % 256).toNat (ps ++ ([0, 0] ++ zs)).length ++ ps) zs (by rw [List.length_append, ipPs_length]; omega)
  rw [List.append_assoc, List.append_assoc] at this
  exact this
theorem sum_turned (src dst : Nat) (proto : Int) (L : List UInt8) (k : Nat) (v : UInt8) (hk : k < L.length) (hv : v ≠ L.getD k 0) (h0 : ipSumN src dst proto L = 0) : ipSumN src dst proto (L.set k v) ≠ 0 := by
  unfold ipSumN at *
  rw [List.length_set]
  obtain ⟨P, hP⟩ : ∃ P, ipPs src dst (proto % 256).toNat L.length = P := ⟨_, rfl⟩
  rw [hP] at h0 ⊢
  have e : P ++ L.set k v = (P ++ L).set (P.length + k) v := by
    rw [List.set_append_right _ _ (by omega), Nat.add_sub_cancel_left]
  rw [e]
  have hg : (P ++ L)[P.length + k]? = some L[k] := by
    rw [List.getElem?_append_right (by omega), Nat.add_sub_cancel_left, List.getElem?_eq_getElem hk]
  exact ck_flip _ _ _ v hg (by intro h; apply hv; rw [h]; simp [List.getD, hk]) h0
theorem sgH_list (sp dp sq ak fl wn : Nat) : sgH sp dp sq ak fl wn = [UInt8.ofNat (sp / 256), UInt8.ofNat sp, UInt8.ofNat (dp / 256), UInt8.ofNat dp, UInt8.ofNat (sq / 16777216), UInt8.ofNat (sq / 65536), UInt8.ofNat (sq / 256), UInt8.ofNat sq, UInt8.ofNat (ak / 16777216), UInt8.ofNat (ak / 65536), UInt8.ofNat (ak / 256), UInt8.ofNat ak, 80, UInt8.ofNat fl, UInt8.ofNat (wn / 256), UInt8.ofNat wn, 0, 0, 0, 0] := by
  unfold sgH
  simp only [beB_one, beB_two, beB_four]
  rfl
theorem sgL_list (src dst sp dp sq ak fl wn : Nat) (xs : List UInt8) : ∃ s1 s2, sgL src dst (sgH sp dp sq ak fl wn ++ xs) = [UInt8.ofNat (sp / 256), UInt8.ofNat sp, UInt8.ofNat (dp / 256), UInt8.ofNat dp, UInt8.ofNat (sq / 16777216), UInt8.ofNat (sq / 65536), UInt8.ofNat (sq / 256), UInt8.ofNat sq, UInt8.ofNat (ak / 16777216), UInt8.ofNat (ak / 65536), UInt8.ofNat (ak / 256), UInt8.ofNat ak, 80, UInt8.ofNat fl, UInt8.ofNat (wn / 256), UInt8.ofNat wn, s1, s2, 0, 0] ++ xs := by
  unfold sgL
  obtain ⟨S, hS⟩ : ∃ S, ipSumN src dst 6 (sgH sp dp sq ak fl wn ++ xs) = S := ⟨ipSumN src dst 6 (sgH sp dp sq ak fl wn ++ xs), rfl⟩
  rw [hS, sgH_list, beB_two]
  exact ⟨UInt8.ofNat (S / 256), UInt8.ofNat S, rfl⟩
theorem sgL_sum (src dst : Nat) (sp dp sq ak fl wn : Nat) (xs : List UInt8) : ipSumN src dst 6 (sgL src dst (sgH sp dp sq ak fl wn ++ xs)) = 0 := by
  have e : ∀ Z : List UInt8, Z = Z.take 16 ++ ([0, 0] ++ Z.drop 18) → 18 ≤ Z.length → ipSumN src dst 6 (sgL src dst Z) = 0 := by
    intro Z hZ hl
    have h := sum_placed src dst 6 (Z.take 16) (Z.drop 18) (by rw [List.length_take]; omega)
    rw [← hZ] at h
    exact h
  refine e _ ?_ (by simp [sgH_length]; omega)
  rw [sgH_list]; rfl
theorem seg_back (src dst sp dp sq ak fl wn : Nat) (xs : List UInt8) (hq : sq < 4294967296) (ha : ak < 4294967296) (hc : sgCheck (sp : Int) (dp : Int) (fl : Int) (wn : Int) xs.length = true) :
    (sgL src dst (sgH sp dp sq ak fl wn ++ xs)).length = 20 + xs.length ∧ sgGetE src dst (sgL src dst (sgH sp dp sq ak fl wn ++ xs)) = 0 ∧ sgGet src dst (sgL src dst (sgH sp dp sq ak fl wn ++ xs)) = ⟨(sp : Int), (dp : Int), sq, ak, (fl : Int), (wn : Int), xs⟩ := by
  obtain ⟨⟨g1, g2⟩, ⟨g3, g4⟩, ⟨g5, g6⟩, ⟨g7, g8⟩, g9⟩ := (sgCheck_iff _ _ _ _ _).1 hc
  have hsum := sgL_sum src dst sp dp sq ak fl wn xs
  obtain ⟨s1, s2, hL⟩ := sgL_list src dst sp dp sq ak fl wn xs
  obtain ⟨L, hLL⟩ : ∃ L, sgL src dst (sgH sp dp sq ak fl wn ++ xs) = L := ⟨sgL src dst (sgH sp dp sq ak fl wn ++ xs), rfl⟩
  rw [hLL] at hsum hL ⊢
  have hlen : L.length = 20 + xs.length := by rw [hL]; simp; omega
  have hfrom : sgFrom L = 20 := by rw [hL]; show (80 : UInt8).toNat / 16 * 4 = 20; decide
  have hF : sgF L = ⟨(sp : Int), (dp : Int), sq, ak, (fl : Int), (wn : Int), xs⟩ := by
    unfold sgF
    rw [hfrom, hL]
    have f0 : fld ([UInt8.ofNat (sp / 256), UInt8.ofNat sp, UInt8.ofNat (dp / 256), UInt8.ofNat dp, UInt8.ofNat (sq / 16777216), UInt8.ofNat (sq / 65536), UInt8.ofNat (sq / 256), UInt8.ofNat sq, UInt8.ofNat (ak / 16777216), UInt8.ofNat (ak / 65536), UInt8.ofNat (ak / 256), UInt8.ofNat ak, 80, UInt8.ofNat fl, UInt8.ofNat (wn / 256), UInt8.ofNat wn, s1, s2, 0, 0] ++ xs) 0 2 = sp := sbev2 sp (by omega)
    have f1 : fld ([UInt8.ofNat (sp / 256), UInt8.ofNat sp, UInt8.ofNat (dp / 256), UInt8.ofNat dp, UInt8.ofNat (sq / 16777216), UInt8.ofNat (sq / 65536), UInt8.ofNat (sq / 256), UInt8.ofNat sq, UInt8.ofNat (ak / 16777216), UInt8.ofNat (ak / 65536), UInt8.ofNat (ak / 256), UInt8.ofNat ak, 80, UInt8.ofNat fl, UInt8.ofNat (wn / 256), UInt8.ofNat wn, s1, s2, 0, 0] ++ xs) 2 2 = dp := sbev2 dp (by omega)
    have f2 : fld ([UInt8.ofNat (sp / 256), UInt8.ofNat sp, UInt8.ofNat (dp / 256), UInt8.ofNat dp, UInt8.ofNat (sq / 16777216), UInt8.ofNat (sq / 65536), UInt8.ofNat (sq / 256), UInt8.ofNat sq, UInt8.ofNat (ak / 16777216), UInt8.ofNat (ak / 65536), UInt8.ofNat (ak / 256), UInt8.ofNat ak, 80, UInt8.ofNat fl, UInt8.ofNat (wn / 256), UInt8.ofNat wn, s1, s2, 0, 0] ++ xs) 4 4 = sq := sbev4 sq hq
    have f3 : fld ([UInt8.ofNat (sp / 256), UInt8.ofNat sp, UInt8.ofNat (dp / 256), UInt8.ofNat dp, UInt8.ofNat (sq / 16777216), UInt8.ofNat (sq / 65536), UInt8.ofNat (sq / 256), UInt8.ofNat sq, UInt8.ofNat (ak / 16777216), UInt8.ofNat (ak / 65536), UInt8.ofNat (ak / 256), UInt8.ofNat ak, 80, UInt8.ofNat fl, UInt8.ofNat (wn / 256), UInt8.ofNat wn, s1, s2, 0, 0] ++ xs) 8 4 = ak := sbev4 ak ha
    have f4 : fld ([UInt8.ofNat (sp / 256), UInt8.ofNat sp, UInt8.ofNat (dp / 256), UInt8.ofNat dp, UInt8.ofNat (sq / 16777216), UInt8.ofNat (sq / 65536), UInt8.ofNat (sq / 256), UInt8.ofNat sq, UInt8.ofNat (ak / 16777216), UInt8.ofNat (ak / 65536), UInt8.ofNat (ak / 256), UInt8.ofNat ak, 80, UInt8.ofNat fl, UInt8.ofNat (wn / 256), UInt8.ofNat wn, s1, s2, 0, 0] ++ xs) 13 1 = fl := sbev1 fl (by omega)
    have f5 : fld ([UInt8.ofNat (sp / 256), UInt8.ofNat sp, UInt8.ofNat (dp / 256), UInt8.ofNat dp, UInt8.ofNat (sq / 16777216), UInt8.ofNat (sq / 65536), UInt8.ofNat (sq / 256), UInt8.ofNat sq, UInt8.ofNat (ak / 16777216), UInt8.ofNat (ak / 65536), UInt8.ofNat (ak / 256), UInt8.ofNat ak, 80, UInt8.ofNat fl, UInt8.ofNat (wn / 256), UInt8.ofNat wn, s1, s2, 0, 0] ++ xs) 14 2 = wn := sbev2 wn (by omega)
    rw [f0, f1, f2, f3, f4, f5, show fl % 32 = fl by omega]
    rfl
  have hE : sgGetE src dst L = 0 := by
    unfold sgGetE
    rw [hlen, hfrom, hsum, hF, if_neg (by omega), if_neg (by omega), if_neg (by decide), if_pos hc]
  refine ⟨hlen, hE, ?_⟩
  unfold sgGet
  rw [hE, if_pos rfl, hF]
theorem seg_turned (src dst sp dp sq ak fl wn : Nat) (xs : List UInt8) (k : Nat) (v : UInt8) (hk : k < (sgL src dst (sgH sp dp sq ak fl wn ++ xs)).length) (hv : v ≠ (sgL src dst (sgH sp dp sq ak fl wn ++ xs)).getD k 0) :
    sgGetE src dst ((sgL src dst (sgH sp dp sq ak fl wn ++ xs)).set k v) ≠ 0 := by
  have hs := sum_turned src dst 6 _ k v hk hv (sgL_sum src dst sp dp sq ak fl wn xs)
  intro h0
  rcases seg_cases src dst ((sgL src dst (sgH sp dp sq ak fl wn ++ xs)).set k v) _ rfl with ⟨_, h⟩ | ⟨_, _, h⟩ | ⟨_, _, _, h⟩ | ⟨_, _, _, _, h⟩ | ⟨⟨_, _, _, h⟩, _⟩
  · rw [h] at h0; exact absurd h0 (by decide)
  · rw [h] at h0; exact absurd h0 (by decide)
  · rw [h] at h0; exact absurd h0 (by decide)
  · rw [h] at h0; exact absurd h0 (by decide)
  · exact hs h
end Go.Proofs.Ytndabecdfccjlaa
