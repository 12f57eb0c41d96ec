/-
 Proved here, for the statement JournalForged:
 Layer 14: what the heads of the laws come to (plain).
-/
import Derived.Test.YtpahicfnhhhifaaGreatGf19
set_option linter.unusedVariables false
set_option linter.unusedSimpArgs false
namespace Go.Proofs.YtpahicfnhhhifaaGreat
set_option maxRecDepth 20000
set_option maxHeartbeats 1000000
def hjS : List UInt8 := [115, 116, 97, 116, 101]
def hjT : List UInt8 := [116, 119, 111]
def hjB : List UInt8 := jnBase hjS
def hjR : Rc := rcMk hjB ⟨1, 0, 9, 3, 1, 5, [], List.replicate 32 0⟩
def hjb : List UInt8 := rcPutL hjR
def hj0 : Jn := ⟨1, 0, 0, 0, 0, hjB, [], 0, [], 0, suZ, 2, 0⟩
def hj1 : Jn := ⟨1, 0, 1, 0, 0, hjR.D, [(98, hjb)], 0, [], 0, suZ, 2, 0⟩
def hj2 : Jn := ⟨1, 0, 1, 0, 1, hjR.D, [], 1, [], 1, suZ, 2, 0⟩
def hj3 : Jn := ⟨1, 0, 1, 0, 1, hjR.D, [], 1, [], 0, suZ, 2, 0⟩
def hj4 : Jn := ⟨1, 0, 1, 0, 1, hjR.D, [], 2, [], 1, suZ, 2, 0⟩
def hj5 : Jn := ⟨1, 0, 1, 1, 1, hjR.D, [], 0, [], 0, suZ, 2, 0⟩
def hjW : Jn := jnSaved hj5 hjT
def hjD : Dk := jnFmt hjS 100
def hjD2 : Dk := dkWrite hjD 98 hjb
theorem hjS_len : hjS.length = 5 := rfl
theorem hjB_len : hjB.length = 32 := shOf_len _
theorem hjR_ok : hjR.ok := rcMk_ok _ _ ⟨by decide, by decide, by decide, by decide, ⟨by decide, by decide⟩, by decide, rfl⟩
theorem hjR_chk : hjR.chk = true := by rfl
theorem hjb_len : hjb.length = 256 := by unfold hjb rcPutL; rw [if_pos hjR_chk]; exact rcL_len _ (by show (0 : Nat) ≤ 186; omega) (shLink_len _ _)
theorem hj_begin : jnBeginE 0 2 = 0 ∧ jnBegin 1 0 hjB 2 = hj0 := ⟨by decide, by unfold jnBegin; rw [if_pos (by decide)]; rfl⟩
theorem hj0_chk : jnChk hj0 = true := by unfold jnChk jnCnt jbOk hj0; decide
theorem hj1_chk : jnChk hj1 = true := by unfold jnChk jnCnt jbOk hj1 jb1; simp [hjb_len]; decide
theorem hj2_chk : jnChk hj2 = true := by unfold jnChk jnCnt jbOk hj2; decide
theorem hj3_chk : jnChk hj3 = true := by unfold jnChk jnCnt jbOk hj3; decide
theorem hj4_chk : jnChk hj4 = true := by unfold jnChk jnCnt jbOk hj4; decide
theorem hj5_chk : jnChk hj5 = true := by unfold jnChk jnCnt jbOk hj5; decide
theorem hj_app : jnAppE hj0 1 5 0 = 0 ∧ jnApp hj0 9 3 1 5 [] = hj1 := by
 have e : jnAppE hj0 1 5 0 = 0 := by
  unfold jnAppE jnGoing
  rw [hj0_chk]
  simp [hj0, rcChk]
 refine ⟨e, ?_⟩
 unfold jnApp
 rw [show ([] : List UInt8).length = 0 from rfl, if_pos e]
 rfl
theorem hj_ask1 : jnAsk hj1 = (hj2, (98, hjb), false, true) := by
 unfold jnAsk
 rw [if_neg (by simp [hj1_chk])]
 rfl
theorem hj_ask2 : jnAsk hj2 = (hj2, (0, []), false, false) := by
 unfold jnAsk
 rw [if_neg (by simp [hj2_chk])]
 rfl
theorem hj_came2 : jnCameE hj2 = 0 ∧ jnCame hj2 true = hj3 := by
 have e : jnCameE hj2 = 0 := by unfold jnCameE; rw [if_neg (by simp [hj2_chk]), if_neg (by simp [hj2])]
 refine ⟨e, ?_⟩
 unfold jnCame
 rw [if_pos e]
 rfl
theorem hj_ask3 : jnAsk hj3 = (hj4, (0, []), true, true) := by
 unfold jnAsk
 rw [if_neg (by simp [hj3_chk])]
 rfl
theorem hj_came4 : jnCameE hj4 = 0 ∧ jnCame hj4 true = hj5 := by
 have e : jnCameE hj4 = 0 := by unfold jnCameE; rw [if_neg (by simp [hj4_chk]), if_neg (by simp [hj4])]
 refine ⟨e, ?_⟩
 unfold jnCame
 rw [if_pos e]
 rfl
theorem hj_save5 : jnSaveE hj5 hjT = 0 ∧ jnSave hj5 hjT = hjW := by
 have e : jnSaveE hj5 hjT = 0 := by
  unfold jnSaveE jnGoing
  rw [hj5_chk]
  simp [hj5, hjT]
 exact ⟨e, by unfold jnSave; rw [if_pos e]; rfl⟩
theorem hjW_eq : hjW = ⟨2, 1, 0, 0, 0, jnBase hjT, [], 3, [(50, jnSec hjT 0)], 0, ⟨2, 1, 3, jnBase hjT⟩, 2, 0⟩ := by rfl
theorem hjW_chk : jnChk hjW = true := by rw [hjW_eq]; unfold jnChk jnCnt jbOk jb1; simp [jnSec_len]; decide
theorem hj_saveW : jnSaveE hjW [] = 8 := by
 unfold jnSaveE jnGoing
 rw [hjW_chk]
 simp [hjW, jnSaved, hj5]
theorem hjD_all : jnFmtE hjS 100 = 0 ∧ dkOk hjD = true ∧ hjD.s.length = 100 ∧ hjD.k = [] ∧
  ∀ i : Nat, i < 100 → dkRead hjD (i : Int) = if i = 1 then suPutL 1 0 5 hjB else if 2 ≤ i ∧ i < 3 then jnSec hjS (i - 2) else List.replicate 256 0 := by
 have h := jnFmt_ok hjS 100 (by omega) (by decide)
 rw [show jnFmt hjS ((100 : Nat) : Int) = hjD from rfl, show ((hjS.length : Nat) : Int) = 5 from rfl, show jnBase hjS = hjB from rfl, show (hjS.length + 255) / 256 = 1 from rfl] at h
 exact h
theorem hjD2_all : dkWriteE hjD 98 hjb = 0 ∧ dkOk hjD2 = true ∧ hjD2.s.length = 100 ∧
  ∀ i : Nat, i < 100 → dkRead hjD2 (i : Int) = if i = 98 then hjb else if i = 1 then suPutL 1 0 5 hjB else if i = 2 then jnSec hjS 0 else List.replicate 256 0 := by
 obtain ⟨h1, h2, h3, h4, h5⟩ := hjD_all
 obtain ⟨e1, e2, e3⟩ := dkWrite_in hjD h2 98 (by omega) hjb hjb_len (by rw [h4]; simp)
 refine ⟨e1, e3, by rw [show hjD2 = _ from e2]; exact h3, fun i hi => ?_⟩
 have := dkRead_write hjD h2 98 (by omega) hjb hjb_len (by rw [h4]; simp) i (by omega)
 rw [show dkRead hjD2 (i : Int) = _ from this]
 by_cases h : i = 98
 ·rw [if_pos h.symm, if_pos h]
 ·rw [if_neg (fun e => h e.symm), if_neg h, h5 i hi]
  by_cases h1 : i = 1
  ·rw [if_pos h1, if_pos h1]
  ·rw [if_neg h1, if_neg h1]
   by_cases h2 : i = 2
   ·subst h2; rfl
   ·rw [if_neg (by omega), if_neg h2]
theorem hj_load : jnLoadE hjD2 = 0 ∧ jnLoadS hjD2 = ⟨1, 0, 5, hjB⟩ ∧ jnHad hjD2 (jnLoadS hjD2) = hjS ∧ jnLoadR hjD2 = [hjR] := by
 obtain ⟨h1, h2, h3, h4⟩ := hjD2_all
 have r0 : dkRead hjD2 0 = List.replicate 256 0 := h4 0 (by omega)
 have r1 : dkRead hjD2 1 = suPutL 1 0 5 hjB := h4 1 (by omega)
 have g0 : suGood (List.replicate 256 0) 0 = false := suGood_zeros 0
 have g1 : suGood (suPutL 1 0 5 hjB) 1 = true := by rw [suGood_put 1 0 5 hjB (by omega) (by decide) hjB_len]; rfl
 have eS : jnLoadS hjD2 = ⟨1, 0, 5, hjB⟩ := by
  unfold jnLoadS suCh
  rw [r0, r1, g0, g1, if_neg (by simp), if_pos rfl]
  exact (suGet_put 1 0 5 hjB (by omega) (by decide) hjB_len).2
 have eH : jnHad hjD2 (jnLoadS hjD2) = hjS := by
  refine jnHad_of hjD2 hjS _ (by rw [eS]; rfl) (fun i hi => ?_)
  rw [eS]
  obtain rfl : i = 0 := by rw [hjS_len] at hi; omega
  exact h4 2 (by omega)
 have eE : jnLoadE hjD2 = 0 := by
  unfold jnLoadE
  have e1 : suChE (List.replicate 256 0) (suPutL 1 0 5 hjB) = 0 := by unfold suChE; rw [if_pos (.inr g1)]
  rw [if_neg (by simp [h2]), if_neg (by omega), r0, r1, e1, if_neg (by simp), eH, eS, if_neg (by show ¬ jnBase hjS ≠ hjB; exact fun h => h rfl)]
 refine ⟨eE, eS, eH, ?_⟩
 unfold jnLoadR
 rw [eS, h3]
 have c := jnRecs_chain hjD2 1 [hjR] 2 0 hjB ⟨⟨hjR_ok, hjR_chk, rfl, rfl, rfl⟩, trivial⟩ (by simp) (fun j hj => by
  obtain rfl : j = 0 := by simpa using hj
  exact h4 98 (by omega))
 rw [show (100 - 98 : Nat) = 2 from rfl]
 refine c.trans ?_
 rw [jnRecs_end]
 ·rfl
 ·rw [show dkRead hjD2 (98 + ((0 + [hjR].length : Nat) : Int)) = List.replicate 256 0 from h4 99 (by omega)]
  exact rcFol_zeros _ _ _
end Go.Proofs.YtpahicfnhhhifaaGreat
