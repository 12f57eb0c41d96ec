/-
  What must come at any rate (layer 2's heads), and the four laws' walks.
-/
import Derived.Test.YthaampcfkmfjcaaCrcB
namespace Go.Proofs.Ythaampcfkmfjcaa
open Go.RowKit
set_option linter.unusedVariables false
set_option linter.unusedSimpArgs false

theorem refHolds_any (A : Option Addr) (n c : Nat) (xs : List UInt8) (w : World) (hr : RdB w A n c xs) (hm : n ≤ 35184372088832) :
    Calls Try.prog 24 #[.slice A n c] w (RetV w (.bool (crcHolds xs))) := by
  by_cases h : 4 ≤ n
  · exact refHolds_long A n c xs w hr hm h
  · have e : crcHolds xs = false := by unfold crcHolds; rw [hr.2.1, decide_eq_false h, Bool.false_and]
    rw [e]
    have hd : decide ((4 : Int) ≤ (n : Int)) = false := by simp; omega
    go_enter Try.func24, Try.ntmps24
    go_wp2_with fail
    go_quiet (fail)
    go_wp2
    go_ret
    exact ⟨rfl, by simpa using below_drewN (Below.refl _ w) _⟩

theorem heads02 (w : World) : Calls Try.prog 15 #[] w (RetV w (.bool true)) := by
  have kc := kconst
  go_enter Try.func15, Try.ntmps15
  go_wp2_with fail
  refine (closed_any _ _ _ [97, 98] _ (RdB.litM w _ _ [97, 98] 2 (by rfl) rfl (by simp [maxLen])) (by omega)).mono ?_
  rintro e w1 ⟨A1, n1, c1, rfl, ho1, hb1⟩
  have hn1 : n1 = 6 := ho1.len.symm
  subst hn1
  go_wp2_with fail
  refine (crcOf_any _ _ _ [49, 50, 51, 52, 53, 54, 55, 56, 57] _ (RdB.litM w1 _ _ _ 9 (by rfl) rfl (by simp [maxLen]))).mono ?_
  rintro e w2 ⟨rfl, hb2⟩
  have e1 : crcOf [49, 50, 51, 52, 53, 54, 55, 56, 57] = 3808858755 := by decide +kernel
  rw [e1]
  go_wp2_with fail
  refine (crcOf_any _ _ _ [] _ (RdB.nilB _)).mono ?_
  rintro e w3 ⟨rfl, hb3⟩
  have e2 : crcOf [] = 0 := by decide +kernel
  rw [e2]
  go_wp2_with fail
  have B13 := below_then (bstep (below_self w1) hb2) hb3
  refine (holds_any _ _ _ (crcClosed [97, 98]) _ (ho1.rd.below B13) (by omega)).mono ?_
  rintro e w4 ⟨rfl, hb4⟩
  rw [crcHolds_closed]
  go_wp2_with fail
  refine (holds_any _ _ _ [97, 98, 99] _ (RdB.litM w4 _ _ _ 3 (by rfl) rfl (by simp [maxLen])) (by omega)).mono ?_
  rintro e w5 ⟨rfl, hb5⟩
  rw [show crcHolds [97, 98, 99] = false by decide +kernel]
  go_wp2_with fail
  refine (holds_any _ _ _ [97, 98, 99, 100, 101, 102, 103, 104] _ (RdB.litM w5 _ _ _ 8 (by rfl) rfl (by simp [maxLen])) (by omega)).mono ?_
  rintro e w6 ⟨rfl, hb6⟩
  rw [show crcHolds [97, 98, 99, 100, 101, 102, 103, 104] = false by decide +kernel]
  go_wp2
  go_ret
  exact ⟨rfl, bstep (bstep (below_then (below_then (bstep (below_self w) hb1) B13) hb4) hb5) hb6⟩

theorem crcSums_law (A : Option Addr) (n c : Nat) (xs : List UInt8) (x u : Nat) (w : World) (hr : RdB w A n c xs) (hx : x < 4294967296) (hu : u < 256) :
    Calls Try.prog 4 #[.slice A n c, .int .u32 x, .int .u8 u] w (RetV w (.bool true)) := by
  by_cases hn : 3000 < n
  · have hd : (3000 : Int) < (n : Int) := by omega
    go_enter Try.func4, Try.ntmps4
    go_wp2_with (go_at_call 15; refine (heads02 _).mono ?_; rintro e w1 ⟨rfl, hb1⟩)
    go_ret
    exact ⟨rfl, hb1⟩
  · have hd : ¬ ((3000 : Int) < (n : Int)) := by omega
    go_enter Try.func4, Try.ntmps4
    go_wp2_with fail
    refine (crcOf_any _ _ _ xs _ hr).mono ?_
    rintro e w1 ⟨rfl, hb1⟩
    go_wp2_with fail
    refine (refOf_any _ _ _ xs _ (hr.below hb1)).mono ?_
    rintro e w2 ⟨rfl, rfl⟩
    go_wp2_with fail
    refine (crcNext_any x u hx hu _).mono ?_
    rintro e w2 ⟨rfl, rfl⟩
    go_wp2_with fail
    refine (refNext_any x u hx hu _).mono ?_
    rintro e w2 ⟨rfl, rfl⟩
    go_wp2_with fail
    refine (closed_any _ _ _ xs _ (hr.below hb1) (by omega)).mono ?_
    rintro e w2 ⟨A2, n2, c2, rfl, ho2, hb2⟩
    have B2 := below_then hb1 hb2
    go_wp2_with fail
    refine (refClosed_any _ _ _ xs _ (hr.below B2) (by omega)).mono ?_
    rintro e w3 ⟨A3, n3, c3, rfl, ho3, hb3⟩
    have B3 := below_then B2 hb3
    go_wp2_with fail
    refine (bytes_any _ _ _ _ _ _ _ _ _ (ho2.rd.below hb3) ho3.rd).mono ?_
    rintro e w4 ⟨rfl, rfl⟩
    go_wp2_with fail
    refine (holds_any _ _ _ xs _ (hr.below B3) (by omega)).mono ?_
    rintro e w4 ⟨rfl, hb4⟩
    have B4 := below_then B3 hb4
    go_wp2_with fail
    refine (refHolds_any _ _ _ xs _ (hr.below B4) (by omega)).mono ?_
    rintro e w5 ⟨rfl, hb5⟩
    have B5 := below_then B4 hb5
    go_wp2_with fail
    refine (heads02 _).mono ?_
    rintro e w6 ⟨rfl, hb6⟩
    go_wp2
    go_ret
    exact ⟨rfl, below_then B5 hb6⟩
end Go.Proofs.Ythaampcfkmfjcaa
