/-
  The statement of JournalBurst, proved: whatever the input, the call returns true, and each argument reads behind the call as it read before.
-/
import Derived.WalkKit
import Derived.WalkLawsBesides
import Derived.WalkSpells
import Derived.WalkSmall
import Derived.Maps.AppendAt
import Derived.Deep.AppendLies
import Derived.Lib.Hide
import Derived.Outline
import Derived.LoopTactic
import Derived.Deep.LoopGhost
import Derived.Deep.QuietTactic
import Derived.BigQuiet
import Derived.Lib.AppendZerosOnto
import Derived.OneCell
import Derived.Laws.CopyOwn
import Derived.OwnWalk
import Derived.Lib.SlBytesConst
import Derived.Shelf.Bytes.SlEqualAll
import Derived.Test.YtpahicfnhhhifaaGreatRows
import Derived.ProofKit
import Derived.OpenShut
import Derived.ShutString
import Derived.ChangeOld
import Derived.Below
import Derived.Lib.SmallJoins
import Derived.Laws.Tables
import Derived.Deep.RegionHeld3
import Derived.Maps.Own
import Derived.Maps.Views
import Derived.Deep.SlicePairs
import Derived.Deep.Grids
import Derived.RegionTactic
import Derived.ChangeAlike
import Derived.DeepKeys
import Derived.Deep.MidRow
import Derived.ArgAppend
import Derived.RangeFuncNested
import Derived.RangeFuncBound
import Derived.RangeFuncCalls
import Derived.RangeFuncLeaves
import Derived.RangeFuncFrom
import Derived.RangeFuncWrites
import Derived.Shelf.Abstract
import Derived.Shelf.RegionOpen
import Derived.OwnWalkIn
import Derived.TacticsInMore
import Derived.LoopNIn
import Derived.LoopIn
import Derived.WalkMore
import Derived.Great.BuildSlice
import Derived.Laws.CopyRow
import Derived.Laws.IdiomCopy
import Derived.Test.YtpahicfnhhhifaaGreatGb01
import Derived.Test.YtpahicfnhhhifaaGreatGb02
import Derived.Test.YtpahicfnhhhifaaGreatGb03
import Derived.Test.YtpahicfnhhhifaaGreatGb04
import Derived.Test.YtpahicfnhhhifaaGreatGb05
import Derived.Test.YtpahicfnhhhifaaGreatGb06
import Derived.Test.YtpahicfnhhhifaaGreatGb07
import Derived.Test.YtpahicfnhhhifaaGreatGb08
import Derived.Test.YtpahicfnhhhifaaGreatGb09
import Derived.Test.YtpahicfnhhhifaaGreatGb10
import Derived.Test.YtpahicfnhhhifaaGreatGb11
import Derived.Test.YtpahicfnhhhifaaGreatGb12
import Derived.Test.YtpahicfnhhhifaaGreatGb13
import Derived.Test.YtpahicfnhhhifaaGreatGb14
import Derived.Test.YtpahicfnhhhifaaGreatGb15
import Derived.Test.YtpahicfnhhhifaaGreatGb16
import Derived.Test.YtpahicfnhhhifaaGreatGb17
import Derived.Test.YtpahicfnhhhifaaGreatGb18
import Derived.Test.YtpahicfnhhhifaaGreatGb19
import Derived.Test.YtpahicfnhhhifaaGreatGb20
import Derived.Test.YtpahicfnhhhifaaGreatGb21
import Derived.Test.YtpahicfnhhhifaaGreatGb22
import Derived.Test.YtpahicfnhhhifaaGreatGb23
import Derived.Test.YtpahicfnhhhifaaGreatGb24
import Derived.Test.YtpahicfnhhhifaaGreatGb25
import Derived.Test.YtpahicfnhhhifaaGreatGb26
import Derived.Test.YtpahicfnhhhifaaGreatGb27
import Derived.Test.YtpahicfnhhhifaaGreatGb28
import Derived.Test.YtpahicfnhhhifaaGreatGb29
import Derived.Test.YtpahicfnhhhifaaGreatGb30
import Derived.Test.YtpahicfnhhhifaaGreatGb31
namespace Go.Proofs.YtpahicfnhhhifaaGreat.journalBurst
set_option maxRecDepth 20000
open Go.ChangeShapes Go.WideShapes Go.ChangeAt Go.RowKit
open Go.ChangeMaps (open_string shut_string)
set_option linter.unusedVariables false

set_option maxRecDepth 100000 in
theorem lifted (os : Os) (started : os.Started) (H : Type) (enc : TypeId × Value → H) :
    ReturnsInHanded {} Tryz.checked os 7 .any (Rows.journalBurstSpec.pre6 enc Tryz.prog Tryz.f7 Rows.journalBurstRow.domain false) (Rows.journalBurstSpec.post enc Tryz.prog Tryz.f7 false true false false) := by
  refine returnsInHanded_of_change (C := Tryz.checked) own started (by kernel_rfl) Tryz.func7
    (ChangeSpec.witness6 (enc := enc) (C := Tryz.checked) false ⟨#[], #[.slice none 0 0, .int .i64 0, .int .i64 0, .int .u32 0], []⟩ 8 (by kernel_rfl) (by kernel_rfl) (by kernel_rfl) (by kernel_rfl)) ?_
  intro W base args ds gs before hval0 hW hcnd _
  have hval : ∀ (j : Nat) t v, Tryz.f7.params[j]? = some t → args[j]? = some v → Value.okWide Tryz.prog W .any base t v := hval0
  have hW' := hW
  obtain ⟨p, q, hA0, hV, rfl, hfz, hnd⟩ := hW
  have hA : DataW.TrodAll enc Tryz.prog W 0 (fun _ => true) true Tryz.f7.params.toList args.toList ds p := hA0
  rw [Tryz.params7] at hA hval
  obtain ⟨v0, vs0, d0, ds0, p0, q0, hargs, rfl, rfl, h0, r0⟩ := trodAll_cons hA
  obtain ⟨v1, vs1, d1, ds1, p1, q1, rfl, rfl, rfl, h1, r1⟩ := trodAll_cons r0
  obtain ⟨v2, vs2, d2, ds2, p2, q2, rfl, rfl, rfl, h2, r2⟩ := trodAll_cons r1
  obtain ⟨v3, vs3, d3, ds3, p3, q3, rfl, rfl, rfl, h3, r3⟩ := trodAll_cons r2
  obtain ⟨rfl, rfl, rfl⟩ := trodAll_nil r3
  obtain rfl : args = #[v0, v1, v2, v3] := by cases args; simp_all
  obtain ⟨rfl, rfl⟩ := trodVars_none hV
  have k0 := h0
  have lt0 : ∀ x ∈ p0, x.block < W.heap.size := by obtain ⟨m, hm⟩ := k0; exact DataW.trod_lt m _ _ _ hm
  obtain ⟨A0, n0, c0, us0, l0, rfl, w0⟩ := open_evs (hval 0 87 v0 rfl rfl) h0
  have k1 := h1
  have lt1 : ∀ x ∈ p1, x.block < W.heap.size := by obtain ⟨m, hm⟩ := k1; exact DataW.trod_lt m _ _ _ hm
  obtain ⟨a1, rfl, rfl, rfl, wf1⟩ := open_int Tryz.underlying3 (hval 1 3 v1 rfl rfl) h1
  have w1 := int_i64 wf1
  have k2 := h2
  have lt2 : ∀ x ∈ p2, x.block < W.heap.size := by obtain ⟨m, hm⟩ := k2; exact DataW.trod_lt m _ _ _ hm
  obtain ⟨a2, rfl, rfl, rfl, wf2⟩ := open_int Tryz.underlying3 (hval 2 3 v2 rfl rfl) h2
  have w2 := int_i64 wf2
  have k3 := h3
  have lt3 : ∀ x ∈ p3, x.block < W.heap.size := by obtain ⟨m, hm⟩ := k3; exact DataW.trod_lt m _ _ _ hm
  obtain ⟨i3, rfl, rfl, rfl, wf3⟩ := open_int Tryz.underlying28 (hval 3 28 v3 rfl rfl) h3
  obtain ⟨a3, rfl, w3⟩ := nat_u32 wf3
  clear hA0 hval0
  refine (jrnBurst_law A0 n0 c0 us0 l0 a1 a2 a3 W w0 w1 w2 w3).mono fun e W' ⟨he, bel⟩ => ?_
  subst he
  exact ⟨_, rfl, _, _, _, [], _, [], hW', trodAll_mk1 (shut_bool Tryz.underlying4 _), (trodAll_cons_mk (Below.trod laidOut (by kernel_rfl) (of_decide_eq_true (by kernel_rfl)) k0 bel lt0) (trodAll_cons_mk (Below.trod laidOut (by kernel_rfl) (of_decide_eq_true (by kernel_rfl)) k1 bel lt1) (trodAll_cons_mk (Below.trod laidOut (by kernel_rfl) (of_decide_eq_true (by kernel_rfl)) k2 bel lt2) (trodAll_cons_mk (Below.trod laidOut (by kernel_rfl) (of_decide_eq_true (by kernel_rfl)) k3 bel lt3) trodAll_mk0)))), rfl, bel.frame _, fun h => by cases h⟩

theorem over : Rows.journalBurstRow.holds Tryz.pinned (OpenSpec.ofChange Rows.journalBurstSpec) :=
  OpenClaim.holds_of_wide 7 Tryz.f7 rfl rfl rfl rfl rfl rfl rfl ⟨rfl, rfl, rfl, rfl, rfl⟩ rfl rfl rfl rfl rfl (by kernel_rfl) Tryz.func7 (by kernel_rfl)
    (of_decide_eq_true (by kernel_rfl)) (by unfold Func.isWrapper; first | (rw [if_pos (by decide +kernel)]; kernel_rfl) | (rw [if_neg (by decide +kernel)]; exact ⟨rfl, rfl⟩))
    (fun os started H enc _ => lifted os started H enc)

theorem proved : Rows.JournalBurstSaid := over
#print axioms proved
end Go.Proofs.YtpahicfnhhhifaaGreat.journalBurst
