/-
  The statement of JournalLoads, proved: whatever the input, the call returns true, and each argument reads behind the call as it read before.
-/
import Derived.WalkKit
import Derived.WalkLawsBesides
import Derived.WalkSpells
import Derived.WalkSmall
import Derived.Maps.AppendAt
import Derived.Deep.AppendLies
import Derived.Lib.Hide
import Derived.Outline
import Derived.LoopTactic
import Derived.Deep.LoopGhost
import Derived.Deep.QuietTactic
import Derived.BigQuiet
import Derived.Lib.AppendZerosOnto
import Derived.OneCell
import Derived.Laws.CopyOwn
import Derived.OwnWalk
import Derived.Lib.SlBytesConst
import Derived.Shelf.Bytes.SlEqualAll
import Derived.Test.YtpahicfnhhhifaaGreatRows
import Derived.ProofKit
import Derived.OpenShut
import Derived.ShutString
import Derived.ChangeOld
import Derived.Below
import Derived.Lib.SmallJoins
import Derived.Laws.Tables
import Derived.Deep.RegionHeld3
import Derived.Maps.Own
import Derived.Maps.Views
import Derived.Deep.SlicePairs
import Derived.Deep.Grids
import Derived.RegionTactic
import Derived.ChangeAlike
import Derived.DeepKeys
import Derived.Deep.MidRow
import Derived.ArgAppend
import Derived.RangeFuncNested
import Derived.RangeFuncBound
import Derived.RangeFuncCalls
import Derived.RangeFuncLeaves
import Derived.RangeFuncFrom
import Derived.RangeFuncWrites
import Derived.Shelf.Abstract
import Derived.Shelf.RegionOpen
import Derived.OwnWalkIn
import Derived.TacticsInMore
import Derived.LoopNIn
import Derived.LoopIn
import Derived.WalkMore
import Derived.Great.BuildSlice
import Derived.Laws.CopyRow
import Derived.Laws.IdiomCopy
import Derived.Test.YtpahicfnhhhifaaGreatGl01
import Derived.Test.YtpahicfnhhhifaaGreatGl02
import Derived.Test.YtpahicfnhhhifaaGreatGl03
import Derived.Test.YtpahicfnhhhifaaGreatGl04
import Derived.Test.YtpahicfnhhhifaaGreatGl05
import Derived.Test.YtpahicfnhhhifaaGreatGl06
import Derived.Test.YtpahicfnhhhifaaGreatGl07
import Derived.Test.YtpahicfnhhhifaaGreatGl08
import Derived.Test.YtpahicfnhhhifaaGreatGl09
import Derived.Test.YtpahicfnhhhifaaGreatGl10
import Derived.Test.YtpahicfnhhhifaaGreatGl11
import Derived.Test.YtpahicfnhhhifaaGreatGl12
import Derived.Test.YtpahicfnhhhifaaGreatGl13
import Derived.Test.YtpahicfnhhhifaaGreatGl14
import Derived.Test.YtpahicfnhhhifaaGreatGl15
import Derived.Test.YtpahicfnhhhifaaGreatGl16
import Derived.Test.YtpahicfnhhhifaaGreatGl17
import Derived.Test.YtpahicfnhhhifaaGreatGl18
import Derived.Test.YtpahicfnhhhifaaGreatGl19
import Derived.Test.YtpahicfnhhhifaaGreatGl20
import Derived.Test.YtpahicfnhhhifaaGreatGl21
import Derived.Test.YtpahicfnhhhifaaGreatGl22
import Derived.Test.YtpahicfnhhhifaaGreatGl23
import Derived.Test.YtpahicfnhhhifaaGreatGl24
import Derived.Test.YtpahicfnhhhifaaGreatGl25
import Derived.Test.YtpahicfnhhhifaaGreatGl26
import Derived.Test.YtpahicfnhhhifaaGreatGl27
import Derived.Test.YtpahicfnhhhifaaGreatGl28
import Derived.Test.YtpahicfnhhhifaaGreatGl29
import Derived.Test.YtpahicfnhhhifaaGreatGl30
import Derived.Test.YtpahicfnhhhifaaGreatGl31
namespace Go.Proofs.YtpahicfnhhhifaaGreat.journalLoads
set_option maxRecDepth 20000
open Go.ChangeShapes Go.WideShapes Go.ChangeAt Go.RowKit
open Go.ChangeMaps (open_string shut_string)
set_option linter.unusedVariables false

set_option maxRecDepth 100000 in
theorem lifted (os : Os) (started : os.Started) (H : Type) (enc : TypeId × Value → H) :
    ReturnsInHanded {} Tryz.checked os 5 .any (Rows.journalLoadsSpec.pre6 enc Tryz.prog Tryz.f5 Rows.journalLoadsRow.domain false) (Rows.journalLoadsSpec.post enc Tryz.prog Tryz.f5 false true false false) := by
  refine returnsInHanded_of_change (C := Tryz.checked) own started (by kernel_rfl) Tryz.func5
    (ChangeSpec.witness6 (enc := enc) (C := Tryz.checked) false ⟨#[], #[.agg #[.slice none 0 0, .slice none 0 0], .slice none 0 0, .int .i64 0], []⟩ 8 (by kernel_rfl) (by kernel_rfl) (by kernel_rfl) (by kernel_rfl)) ?_
  intro W base args ds gs before hval0 hW hcnd _
  have hval : ∀ (j : Nat) t v, Tryz.f5.params[j]? = some t → args[j]? = some v → Value.okWide Tryz.prog W .any base t v := hval0
  have hW' := hW
  obtain ⟨p, q, hA0, hV, rfl, hfz, hnd⟩ := hW
  have hA : DataW.TrodAll enc Tryz.prog W 0 (fun _ => true) true Tryz.f5.params.toList args.toList ds p := hA0
  rw [Tryz.params5] at hA hval
  obtain ⟨v0, vs0, d0, ds0, p0, q0, hargs, rfl, rfl, h0, r0⟩ := trodAll_cons hA
  obtain ⟨v1, vs1, d1, ds1, p1, q1, rfl, rfl, rfl, h1, r1⟩ := trodAll_cons r0
  obtain ⟨v2, vs2, d2, ds2, p2, q2, rfl, rfl, rfl, h2, r2⟩ := trodAll_cons r1
  obtain ⟨rfl, rfl, rfl⟩ := trodAll_nil r2
  obtain rfl : args = #[v0, v1, v2] := by cases args; simp_all
  obtain ⟨rfl, rfl⟩ := trodVars_none hV
  have k0 := h0
  have lt0 : ∀ x ∈ p0, x.block < W.heap.size := by obtain ⟨m, hm⟩ := k0; exact DataW.trod_lt m _ _ _ hm
  obtain ⟨S0, sn0, sc0, K0, kn0, kc0, D0, rfl, w0⟩ := open_disk (hval 0 40 v0 rfl rfl) h0
  have k1 := h1
  have lt1 : ∀ x ∈ p1, x.block < W.heap.size := by obtain ⟨m, hm⟩ := k1; exact DataW.trod_lt m _ _ _ hm
  obtain ⟨A1, n1, c1, xs1, rfl, w1⟩ := open_bytes (hval 1 47 v1 rfl rfl) h1
  have k2 := h2
  have lt2 : ∀ x ∈ p2, x.block < W.heap.size := by obtain ⟨m, hm⟩ := k2; exact DataW.trod_lt m _ _ _ hm
  obtain ⟨a2, rfl, rfl, rfl, wf2⟩ := open_int Tryz.underlying3 (hval 2 3 v2 rfl rfl) h2
  have w2 := int_i64 wf2
  clear hA0 hval0
  refine (jrnLoads_law S0 sn0 sc0 K0 kn0 kc0 D0 A1 n1 c1 xs1 a2 W w0 w1 w2).mono fun e W' ⟨he, bel⟩ => ?_
  subst he
  exact ⟨_, rfl, _, _, _, [], _, [], hW', trodAll_mk1 (shut_bool Tryz.underlying4 _), (trodAll_cons_mk (Below.trod laidOut (by kernel_rfl) (of_decide_eq_true (by kernel_rfl)) k0 bel lt0) (trodAll_cons_mk (Below.trod laidOut (by kernel_rfl) (of_decide_eq_true (by kernel_rfl)) k1 bel lt1) (trodAll_cons_mk (Below.trod laidOut (by kernel_rfl) (of_decide_eq_true (by kernel_rfl)) k2 bel lt2) trodAll_mk0))), rfl, bel.frame _, fun h => by cases h⟩

theorem over : Rows.journalLoadsRow.holds Tryz.pinned (OpenSpec.ofChange Rows.journalLoadsSpec) :=
  OpenClaim.holds_of_wide 5 Tryz.f5 rfl rfl rfl rfl rfl rfl rfl ⟨rfl, rfl, rfl, rfl, rfl⟩ rfl rfl rfl rfl rfl (by kernel_rfl) Tryz.func5 (by kernel_rfl)
    (of_decide_eq_true (by kernel_rfl)) (by unfold Func.isWrapper; first | (rw [if_pos (by decide +kernel)]; kernel_rfl) | (rw [if_neg (by decide +kernel)]; exact ⟨rfl, rfl⟩))
    (fun os started H enc _ => lifted os started H enc)

theorem proved : Rows.JournalLoadsSaid := over
#print axioms proved
end Go.Proofs.YtpahicfnhhhifaaGreat.journalLoads
