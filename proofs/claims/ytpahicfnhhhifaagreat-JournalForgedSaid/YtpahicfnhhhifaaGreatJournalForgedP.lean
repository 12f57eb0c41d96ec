/-
  The statement of JournalForged, proved: whatever the input, the call returns true, and each argument reads behind the call as it read before.
-/
import Derived.WalkKit
import Derived.WalkLawsBesides
import Derived.WalkSpells
import Derived.WalkSmall
import Derived.Maps.AppendAt
import Derived.Deep.AppendLies
import Derived.Lib.Hide
import Derived.Outline
import Derived.LoopTactic
import Derived.Deep.LoopGhost
import Derived.Deep.QuietTactic
import Derived.BigQuiet
import Derived.Lib.AppendZerosOnto
import Derived.OneCell
import Derived.Laws.CopyOwn
import Derived.OwnWalk
import Derived.Lib.SlBytesConst
import Derived.Shelf.Bytes.SlEqualAll
import Derived.Test.YtpahicfnhhhifaaGreatRows
import Derived.ProofKit
import Derived.OpenShut
import Derived.ShutString
import Derived.ChangeOld
import Derived.Below
import Derived.Lib.SmallJoins
import Derived.Laws.Tables
import Derived.Deep.RegionHeld3
import Derived.Maps.Own
import Derived.Maps.Views
import Derived.Deep.SlicePairs
import Derived.Deep.Grids
import Derived.RegionTactic
import Derived.ChangeAlike
import Derived.DeepKeys
import Derived.Deep.MidRow
import Derived.ArgAppend
import Derived.RangeFuncNested
import Derived.RangeFuncBound
import Derived.RangeFuncCalls
import Derived.RangeFuncLeaves
import Derived.RangeFuncFrom
import Derived.RangeFuncWrites
import Derived.Shelf.Abstract
import Derived.Shelf.RegionOpen
import Derived.OwnWalkIn
import Derived.TacticsInMore
import Derived.LoopNIn
import Derived.LoopIn
import Derived.WalkMore
import Derived.Great.BuildSlice
import Derived.Laws.CopyRow
import Derived.Laws.IdiomCopy
import Derived.Test.YtpahicfnhhhifaaGreatGf01
import Derived.Test.YtpahicfnhhhifaaGreatGf02
import Derived.Test.YtpahicfnhhhifaaGreatGf03
import Derived.Test.YtpahicfnhhhifaaGreatGf04
import Derived.Test.YtpahicfnhhhifaaGreatGf05
import Derived.Test.YtpahicfnhhhifaaGreatGf06
import Derived.Test.YtpahicfnhhhifaaGreatGf07
import Derived.Test.YtpahicfnhhhifaaGreatGf08
import Derived.Test.YtpahicfnhhhifaaGreatGf09
import Derived.Test.YtpahicfnhhhifaaGreatGf10
import Derived.Test.YtpahicfnhhhifaaGreatGf11
import Derived.Test.YtpahicfnhhhifaaGreatGf12
import Derived.Test.YtpahicfnhhhifaaGreatGf13
import Derived.Test.YtpahicfnhhhifaaGreatGf14
import Derived.Test.YtpahicfnhhhifaaGreatGf15
import Derived.Test.YtpahicfnhhhifaaGreatGf16
import Derived.Test.YtpahicfnhhhifaaGreatGf17
import Derived.Test.YtpahicfnhhhifaaGreatGf18
import Derived.Test.YtpahicfnhhhifaaGreatGf19
import Derived.Test.YtpahicfnhhhifaaGreatGf20
import Derived.Test.YtpahicfnhhhifaaGreatGf21
import Derived.Test.YtpahicfnhhhifaaGreatGf22
import Derived.Test.YtpahicfnhhhifaaGreatGf23
import Derived.Test.YtpahicfnhhhifaaGreatGf24
import Derived.Test.YtpahicfnhhhifaaGreatGf25
import Derived.Test.YtpahicfnhhhifaaGreatGf26
import Derived.Test.YtpahicfnhhhifaaGreatGf27
namespace Go.Proofs.YtpahicfnhhhifaaGreat.journalForged
set_option maxRecDepth 20000
open Go.ChangeShapes Go.WideShapes Go.ChangeAt Go.RowKit
open Go.ChangeMaps (open_string shut_string)
set_option linter.unusedVariables false

set_option maxRecDepth 100000 in
theorem lifted (os : Os) (started : os.Started) (H : Type) (enc : TypeId × Value → H) :
    ReturnsInHanded {} Tryz.checked os 8 .any (Rows.journalForgedSpec.pre6 enc Tryz.prog Tryz.f8 Rows.journalForgedRow.domain false) (Rows.journalForgedSpec.post enc Tryz.prog Tryz.f8 false true false false) := by
  refine returnsInHanded_of_change (C := Tryz.checked) own started (by kernel_rfl) Tryz.func8
    (ChangeSpec.witness6 (enc := enc) (C := Tryz.checked) false ⟨#[], #[.agg #[.slice none 0 0, .slice none 0 0], .agg #[.slice none 0 0, .slice none 0 0]], []⟩ 8 (by kernel_rfl) (by kernel_rfl) (by kernel_rfl) (by kernel_rfl)) ?_
  intro W base args ds gs before hval0 hW hcnd _
  have hval : ∀ (j : Nat) t v, Tryz.f8.params[j]? = some t → args[j]? = some v → Value.okWide Tryz.prog W .any base t v := hval0
  have hW' := hW
  obtain ⟨p, q, hA0, hV, rfl, hfz, hnd⟩ := hW
  have hA : DataW.TrodAll enc Tryz.prog W 0 (fun _ => true) true Tryz.f8.params.toList args.toList ds p := hA0
  rw [Tryz.params8] at hA hval
  obtain ⟨v0, vs0, d0, ds0, p0, q0, hargs, rfl, rfl, h0, r0⟩ := trodAll_cons hA
  obtain ⟨v1, vs1, d1, ds1, p1, q1, rfl, rfl, rfl, h1, r1⟩ := trodAll_cons r0
  obtain ⟨rfl, rfl, rfl⟩ := trodAll_nil r1
  obtain rfl : args = #[v0, v1] := by cases args; simp_all
  obtain ⟨rfl, rfl⟩ := trodVars_none hV
  have k0 := h0
  have lt0 : ∀ x ∈ p0, x.block < W.heap.size := by obtain ⟨m, hm⟩ := k0; exact DataW.trod_lt m _ _ _ hm
  obtain ⟨S0, sn0, sc0, K0, kn0, kc0, D0, rfl, w0⟩ := open_disk (hval 0 40 v0 rfl rfl) h0
  have k1 := h1
  have lt1 : ∀ x ∈ p1, x.block < W.heap.size := by obtain ⟨m, hm⟩ := k1; exact DataW.trod_lt m _ _ _ hm
  obtain ⟨S1, sn1, sc1, K1, kn1, kc1, D1, rfl, w1⟩ := open_disk (hval 1 40 v1 rfl rfl) h1
  clear hA0 hval0
  refine (jrnForged_law S0 sn0 sc0 K0 kn0 kc0 D0 S1 sn1 sc1 K1 kn1 kc1 D1 W w0 w1).mono fun e W' ⟨he, bel⟩ => ?_
  subst he
  exact ⟨_, rfl, _, _, _, [], _, [], hW', trodAll_mk1 (shut_bool Tryz.underlying4 _), (trodAll_cons_mk (Below.trod laidOut (by kernel_rfl) (of_decide_eq_true (by kernel_rfl)) k0 bel lt0) (trodAll_cons_mk (Below.trod laidOut (by kernel_rfl) (of_decide_eq_true (by kernel_rfl)) k1 bel lt1) trodAll_mk0)), rfl, bel.frame _, fun h => by cases h⟩

theorem over : Rows.journalForgedRow.holds Tryz.pinned (OpenSpec.ofChange Rows.journalForgedSpec) :=
  OpenClaim.holds_of_wide 8 Tryz.f8 rfl rfl rfl rfl rfl rfl rfl ⟨rfl, rfl, rfl, rfl, rfl⟩ rfl rfl rfl rfl rfl (by kernel_rfl) Tryz.func8 (by kernel_rfl)
    (of_decide_eq_true (by kernel_rfl)) (by unfold Func.isWrapper; first | (rw [if_pos (by decide +kernel)]; kernel_rfl) | (rw [if_neg (by decide +kernel)]; exact ⟨rfl, rfl⟩))
    (fun os started H enc _ => lifted os started H enc)

theorem proved : Rows.JournalForgedSaid := over
#print axioms proved
end Go.Proofs.YtpahicfnhhhifaaGreat.journalForged
