/-
  No cell of these rows narrows 'for every input' (looked for: loops, veiled, ifaces, maps, wideKeys, modest, calm, conditions, laid).
  DERIVED. THE GIVEN ROWS OF THIS SEAT. 6 by the template 'for every input the law returns true; each argument reads behind the call as it read before'; 0 by the template 'total and deterministic' (their statements: YtpahicfnhhhifaaGreatTotals.lean).
  GIVEN WITH THE SEED: the statements are not yours to turn. If you find one false, say at which input.
  Laid BY PROGRAM, IN A SANDBOX (cutbox-rows.mjs): the forced cells as the released guide's own fill.sh prints them over the translation 810eb5f8fd0785fd… (all of the seat's roots in one cut). By AI agents, Wed Nov 11 2026. No macro, syntax, notation, axiom, sorry.
-/
import Derived.Test.YtpahicfnhhhifaaGreatChecked
import GoSem.Claim
import GoSem.ClaimJoined
import GoSem.ClaimMapViews
import Derived.JoinedTies
import Derived.KernelRfl
namespace Go.Proofs.YtpahicfnhhhifaaGreat
/- THE CELL 'sum', in the pinned program and in every row, IS THE sha256 OF THE DUMP (.gsa) THAT YtpahicfnhhhifaaGreatProg.lean LOADS. Nothing in Lean hashes anything: it is a label: what it is worth is what the hold of that sum in a sandbox is worth. -/
noncomputable def Tryz.pinned : Pinned := { name := "ytpahicfnhhhifaagreat", sum := "810eb5f8fd0785fd8d175f224d99b5953a81d4649f821c037e2085130ad755ad", checked := Tryz.checked }
namespace Rows
def none {H : Type} : Left H := { results := [], args := [] }

/-- 'phonographlaw14.JournalGoes': WHATEVER THE INPUT: true; the input reads as it did. -/
def journalGoesSpec : ChangeSpec := { name := "journalGoes", fn := fun _ => fun
  | [d1, d2] => { results := [.lit (.bool true)], args := [d1, d2] }
  | _ => none }
def journalGoesRow : OpenClaim := { program := "ytpahicfnhhhifaagreat", sum := "810eb5f8fd0785fd8d175f224d99b5953a81d4649f821c037e2085130ad755ad", func := "phonograph/phonographlaw14.JournalGoes", spec := "journalGoes", unfollowed := true, recurses := true, apart := false }
def JournalGoesSaid : Prop := journalGoesRow.holds Tryz.pinned (OpenSpec.ofChange journalGoesSpec)

/-- ITS FALSE NEIGHBOUR: 'it returns false'. Refute it at one input. -/
def journalGoesWrong : ChangeSpec := { name := "journalGoes", fn := fun _ => fun
  | [d1, d2] => { results := [.lit (.bool false)], args := [d1, d2] }
  | _ => none }
def JournalGoesWrongFalsely : Prop := journalGoesRow.holds Tryz.pinned (OpenSpec.ofChange journalGoesWrong)

/-- 'phonographlaw14.JournalTells': WHATEVER THE INPUT: true; the input reads as it did. -/
def journalTellsSpec : ChangeSpec := { name := "journalTells", fn := fun _ => fun
  | [d1, d2, d3, d4, d5, d6, d7] => { results := [.lit (.bool true)], args := [d1, d2, d3, d4, d5, d6, d7] }
  | _ => none }
def journalTellsRow : OpenClaim := { program := "ytpahicfnhhhifaagreat", sum := "810eb5f8fd0785fd8d175f224d99b5953a81d4649f821c037e2085130ad755ad", func := "phonograph/phonographlaw14.JournalTells", spec := "journalTells", unfollowed := true, recurses := true, apart := false }
def JournalTellsSaid : Prop := journalTellsRow.holds Tryz.pinned (OpenSpec.ofChange journalTellsSpec)

/-- ITS FALSE NEIGHBOUR: 'it returns false'. Refute it at one input. -/
def journalTellsWrong : ChangeSpec := { name := "journalTells", fn := fun _ => fun
  | [d1, d2, d3, d4, d5, d6, d7] => { results := [.lit (.bool false)], args := [d1, d2, d3, d4, d5, d6, d7] }
  | _ => none }
def JournalTellsWrongFalsely : Prop := journalTellsRow.holds Tryz.pinned (OpenSpec.ofChange journalTellsWrong)

/-- 'phonographlaw14.JournalLoads': WHATEVER THE INPUT: true; the input reads as it did. -/
def journalLoadsSpec : ChangeSpec := { name := "journalLoads", fn := fun _ => fun
  | [d1, d2, d3] => { results := [.lit (.bool true)], args := [d1, d2, d3] }
  | _ => none }
def journalLoadsRow : OpenClaim := { program := "ytpahicfnhhhifaagreat", sum := "810eb5f8fd0785fd8d175f224d99b5953a81d4649f821c037e2085130ad755ad", func := "phonograph/phonographlaw14.JournalLoads", spec := "journalLoads", unfollowed := true, recurses := true, apart := false }
def JournalLoadsSaid : Prop := journalLoadsRow.holds Tryz.pinned (OpenSpec.ofChange journalLoadsSpec)

/-- ITS FALSE NEIGHBOUR: 'it returns false'. Refute it at one input. -/
def journalLoadsWrong : ChangeSpec := { name := "journalLoads", fn := fun _ => fun
  | [d1, d2, d3] => { results := [.lit (.bool false)], args := [d1, d2, d3] }
  | _ => none }
def JournalLoadsWrongFalsely : Prop := journalLoadsRow.holds Tryz.pinned (OpenSpec.ofChange journalLoadsWrong)

/-- 'phonographlaw14.JournalCrash': WHATEVER THE INPUT: true; the input reads as it did. -/
def journalCrashSpec : ChangeSpec := { name := "journalCrash", fn := fun _ => fun
  | [d1, d2, d3, d4] => { results := [.lit (.bool true)], args := [d1, d2, d3, d4] }
  | _ => none }
def journalCrashRow : OpenClaim := { program := "ytpahicfnhhhifaagreat", sum := "810eb5f8fd0785fd8d175f224d99b5953a81d4649f821c037e2085130ad755ad", func := "phonograph/phonographlaw14.JournalCrash", spec := "journalCrash", unfollowed := true, recurses := true, apart := false }
def JournalCrashSaid : Prop := journalCrashRow.holds Tryz.pinned (OpenSpec.ofChange journalCrashSpec)

/-- ITS FALSE NEIGHBOUR: 'it returns false'. Refute it at one input. -/
def journalCrashWrong : ChangeSpec := { name := "journalCrash", fn := fun _ => fun
  | [d1, d2, d3, d4] => { results := [.lit (.bool false)], args := [d1, d2, d3, d4] }
  | _ => none }
def JournalCrashWrongFalsely : Prop := journalCrashRow.holds Tryz.pinned (OpenSpec.ofChange journalCrashWrong)

/-- 'phonographlaw14.JournalBurst': WHATEVER THE INPUT: true; the input reads as it did. -/
def journalBurstSpec : ChangeSpec := { name := "journalBurst", fn := fun _ => fun
  | [d1, d2, d3, d4] => { results := [.lit (.bool true)], args := [d1, d2, d3, d4] }
  | _ => none }
def journalBurstRow : OpenClaim := { program := "ytpahicfnhhhifaagreat", sum := "810eb5f8fd0785fd8d175f224d99b5953a81d4649f821c037e2085130ad755ad", func := "phonograph/phonographlaw14.JournalBurst", spec := "journalBurst", unfollowed := true, recurses := true, apart := false }
def JournalBurstSaid : Prop := journalBurstRow.holds Tryz.pinned (OpenSpec.ofChange journalBurstSpec)

/-- ITS FALSE NEIGHBOUR: 'it returns false'. Refute it at one input. -/
def journalBurstWrong : ChangeSpec := { name := "journalBurst", fn := fun _ => fun
  | [d1, d2, d3, d4] => { results := [.lit (.bool false)], args := [d1, d2, d3, d4] }
  | _ => none }
def JournalBurstWrongFalsely : Prop := journalBurstRow.holds Tryz.pinned (OpenSpec.ofChange journalBurstWrong)

/-- 'phonographlaw14.JournalForged': WHATEVER THE INPUT: true; the input reads as it did. -/
def journalForgedSpec : ChangeSpec := { name := "journalForged", fn := fun _ => fun
  | [d1, d2] => { results := [.lit (.bool true)], args := [d1, d2] }
  | _ => none }
def journalForgedRow : OpenClaim := { program := "ytpahicfnhhhifaagreat", sum := "810eb5f8fd0785fd8d175f224d99b5953a81d4649f821c037e2085130ad755ad", func := "phonograph/phonographlaw14.JournalForged", spec := "journalForged", unfollowed := true, recurses := true, apart := false }
def JournalForgedSaid : Prop := journalForgedRow.holds Tryz.pinned (OpenSpec.ofChange journalForgedSpec)

/-- ITS FALSE NEIGHBOUR: 'it returns false'. Refute it at one input. -/
def journalForgedWrong : ChangeSpec := { name := "journalForged", fn := fun _ => fun
  | [d1, d2] => { results := [.lit (.bool false)], args := [d1, d2] }
  | _ => none }
def JournalForgedWrongFalsely : Prop := journalForgedRow.holds Tryz.pinned (OpenSpec.ofChange journalForgedWrong)

/- THE SECOND FORM. 'bulk': how many values and letters a reading holds, each counted each time it is reached (what is shared counts as often as it is met; a slice's spare places count too). A statement '..UptoSaid' is the law's where the arguments, and the package variables that the reading takes, are together of bulk at most 1048576: NARROWER than '..Said'. Prove '..Said' where nothing that the law and all that it calls make is longer than what came in: it says more and counts as full. Else prove '..UptoSaid'. A law counts once. -/
mutual
def uptoBulk {H : Type} : DataW H → Nat
  | .lit (.string bytes) => bytes.length + 1
  | .lit _ => 1
  | .nil => 1
  | .ptr d => uptoBulk d + 1
  | .slice elems spare => uptoBulkAll elems + uptoBulkAll spare + 1
  | .agg parts => uptoBulkAll parts + 1
  | .iface _ d => uptoBulk d + 1
  | .map entries => uptoBulkEntries entries + 1
  | .held _ => 1
def uptoBulkAll {H : Type} : List (DataW H) → Nat
  | [] => 0
  | d :: r => uptoBulk d + uptoBulkAll r
def uptoBulkEntries {H : Type} : List (Lit × DataW H) → Nat
  | [] => 0
  | x :: r => uptoBulkEntry x + uptoBulkEntries r
def uptoBulkEntry {H : Type} : Lit × DataW H → Nat
  | (.string bytes, d) => bytes.length + uptoBulk d + 1
  | (_, d) => uptoBulk d + 1
 end
def uptoSmall : (H : Type) → List (DataW H) → Bool := fun _ ds => decide (uptoBulkAll ds ≤ 1048576)
def OpenSpec.upto (s : _root_.Go.ChangeSpec) : _root_.Go.OpenSpec := { _root_.Go.OpenSpec.ofChange s with cond := some uptoSmall }

/-- 'phonographlaw14.JournalGoes', WHERE WHAT IT READS IS OF BULK AT MOST 1048576: true; the input reads as it did. -/
def journalGoesUptoRow : OpenClaim := { program := "ytpahicfnhhhifaagreat", sum := "810eb5f8fd0785fd8d175f224d99b5953a81d4649f821c037e2085130ad755ad", func := "phonograph/phonographlaw14.JournalGoes", spec := "journalGoes", unfollowed := true, recurses := true, apart := false, narrowed := true }
def JournalGoesUptoSaid : Prop := journalGoesUptoRow.holds Tryz.pinned (OpenSpec.upto journalGoesSpec)

/-- 'phonographlaw14.JournalTells', WHERE WHAT IT READS IS OF BULK AT MOST 1048576: true; the input reads as it did. -/
def journalTellsUptoRow : OpenClaim := { program := "ytpahicfnhhhifaagreat", sum := "810eb5f8fd0785fd8d175f224d99b5953a81d4649f821c037e2085130ad755ad", func := "phonograph/phonographlaw14.JournalTells", spec := "journalTells", unfollowed := true, recurses := true, apart := false, narrowed := true }
def JournalTellsUptoSaid : Prop := journalTellsUptoRow.holds Tryz.pinned (OpenSpec.upto journalTellsSpec)

/-- 'phonographlaw14.JournalLoads', WHERE WHAT IT READS IS OF BULK AT MOST 1048576: true; the input reads as it did. -/
def journalLoadsUptoRow : OpenClaim := { program := "ytpahicfnhhhifaagreat", sum := "810eb5f8fd0785fd8d175f224d99b5953a81d4649f821c037e2085130ad755ad", func := "phonograph/phonographlaw14.JournalLoads", spec := "journalLoads", unfollowed := true, recurses := true, apart := false, narrowed := true }
def JournalLoadsUptoSaid : Prop := journalLoadsUptoRow.holds Tryz.pinned (OpenSpec.upto journalLoadsSpec)

/-- 'phonographlaw14.JournalCrash', WHERE WHAT IT READS IS OF BULK AT MOST 1048576: true; the input reads as it did. -/
def journalCrashUptoRow : OpenClaim := { program := "ytpahicfnhhhifaagreat", sum := "810eb5f8fd0785fd8d175f224d99b5953a81d4649f821c037e2085130ad755ad", func := "phonograph/phonographlaw14.JournalCrash", spec := "journalCrash", unfollowed := true, recurses := true, apart := false, narrowed := true }
def JournalCrashUptoSaid : Prop := journalCrashUptoRow.holds Tryz.pinned (OpenSpec.upto journalCrashSpec)

/-- 'phonographlaw14.JournalBurst', WHERE WHAT IT READS IS OF BULK AT MOST 1048576: true; the input reads as it did. -/
def journalBurstUptoRow : OpenClaim := { program := "ytpahicfnhhhifaagreat", sum := "810eb5f8fd0785fd8d175f224d99b5953a81d4649f821c037e2085130ad755ad", func := "phonograph/phonographlaw14.JournalBurst", spec := "journalBurst", unfollowed := true, recurses := true, apart := false, narrowed := true }
def JournalBurstUptoSaid : Prop := journalBurstUptoRow.holds Tryz.pinned (OpenSpec.upto journalBurstSpec)

/-- 'phonographlaw14.JournalForged', WHERE WHAT IT READS IS OF BULK AT MOST 1048576: true; the input reads as it did. -/
def journalForgedUptoRow : OpenClaim := { program := "ytpahicfnhhhifaagreat", sum := "810eb5f8fd0785fd8d175f224d99b5953a81d4649f821c037e2085130ad755ad", func := "phonograph/phonographlaw14.JournalForged", spec := "journalForged", unfollowed := true, recurses := true, apart := false, narrowed := true }
def JournalForgedUptoSaid : Prop := journalForgedUptoRow.holds Tryz.pinned (OpenSpec.upto journalForgedSpec)

end Rows
end Go.Proofs.YtpahicfnhhhifaaGreat
