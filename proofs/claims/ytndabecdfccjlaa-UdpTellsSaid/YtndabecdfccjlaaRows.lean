/-
  No cell of these rows narrows 'for every input' (looked for: loops, veiled, ifaces, maps, wideKeys, modest, calm, conditions, laid).
  DERIVED. THE GIVEN ROWS OF THIS SEAT. 10 by the template 'for every input the law returns true; each argument reads behind the call as it read before'; 0 by the template 'total and deterministic' (their statements: YtndabecdfccjlaaTotals.lean).
  GIVEN WITH THE SEED: the statements are not yours to turn. If you find one false, say at which input.
  Laid BY PROGRAM, IN A SANDBOX (cutbox-rows.mjs): the forced cells as the released guide's own fill.sh prints them over the translation d5613f85f131c2cd… (all of the seat's roots in one cut). By AI agents, Wed Nov 11 2026. No macro, syntax, notation, axiom, sorry.
-/
import Derived.Test.YtndabecdfccjlaaChecked
import GoSem.Claim
import GoSem.ClaimJoined
import GoSem.ClaimMapViews
import Derived.JoinedTies
import Derived.KernelRfl
namespace Go.Proofs.Ytndabecdfccjlaa
/- THE CELL 'sum', in the pinned program and in every row, IS THE sha256 OF THE DUMP (.gsa) THAT YtndabecdfccjlaaProg.lean LOADS. Nothing in Lean hashes anything: it is a label: what it is worth is what the hold of that sum in a sandbox is worth. -/
noncomputable def Try.pinned : Pinned := { name := "ytndabecdfccjlaa", sum := "d5613f85f131c2cd2add4fedc3089326969ad19f941498393a06f0858fee8c75", checked := Try.checked }
namespace Rows
def none {H : Type} : Left H := { results := [], args := [] }

/-- 'phonographlaw24.SegLen': WHATEVER THE INPUT: true; the input reads as it did. -/
def segLenSpec : ChangeSpec := { name := "segLen", fn := fun _ => fun
  | [d] => { results := [.lit (.bool true)], args := [d] }
  | _ => none }
def segLenRow : OpenClaim := { program := "ytndabecdfccjlaa", sum := "d5613f85f131c2cd2add4fedc3089326969ad19f941498393a06f0858fee8c75", func := "phonograph/phonographlaw24.SegLen", spec := "segLen", unfollowed := true, recurses := true, apart := false }
def SegLenSaid : Prop := segLenRow.holds Try.pinned (OpenSpec.ofChange segLenSpec)

/-- ITS FALSE NEIGHBOUR: 'it returns false'. Refute it at one input. -/
def segLenWrong : ChangeSpec := { name := "segLen", fn := fun _ => fun
  | [d] => { results := [.lit (.bool false)], args := [d] }
  | _ => none }
def SegLenWrongFalsely : Prop := segLenRow.holds Try.pinned (OpenSpec.ofChange segLenWrong)

/-- 'phonographlaw24.SegBack': WHATEVER THE INPUT: true; the input reads as it did. -/
def segBackSpec : ChangeSpec := { name := "segBack", fn := fun _ => fun
  | [d1, d2, d3, d4, d5] => { results := [.lit (.bool true)], args := [d1, d2, d3, d4, d5] }
  | _ => none }
def segBackRow : OpenClaim := { program := "ytndabecdfccjlaa", sum := "d5613f85f131c2cd2add4fedc3089326969ad19f941498393a06f0858fee8c75", func := "phonograph/phonographlaw24.SegBack", spec := "segBack", unfollowed := true, recurses := true, apart := false }
def SegBackSaid : Prop := segBackRow.holds Try.pinned (OpenSpec.ofChange segBackSpec)

/-- ITS FALSE NEIGHBOUR: 'it returns false'. Refute it at one input. -/
def segBackWrong : ChangeSpec := { name := "segBack", fn := fun _ => fun
  | [d1, d2, d3, d4, d5] => { results := [.lit (.bool false)], args := [d1, d2, d3, d4, d5] }
  | _ => none }
def SegBackWrongFalsely : Prop := segBackRow.holds Try.pinned (OpenSpec.ofChange segBackWrong)

/-- 'phonographlaw24.SegDiff': WHATEVER THE INPUT: true; the input reads as it did. -/
def segDiffSpec : ChangeSpec := { name := "segDiff", fn := fun _ => fun
  | [d1, d2, d3] => { results := [.lit (.bool true)], args := [d1, d2, d3] }
  | _ => none }
def segDiffRow : OpenClaim := { program := "ytndabecdfccjlaa", sum := "d5613f85f131c2cd2add4fedc3089326969ad19f941498393a06f0858fee8c75", func := "phonograph/phonographlaw24.SegDiff", spec := "segDiff", unfollowed := true, recurses := true, apart := false }
def SegDiffSaid : Prop := segDiffRow.holds Try.pinned (OpenSpec.ofChange segDiffSpec)

/-- ITS FALSE NEIGHBOUR: 'it returns false'. Refute it at one input. -/
def segDiffWrong : ChangeSpec := { name := "segDiff", fn := fun _ => fun
  | [d1, d2, d3] => { results := [.lit (.bool false)], args := [d1, d2, d3] }
  | _ => none }
def SegDiffWrongFalsely : Prop := segDiffRow.holds Try.pinned (OpenSpec.ofChange segDiffWrong)

/-- 'phonographlaw23.UdpCut': WHATEVER THE INPUT: true; the input reads as it did. -/
def udpCutSpec : ChangeSpec := { name := "udpCut", fn := fun _ => fun
  | [d1, d2, d3, d4, d5, d6, d7] => { results := [.lit (.bool true)], args := [d1, d2, d3, d4, d5, d6, d7] }
  | _ => none }
def udpCutRow : OpenClaim := { program := "ytndabecdfccjlaa", sum := "d5613f85f131c2cd2add4fedc3089326969ad19f941498393a06f0858fee8c75", func := "phonograph/phonographlaw23.UdpCut", spec := "udpCut", unfollowed := true, recurses := true, apart := false }
def UdpCutSaid : Prop := udpCutRow.holds Try.pinned (OpenSpec.ofChange udpCutSpec)

/-- ITS FALSE NEIGHBOUR: 'it returns false'. Refute it at one input. -/
def udpCutWrong : ChangeSpec := { name := "udpCut", fn := fun _ => fun
  | [d1, d2, d3, d4, d5, d6, d7] => { results := [.lit (.bool false)], args := [d1, d2, d3, d4, d5, d6, d7] }
  | _ => none }
def UdpCutWrongFalsely : Prop := udpCutRow.holds Try.pinned (OpenSpec.ofChange udpCutWrong)

/-- 'phonographlaw23.UdpTells': WHATEVER THE INPUT: true; the input reads as it did. -/
def udpTellsSpec : ChangeSpec := { name := "udpTells", fn := fun _ => fun
  | [d1, d2, d3, d4, d5, d6] => { results := [.lit (.bool true)], args := [d1, d2, d3, d4, d5, d6] }
  | _ => none }
def udpTellsRow : OpenClaim := { program := "ytndabecdfccjlaa", sum := "d5613f85f131c2cd2add4fedc3089326969ad19f941498393a06f0858fee8c75", func := "phonograph/phonographlaw23.UdpTells", spec := "udpTells", unfollowed := true, recurses := true, apart := false }
def UdpTellsSaid : Prop := udpTellsRow.holds Try.pinned (OpenSpec.ofChange udpTellsSpec)

/-- ITS FALSE NEIGHBOUR: 'it returns false'. Refute it at one input. -/
def udpTellsWrong : ChangeSpec := { name := "udpTells", fn := fun _ => fun
  | [d1, d2, d3, d4, d5, d6] => { results := [.lit (.bool false)], args := [d1, d2, d3, d4, d5, d6] }
  | _ => none }
def UdpTellsWrongFalsely : Prop := udpTellsRow.holds Try.pinned (OpenSpec.ofChange udpTellsWrong)

/-- 'phonographlaw23.UdpBack': WHATEVER THE INPUT: true; the input reads as it did. -/
def udpBackSpec : ChangeSpec := { name := "udpBack", fn := fun _ => fun
  | [d1, d2, d3, d4, d5, d6, d7] => { results := [.lit (.bool true)], args := [d1, d2, d3, d4, d5, d6, d7] }
  | _ => none }
def udpBackRow : OpenClaim := { program := "ytndabecdfccjlaa", sum := "d5613f85f131c2cd2add4fedc3089326969ad19f941498393a06f0858fee8c75", func := "phonograph/phonographlaw23.UdpBack", spec := "udpBack", unfollowed := true, recurses := true, apart := false }
def UdpBackSaid : Prop := udpBackRow.holds Try.pinned (OpenSpec.ofChange udpBackSpec)

/-- ITS FALSE NEIGHBOUR: 'it returns false'. Refute it at one input. -/
def udpBackWrong : ChangeSpec := { name := "udpBack", fn := fun _ => fun
  | [d1, d2, d3, d4, d5, d6, d7] => { results := [.lit (.bool false)], args := [d1, d2, d3, d4, d5, d6, d7] }
  | _ => none }
def UdpBackWrongFalsely : Prop := udpBackRow.holds Try.pinned (OpenSpec.ofChange udpBackWrong)

/-- 'phonographlaw05.DiskSafe': WHATEVER THE INPUT: true; the input reads as it did. -/
def diskSafeSpec : ChangeSpec := { name := "diskSafe", fn := fun _ => fun
  | [d1, d2] => { results := [.lit (.bool true)], args := [d1, d2] }
  | _ => none }
def diskSafeRow : OpenClaim := { program := "ytndabecdfccjlaa", sum := "d5613f85f131c2cd2add4fedc3089326969ad19f941498393a06f0858fee8c75", func := "phonograph/phonographlaw05.DiskSafe", spec := "diskSafe", unfollowed := true, recurses := true, apart := false }
def DiskSafeSaid : Prop := diskSafeRow.holds Try.pinned (OpenSpec.ofChange diskSafeSpec)

/-- ITS FALSE NEIGHBOUR: 'it returns false'. Refute it at one input. -/
def diskSafeWrong : ChangeSpec := { name := "diskSafe", fn := fun _ => fun
  | [d1, d2] => { results := [.lit (.bool false)], args := [d1, d2] }
  | _ => none }
def DiskSafeWrongFalsely : Prop := diskSafeRow.holds Try.pinned (OpenSpec.ofChange diskSafeWrong)

/-- 'phonographlaw05.DiskTells': WHATEVER THE INPUT: true; the input reads as it did. -/
def diskTellsSpec : ChangeSpec := { name := "diskTells", fn := fun _ => fun
  | [d1, d2, d3, d4, d5, d6] => { results := [.lit (.bool true)], args := [d1, d2, d3, d4, d5, d6] }
  | _ => none }
def diskTellsRow : OpenClaim := { program := "ytndabecdfccjlaa", sum := "d5613f85f131c2cd2add4fedc3089326969ad19f941498393a06f0858fee8c75", func := "phonograph/phonographlaw05.DiskTells", spec := "diskTells", unfollowed := true, recurses := true, apart := false }
def DiskTellsSaid : Prop := diskTellsRow.holds Try.pinned (OpenSpec.ofChange diskTellsSpec)

/-- ITS FALSE NEIGHBOUR: 'it returns false'. Refute it at one input. -/
def diskTellsWrong : ChangeSpec := { name := "diskTells", fn := fun _ => fun
  | [d1, d2, d3, d4, d5, d6] => { results := [.lit (.bool false)], args := [d1, d2, d3, d4, d5, d6] }
  | _ => none }
def DiskTellsWrongFalsely : Prop := diskTellsRow.holds Try.pinned (OpenSpec.ofChange diskTellsWrong)

/-- 'phonographlaw05.DiskLast': WHATEVER THE INPUT: true; the input reads as it did. -/
def diskLastSpec : ChangeSpec := { name := "diskLast", fn := fun _ => fun
  | [d1, d2, d3] => { results := [.lit (.bool true)], args := [d1, d2, d3] }
  | _ => none }
def diskLastRow : OpenClaim := { program := "ytndabecdfccjlaa", sum := "d5613f85f131c2cd2add4fedc3089326969ad19f941498393a06f0858fee8c75", func := "phonograph/phonographlaw05.DiskLast", spec := "diskLast", unfollowed := true, recurses := true, apart := false }
def DiskLastSaid : Prop := diskLastRow.holds Try.pinned (OpenSpec.ofChange diskLastSpec)

/-- ITS FALSE NEIGHBOUR: 'it returns false'. Refute it at one input. -/
def diskLastWrong : ChangeSpec := { name := "diskLast", fn := fun _ => fun
  | [d1, d2, d3] => { results := [.lit (.bool false)], args := [d1, d2, d3] }
  | _ => none }
def DiskLastWrongFalsely : Prop := diskLastRow.holds Try.pinned (OpenSpec.ofChange diskLastWrong)

/-- 'phonographlaw05.DiskTorn': WHATEVER THE INPUT: true; the input reads as it did. -/
def diskTornSpec : ChangeSpec := { name := "diskTorn", fn := fun _ => fun
  | [d1, d2] => { results := [.lit (.bool true)], args := [d1, d2] }
  | _ => none }
def diskTornRow : OpenClaim := { program := "ytndabecdfccjlaa", sum := "d5613f85f131c2cd2add4fedc3089326969ad19f941498393a06f0858fee8c75", func := "phonograph/phonographlaw05.DiskTorn", spec := "diskTorn", unfollowed := true, recurses := true, apart := false }
def DiskTornSaid : Prop := diskTornRow.holds Try.pinned (OpenSpec.ofChange diskTornSpec)

/-- ITS FALSE NEIGHBOUR: 'it returns false'. Refute it at one input. -/
def diskTornWrong : ChangeSpec := { name := "diskTorn", fn := fun _ => fun
  | [d1, d2] => { results := [.lit (.bool false)], args := [d1, d2] }
  | _ => none }
def DiskTornWrongFalsely : Prop := diskTornRow.holds Try.pinned (OpenSpec.ofChange diskTornWrong)

/- THE SECOND FORM. 'bulk': how many values and letters a reading holds, each counted each time it is reached (what is shared counts as often as it is met; a slice's spare places count too). A statement '..UptoSaid' is the law's where the arguments, and the package variables that the reading takes, are together of bulk at most 1048576: NARROWER than '..Said'. Prove '..Said' where nothing that the law and all that it calls make is longer than what came in: it says more and counts as full. Else prove '..UptoSaid'. A law counts once. -/
mutual
def uptoBulk {H : Type} : DataW H → Nat
  | .lit (.string bytes) => bytes.length + 1
  | .lit _ => 1
  | .nil => 1
  | .ptr d => uptoBulk d + 1
  | .slice elems spare => uptoBulkAll elems + uptoBulkAll spare + 1
  | .agg parts => uptoBulkAll parts + 1
  | .iface _ d => uptoBulk d + 1
  | .map entries => uptoBulkEntries entries + 1
  | .held _ => 1
def uptoBulkAll {H : Type} : List (DataW H) → Nat
  | [] => 0
  | d :: r => uptoBulk d + uptoBulkAll r
def uptoBulkEntries {H : Type} : List (Lit × DataW H) → Nat
  | [] => 0
  | x :: r => uptoBulkEntry x + uptoBulkEntries r
def uptoBulkEntry {H : Type} : Lit × DataW H → Nat
  | (.string bytes, d) => bytes.length + uptoBulk d + 1
  | (_, d) => uptoBulk d + 1
 end
def uptoSmall : (H : Type) → List (DataW H) → Bool := fun _ ds => decide (uptoBulkAll ds ≤ 1048576)
def OpenSpec.upto (s : _root_.Go.ChangeSpec) : _root_.Go.OpenSpec := { _root_.Go.OpenSpec.ofChange s with cond := some uptoSmall }

/-- 'phonographlaw24.SegLen', WHERE WHAT IT READS IS OF BULK AT MOST 1048576: true; the input reads as it did. -/
def segLenUptoRow : OpenClaim := { program := "ytndabecdfccjlaa", sum := "d5613f85f131c2cd2add4fedc3089326969ad19f941498393a06f0858fee8c75", func := "phonograph/phonographlaw24.SegLen", spec := "segLen", unfollowed := true, recurses := true, apart := false, narrowed := true }
def SegLenUptoSaid : Prop := segLenUptoRow.holds Try.pinned (OpenSpec.upto segLenSpec)

/-- 'phonographlaw24.SegBack', WHERE WHAT IT READS IS OF BULK AT MOST 1048576: true; the input reads as it did. -/
def segBackUptoRow : OpenClaim := { program := "ytndabecdfccjlaa", sum := "d5613f85f131c2cd2add4fedc3089326969ad19f941498393a06f0858fee8c75", func := "phonograph/phonographlaw24.SegBack", spec := "segBack", unfollowed := true, recurses := true, apart := false, narrowed := true }
def SegBackUptoSaid : Prop := segBackUptoRow.holds Try.pinned (OpenSpec.upto segBackSpec)

/-- 'phonographlaw24.SegDiff', WHERE WHAT IT READS IS OF BULK AT MOST 1048576: true; the input reads as it did. -/
def segDiffUptoRow : OpenClaim := { program := "ytndabecdfccjlaa", sum := "d5613f85f131c2cd2add4fedc3089326969ad19f941498393a06f0858fee8c75", func := "phonograph/phonographlaw24.SegDiff", spec := "segDiff", unfollowed := true, recurses := true, apart := false, narrowed := true }
def SegDiffUptoSaid : Prop := segDiffUptoRow.holds Try.pinned (OpenSpec.upto segDiffSpec)

/-- 'phonographlaw23.UdpCut', WHERE WHAT IT READS IS OF BULK AT MOST 1048576: true; the input reads as it did. -/
def udpCutUptoRow : OpenClaim := { program := "ytndabecdfccjlaa", sum := "d5613f85f131c2cd2add4fedc3089326969ad19f941498393a06f0858fee8c75", func := "phonograph/phonographlaw23.UdpCut", spec := "udpCut", unfollowed := true, recurses := true, apart := false, narrowed := true }
def UdpCutUptoSaid : Prop := udpCutUptoRow.holds Try.pinned (OpenSpec.upto udpCutSpec)

/-- 'phonographlaw23.UdpTells', WHERE WHAT IT READS IS OF BULK AT MOST 1048576: true; the input reads as it did. -/
def udpTellsUptoRow : OpenClaim := { program := "ytndabecdfccjlaa", sum := "d5613f85f131c2cd2add4fedc3089326969ad19f941498393a06f0858fee8c75", func := "phonograph/phonographlaw23.UdpTells", spec := "udpTells", unfollowed := true, recurses := true, apart := false, narrowed := true }
def UdpTellsUptoSaid : Prop := udpTellsUptoRow.holds Try.pinned (OpenSpec.upto udpTellsSpec)

/-- 'phonographlaw23.UdpBack', WHERE WHAT IT READS IS OF BULK AT MOST 1048576: true; the input reads as it did. -/
def udpBackUptoRow : OpenClaim := { program := "ytndabecdfccjlaa", sum := "d5613f85f131c2cd2add4fedc3089326969ad19f941498393a06f0858fee8c75", func := "phonograph/phonographlaw23.UdpBack", spec := "udpBack", unfollowed := true, recurses := true, apart := false, narrowed := true }
def UdpBackUptoSaid : Prop := udpBackUptoRow.holds Try.pinned (OpenSpec.upto udpBackSpec)

/-- 'phonographlaw05.DiskSafe', WHERE WHAT IT READS IS OF BULK AT MOST 1048576: true; the input reads as it did. -/
def diskSafeUptoRow : OpenClaim := { program := "ytndabecdfccjlaa", sum := "d5613f85f131c2cd2add4fedc3089326969ad19f941498393a06f0858fee8c75", func := "phonograph/phonographlaw05.DiskSafe", spec := "diskSafe", unfollowed := true, recurses := true, apart := false, narrowed := true }
def DiskSafeUptoSaid : Prop := diskSafeUptoRow.holds Try.pinned (OpenSpec.upto diskSafeSpec)

/-- 'phonographlaw05.DiskTells', WHERE WHAT IT READS IS OF BULK AT MOST 1048576: true; the input reads as it did. -/
def diskTellsUptoRow : OpenClaim := { program := "ytndabecdfccjlaa", sum := "d5613f85f131c2cd2add4fedc3089326969ad19f941498393a06f0858fee8c75", func := "phonograph/phonographlaw05.DiskTells", spec := "diskTells", unfollowed := true, recurses := true, apart := false, narrowed := true }
def DiskTellsUptoSaid : Prop := diskTellsUptoRow.holds Try.pinned (OpenSpec.upto diskTellsSpec)

/-- 'phonographlaw05.DiskLast', WHERE WHAT IT READS IS OF BULK AT MOST 1048576: true; the input reads as it did. -/
def diskLastUptoRow : OpenClaim := { program := "ytndabecdfccjlaa", sum := "d5613f85f131c2cd2add4fedc3089326969ad19f941498393a06f0858fee8c75", func := "phonograph/phonographlaw05.DiskLast", spec := "diskLast", unfollowed := true, recurses := true, apart := false, narrowed := true }
def DiskLastUptoSaid : Prop := diskLastUptoRow.holds Try.pinned (OpenSpec.upto diskLastSpec)

/-- 'phonographlaw05.DiskTorn', WHERE WHAT IT READS IS OF BULK AT MOST 1048576: true; the input reads as it did. -/
def diskTornUptoRow : OpenClaim := { program := "ytndabecdfccjlaa", sum := "d5613f85f131c2cd2add4fedc3089326969ad19f941498393a06f0858fee8c75", func := "phonograph/phonographlaw05.DiskTorn", spec := "diskTorn", unfollowed := true, recurses := true, apart := false, narrowed := true }
def DiskTornUptoSaid : Prop := diskTornUptoRow.holds Try.pinned (OpenSpec.upto diskTornSpec)

end Rows
end Go.Proofs.Ytndabecdfccjlaa
