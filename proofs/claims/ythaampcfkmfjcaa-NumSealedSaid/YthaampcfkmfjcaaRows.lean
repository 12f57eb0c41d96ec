/-
  No cell of these rows narrows 'for every input' (looked for: loops, veiled, ifaces, maps, wideKeys, modest, calm, conditions, laid).
  DERIVED. THE GIVEN ROWS OF THIS SEAT. 12 by the template 'for every input the law returns true; each argument reads behind the call as it read before'; 0 by the template 'total and deterministic' (their statements: YthaampcfkmfjcaaTotals.lean).
  GIVEN WITH THE SEED: the statements are not yours to turn. If you find one false, say at which input.
  Laid BY PROGRAM, IN A SANDBOX (cutbox-rows.mjs): the forced cells as the released guide's own fill.sh prints them over the translation 7795c4bd936adb48… (all of the seat's roots in one cut). By AI agents, Wed Nov 11 2026. No macro, syntax, notation, axiom, sorry.
-/
import Derived.Test.YthaampcfkmfjcaaChecked
import GoSem.Claim
import GoSem.ClaimJoined
import GoSem.ClaimMapViews
import Derived.JoinedTies
import Derived.KernelRfl
namespace Go.Proofs.Ythaampcfkmfjcaa
/- THE CELL 'sum', in the pinned program and in every row, IS THE sha256 OF THE DUMP (.gsa) THAT YthaampcfkmfjcaaProg.lean LOADS. Nothing in Lean hashes anything: it is a label: what it is worth is what the hold of that sum in a sandbox is worth. -/
noncomputable def Try.pinned : Pinned := { name := "ythaampcfkmfjcaa", sum := "7795c4bd936adb4840734ce03328835cc0904cd7967deb290e40c27f988c1899", checked := Try.checked }
namespace Rows
def none {H : Type} : Left H := { results := [], args := [] }

/-- 'phonographlaw02.CrcHolds': WHATEVER THE INPUT: true; the input reads as it did. -/
def crcHoldsSpec : ChangeSpec := { name := "crcHolds", fn := fun _ => fun
  | [d] => { results := [.lit (.bool true)], args := [d] }
  | _ => none }
def crcHoldsRow : OpenClaim := { program := "ythaampcfkmfjcaa", sum := "7795c4bd936adb4840734ce03328835cc0904cd7967deb290e40c27f988c1899", func := "phonograph/phonographlaw02.CrcHolds", spec := "crcHolds", unfollowed := true, recurses := true, apart := false }
def CrcHoldsSaid : Prop := crcHoldsRow.holds Try.pinned (OpenSpec.ofChange crcHoldsSpec)

/-- ITS FALSE NEIGHBOUR: 'it returns false'. Refute it at one input. -/
def crcHoldsWrong : ChangeSpec := { name := "crcHolds", fn := fun _ => fun
  | [d] => { results := [.lit (.bool false)], args := [d] }
  | _ => none }
def CrcHoldsWrongFalsely : Prop := crcHoldsRow.holds Try.pinned (OpenSpec.ofChange crcHoldsWrong)

/-- 'phonographlaw02.CrcSums': WHATEVER THE INPUT: true; the input reads as it did. -/
def crcSumsSpec : ChangeSpec := { name := "crcSums", fn := fun _ => fun
  | [d1, d2, d3] => { results := [.lit (.bool true)], args := [d1, d2, d3] }
  | _ => none }
def crcSumsRow : OpenClaim := { program := "ythaampcfkmfjcaa", sum := "7795c4bd936adb4840734ce03328835cc0904cd7967deb290e40c27f988c1899", func := "phonograph/phonographlaw02.CrcSums", spec := "crcSums", unfollowed := true, recurses := true, apart := false }
def CrcSumsSaid : Prop := crcSumsRow.holds Try.pinned (OpenSpec.ofChange crcSumsSpec)

/-- ITS FALSE NEIGHBOUR: 'it returns false'. Refute it at one input. -/
def crcSumsWrong : ChangeSpec := { name := "crcSums", fn := fun _ => fun
  | [d1, d2, d3] => { results := [.lit (.bool false)], args := [d1, d2, d3] }
  | _ => none }
def CrcSumsWrongFalsely : Prop := crcSumsRow.holds Try.pinned (OpenSpec.ofChange crcSumsWrong)

/-- 'phonographlaw02.CrcParts': WHATEVER THE INPUT: true; the input reads as it did. -/
def crcPartsSpec : ChangeSpec := { name := "crcParts", fn := fun _ => fun
  | [d1, d2] => { results := [.lit (.bool true)], args := [d1, d2] }
  | _ => none }
def crcPartsRow : OpenClaim := { program := "ythaampcfkmfjcaa", sum := "7795c4bd936adb4840734ce03328835cc0904cd7967deb290e40c27f988c1899", func := "phonograph/phonographlaw02.CrcParts", spec := "crcParts", unfollowed := true, recurses := true, apart := false }
def CrcPartsSaid : Prop := crcPartsRow.holds Try.pinned (OpenSpec.ofChange crcPartsSpec)

/-- ITS FALSE NEIGHBOUR: 'it returns false'. Refute it at one input. -/
def crcPartsWrong : ChangeSpec := { name := "crcParts", fn := fun _ => fun
  | [d1, d2] => { results := [.lit (.bool false)], args := [d1, d2] }
  | _ => none }
def CrcPartsWrongFalsely : Prop := crcPartsRow.holds Try.pinned (OpenSpec.ofChange crcPartsWrong)

/-- 'phonographlaw02.CrcBurst': WHATEVER THE INPUT: true; the input reads as it did. -/
def crcBurstSpec : ChangeSpec := { name := "crcBurst", fn := fun _ => fun
  | [d1, d2, d3] => { results := [.lit (.bool true)], args := [d1, d2, d3] }
  | _ => none }
def crcBurstRow : OpenClaim := { program := "ythaampcfkmfjcaa", sum := "7795c4bd936adb4840734ce03328835cc0904cd7967deb290e40c27f988c1899", func := "phonograph/phonographlaw02.CrcBurst", spec := "crcBurst", unfollowed := true, recurses := true, apart := false }
def CrcBurstSaid : Prop := crcBurstRow.holds Try.pinned (OpenSpec.ofChange crcBurstSpec)

/-- ITS FALSE NEIGHBOUR: 'it returns false'. Refute it at one input. -/
def crcBurstWrong : ChangeSpec := { name := "crcBurst", fn := fun _ => fun
  | [d1, d2, d3] => { results := [.lit (.bool false)], args := [d1, d2, d3] }
  | _ => none }
def CrcBurstWrongFalsely : Prop := crcBurstRow.holds Try.pinned (OpenSpec.ofChange crcBurstWrong)

/-- 'phonographlaw04.MemParts': WHATEVER THE INPUT: true; the input reads as it did. -/
def memPartsSpec : ChangeSpec := { name := "memParts", fn := fun _ => fun
  | [d1, d2, d3, d4] => { results := [.lit (.bool true)], args := [d1, d2, d3, d4] }
  | _ => none }
def memPartsRow : OpenClaim := { program := "ythaampcfkmfjcaa", sum := "7795c4bd936adb4840734ce03328835cc0904cd7967deb290e40c27f988c1899", func := "phonograph/phonographlaw04.MemParts", spec := "memParts", unfollowed := true, recurses := true, apart := false }
def MemPartsSaid : Prop := memPartsRow.holds Try.pinned (OpenSpec.ofChange memPartsSpec)

/-- ITS FALSE NEIGHBOUR: 'it returns false'. Refute it at one input. -/
def memPartsWrong : ChangeSpec := { name := "memParts", fn := fun _ => fun
  | [d1, d2, d3, d4] => { results := [.lit (.bool false)], args := [d1, d2, d3, d4] }
  | _ => none }
def MemPartsWrongFalsely : Prop := memPartsRow.holds Try.pinned (OpenSpec.ofChange memPartsWrong)

/-- 'phonographlaw04.MemTells': WHATEVER THE INPUT: true; the input reads as it did. -/
def memTellsSpec : ChangeSpec := { name := "memTells", fn := fun _ => fun
  | [d1, d2, d3, d4, d5] => { results := [.lit (.bool true)], args := [d1, d2, d3, d4, d5] }
  | _ => none }
def memTellsRow : OpenClaim := { program := "ythaampcfkmfjcaa", sum := "7795c4bd936adb4840734ce03328835cc0904cd7967deb290e40c27f988c1899", func := "phonograph/phonographlaw04.MemTells", spec := "memTells", unfollowed := true, recurses := true, apart := false }
def MemTellsSaid : Prop := memTellsRow.holds Try.pinned (OpenSpec.ofChange memTellsSpec)

/-- ITS FALSE NEIGHBOUR: 'it returns false'. Refute it at one input. -/
def memTellsWrong : ChangeSpec := { name := "memTells", fn := fun _ => fun
  | [d1, d2, d3, d4, d5] => { results := [.lit (.bool false)], args := [d1, d2, d3, d4, d5] }
  | _ => none }
def MemTellsWrongFalsely : Prop := memTellsRow.holds Try.pinned (OpenSpec.ofChange memTellsWrong)

/-- 'phonographlaw04.MemKeeps': WHATEVER THE INPUT: true; the input reads as it did. -/
def memKeepsSpec : ChangeSpec := { name := "memKeeps", fn := fun _ => fun
  | [d1, d2, d3, d4] => { results := [.lit (.bool true)], args := [d1, d2, d3, d4] }
  | _ => none }
def memKeepsRow : OpenClaim := { program := "ythaampcfkmfjcaa", sum := "7795c4bd936adb4840734ce03328835cc0904cd7967deb290e40c27f988c1899", func := "phonograph/phonographlaw04.MemKeeps", spec := "memKeeps", unfollowed := true, recurses := true, apart := false }
def MemKeepsSaid : Prop := memKeepsRow.holds Try.pinned (OpenSpec.ofChange memKeepsSpec)

/-- ITS FALSE NEIGHBOUR: 'it returns false'. Refute it at one input. -/
def memKeepsWrong : ChangeSpec := { name := "memKeeps", fn := fun _ => fun
  | [d1, d2, d3, d4] => { results := [.lit (.bool false)], args := [d1, d2, d3, d4] }
  | _ => none }
def MemKeepsWrongFalsely : Prop := memKeepsRow.holds Try.pinned (OpenSpec.ofChange memKeepsWrong)

/-- 'phonographlaw01.NumTurns': WHATEVER THE INPUT: true; the input reads as it did. -/
def numTurnsSpec : ChangeSpec := { name := "numTurns", fn := fun _ => fun
  | [d1, d2, d3] => { results := [.lit (.bool true)], args := [d1, d2, d3] }
  | _ => none }
def numTurnsRow : OpenClaim := { program := "ythaampcfkmfjcaa", sum := "7795c4bd936adb4840734ce03328835cc0904cd7967deb290e40c27f988c1899", func := "phonograph/phonographlaw01.NumTurns", spec := "numTurns", unfollowed := true, recurses := true, apart := false }
def NumTurnsSaid : Prop := numTurnsRow.holds Try.pinned (OpenSpec.ofChange numTurnsSpec)

/-- ITS FALSE NEIGHBOUR: 'it returns false'. Refute it at one input. -/
def numTurnsWrong : ChangeSpec := { name := "numTurns", fn := fun _ => fun
  | [d1, d2, d3] => { results := [.lit (.bool false)], args := [d1, d2, d3] }
  | _ => none }
def NumTurnsWrongFalsely : Prop := numTurnsRow.holds Try.pinned (OpenSpec.ofChange numTurnsWrong)

/-- 'phonographlaw01.NumBytes': WHATEVER THE INPUT: true; the input reads as it did. -/
def numBytesSpec : ChangeSpec := { name := "numBytes", fn := fun _ => fun
  | [d1, d2, d3] => { results := [.lit (.bool true)], args := [d1, d2, d3] }
  | _ => none }
def numBytesRow : OpenClaim := { program := "ythaampcfkmfjcaa", sum := "7795c4bd936adb4840734ce03328835cc0904cd7967deb290e40c27f988c1899", func := "phonograph/phonographlaw01.NumBytes", spec := "numBytes", unfollowed := true, recurses := true, apart := false }
def NumBytesSaid : Prop := numBytesRow.holds Try.pinned (OpenSpec.ofChange numBytesSpec)

/-- ITS FALSE NEIGHBOUR: 'it returns false'. Refute it at one input. -/
def numBytesWrong : ChangeSpec := { name := "numBytes", fn := fun _ => fun
  | [d1, d2, d3] => { results := [.lit (.bool false)], args := [d1, d2, d3] }
  | _ => none }
def NumBytesWrongFalsely : Prop := numBytesRow.holds Try.pinned (OpenSpec.ofChange numBytesWrong)

/-- 'phonographlaw01.NumChecks': WHATEVER THE INPUT: true; the input reads as it did. -/
def numChecksSpec : ChangeSpec := { name := "numChecks", fn := fun _ => fun
  | [d1, d2, d3] => { results := [.lit (.bool true)], args := [d1, d2, d3] }
  | _ => none }
def numChecksRow : OpenClaim := { program := "ythaampcfkmfjcaa", sum := "7795c4bd936adb4840734ce03328835cc0904cd7967deb290e40c27f988c1899", func := "phonograph/phonographlaw01.NumChecks", spec := "numChecks", unfollowed := true, recurses := true, apart := false }
def NumChecksSaid : Prop := numChecksRow.holds Try.pinned (OpenSpec.ofChange numChecksSpec)

/-- ITS FALSE NEIGHBOUR: 'it returns false'. Refute it at one input. -/
def numChecksWrong : ChangeSpec := { name := "numChecks", fn := fun _ => fun
  | [d1, d2, d3] => { results := [.lit (.bool false)], args := [d1, d2, d3] }
  | _ => none }
def NumChecksWrongFalsely : Prop := numChecksRow.holds Try.pinned (OpenSpec.ofChange numChecksWrong)

/-- 'phonographlaw01.NumBack': WHATEVER THE INPUT: true; the input reads as it did. -/
def numBackSpec : ChangeSpec := { name := "numBack", fn := fun _ => fun
  | [d1, d2, d3] => { results := [.lit (.bool true)], args := [d1, d2, d3] }
  | _ => none }
def numBackRow : OpenClaim := { program := "ythaampcfkmfjcaa", sum := "7795c4bd936adb4840734ce03328835cc0904cd7967deb290e40c27f988c1899", func := "phonograph/phonographlaw01.NumBack", spec := "numBack", unfollowed := true, recurses := true, apart := false }
def NumBackSaid : Prop := numBackRow.holds Try.pinned (OpenSpec.ofChange numBackSpec)

/-- ITS FALSE NEIGHBOUR: 'it returns false'. Refute it at one input. -/
def numBackWrong : ChangeSpec := { name := "numBack", fn := fun _ => fun
  | [d1, d2, d3] => { results := [.lit (.bool false)], args := [d1, d2, d3] }
  | _ => none }
def NumBackWrongFalsely : Prop := numBackRow.holds Try.pinned (OpenSpec.ofChange numBackWrong)

/-- 'phonographlaw01.NumSealed': WHATEVER THE INPUT: true; the input reads as it did. -/
def numSealedSpec : ChangeSpec := { name := "numSealed", fn := fun _ => fun
  | [d1, d2, d3] => { results := [.lit (.bool true)], args := [d1, d2, d3] }
  | _ => none }
def numSealedRow : OpenClaim := { program := "ythaampcfkmfjcaa", sum := "7795c4bd936adb4840734ce03328835cc0904cd7967deb290e40c27f988c1899", func := "phonograph/phonographlaw01.NumSealed", spec := "numSealed", unfollowed := true, recurses := true, apart := false }
def NumSealedSaid : Prop := numSealedRow.holds Try.pinned (OpenSpec.ofChange numSealedSpec)

/-- ITS FALSE NEIGHBOUR: 'it returns false'. Refute it at one input. -/
def numSealedWrong : ChangeSpec := { name := "numSealed", fn := fun _ => fun
  | [d1, d2, d3] => { results := [.lit (.bool false)], args := [d1, d2, d3] }
  | _ => none }
def NumSealedWrongFalsely : Prop := numSealedRow.holds Try.pinned (OpenSpec.ofChange numSealedWrong)

/- THE SECOND FORM. 'bulk': how many values and letters a reading holds, each counted each time it is reached (what is shared counts as often as it is met; a slice's spare places count too). A statement '..UptoSaid' is the law's where the arguments, and the package variables that the reading takes, are together of bulk at most 1048576: NARROWER than '..Said'. Prove '..Said' where nothing that the law and all that it calls make is longer than what came in: it says more and counts as full. Else prove '..UptoSaid'. A law counts once. -/
mutual
def uptoBulk {H : Type} : DataW H → Nat
  | .lit (.string bytes) => bytes.length + 1
  | .lit _ => 1
  | .nil => 1
  | .ptr d => uptoBulk d + 1
  | .slice elems spare => uptoBulkAll elems + uptoBulkAll spare + 1
  | .agg parts => uptoBulkAll parts + 1
  | .iface _ d => uptoBulk d + 1
  | .map entries => uptoBulkEntries entries + 1
  | .held _ => 1
def uptoBulkAll {H : Type} : List (DataW H) → Nat
  | [] => 0
  | d :: r => uptoBulk d + uptoBulkAll r
def uptoBulkEntries {H : Type} : List (Lit × DataW H) → Nat
  | [] => 0
  | x :: r => uptoBulkEntry x + uptoBulkEntries r
def uptoBulkEntry {H : Type} : Lit × DataW H → Nat
  | (.string bytes, d) => bytes.length + uptoBulk d + 1
  | (_, d) => uptoBulk d + 1
 end
def uptoSmall : (H : Type) → List (DataW H) → Bool := fun _ ds => decide (uptoBulkAll ds ≤ 1048576)
def OpenSpec.upto (s : _root_.Go.ChangeSpec) : _root_.Go.OpenSpec := { _root_.Go.OpenSpec.ofChange s with cond := some uptoSmall }

/-- 'phonographlaw02.CrcHolds', WHERE WHAT IT READS IS OF BULK AT MOST 1048576: true; the input reads as it did. -/
def crcHoldsUptoRow : OpenClaim := { program := "ythaampcfkmfjcaa", sum := "7795c4bd936adb4840734ce03328835cc0904cd7967deb290e40c27f988c1899", func := "phonograph/phonographlaw02.CrcHolds", spec := "crcHolds", unfollowed := true, recurses := true, apart := false, narrowed := true }
def CrcHoldsUptoSaid : Prop := crcHoldsUptoRow.holds Try.pinned (OpenSpec.upto crcHoldsSpec)

/-- 'phonographlaw02.CrcSums', WHERE WHAT IT READS IS OF BULK AT MOST 1048576: true; the input reads as it did. -/
def crcSumsUptoRow : OpenClaim := { program := "ythaampcfkmfjcaa", sum := "7795c4bd936adb4840734ce03328835cc0904cd7967deb290e40c27f988c1899", func := "phonograph/phonographlaw02.CrcSums", spec := "crcSums", unfollowed := true, recurses := true, apart := false, narrowed := true }
def CrcSumsUptoSaid : Prop := crcSumsUptoRow.holds Try.pinned (OpenSpec.upto crcSumsSpec)

/-- 'phonographlaw02.CrcParts', WHERE WHAT IT READS IS OF BULK AT MOST 1048576: true; the input reads as it did. -/
def crcPartsUptoRow : OpenClaim := { program := "ythaampcfkmfjcaa", sum := "7795c4bd936adb4840734ce03328835cc0904cd7967deb290e40c27f988c1899", func := "phonograph/phonographlaw02.CrcParts", spec := "crcParts", unfollowed := true, recurses := true, apart := false, narrowed := true }
def CrcPartsUptoSaid : Prop := crcPartsUptoRow.holds Try.pinned (OpenSpec.upto crcPartsSpec)

/-- 'phonographlaw02.CrcBurst', WHERE WHAT IT READS IS OF BULK AT MOST 1048576: true; the input reads as it did. -/
def crcBurstUptoRow : OpenClaim := { program := "ythaampcfkmfjcaa", sum := "7795c4bd936adb4840734ce03328835cc0904cd7967deb290e40c27f988c1899", func := "phonograph/phonographlaw02.CrcBurst", spec := "crcBurst", unfollowed := true, recurses := true, apart := false, narrowed := true }
def CrcBurstUptoSaid : Prop := crcBurstUptoRow.holds Try.pinned (OpenSpec.upto crcBurstSpec)

/-- 'phonographlaw04.MemParts', WHERE WHAT IT READS IS OF BULK AT MOST 1048576: true; the input reads as it did. -/
def memPartsUptoRow : OpenClaim := { program := "ythaampcfkmfjcaa", sum := "7795c4bd936adb4840734ce03328835cc0904cd7967deb290e40c27f988c1899", func := "phonograph/phonographlaw04.MemParts", spec := "memParts", unfollowed := true, recurses := true, apart := false, narrowed := true }
def MemPartsUptoSaid : Prop := memPartsUptoRow.holds Try.pinned (OpenSpec.upto memPartsSpec)

/-- 'phonographlaw04.MemTells', WHERE WHAT IT READS IS OF BULK AT MOST 1048576: true; the input reads as it did. -/
def memTellsUptoRow : OpenClaim := { program := "ythaampcfkmfjcaa", sum := "7795c4bd936adb4840734ce03328835cc0904cd7967deb290e40c27f988c1899", func := "phonograph/phonographlaw04.MemTells", spec := "memTells", unfollowed := true, recurses := true, apart := false, narrowed := true }
def MemTellsUptoSaid : Prop := memTellsUptoRow.holds Try.pinned (OpenSpec.upto memTellsSpec)

/-- 'phonographlaw04.MemKeeps', WHERE WHAT IT READS IS OF BULK AT MOST 1048576: true; the input reads as it did. -/
def memKeepsUptoRow : OpenClaim := { program := "ythaampcfkmfjcaa", sum := "7795c4bd936adb4840734ce03328835cc0904cd7967deb290e40c27f988c1899", func := "phonograph/phonographlaw04.MemKeeps", spec := "memKeeps", unfollowed := true, recurses := true, apart := false, narrowed := true }
def MemKeepsUptoSaid : Prop := memKeepsUptoRow.holds Try.pinned (OpenSpec.upto memKeepsSpec)

/-- 'phonographlaw01.NumTurns', WHERE WHAT IT READS IS OF BULK AT MOST 1048576: true; the input reads as it did. -/
def numTurnsUptoRow : OpenClaim := { program := "ythaampcfkmfjcaa", sum := "7795c4bd936adb4840734ce03328835cc0904cd7967deb290e40c27f988c1899", func := "phonograph/phonographlaw01.NumTurns", spec := "numTurns", unfollowed := true, recurses := true, apart := false, narrowed := true }
def NumTurnsUptoSaid : Prop := numTurnsUptoRow.holds Try.pinned (OpenSpec.upto numTurnsSpec)

/-- 'phonographlaw01.NumBytes', WHERE WHAT IT READS IS OF BULK AT MOST 1048576: true; the input reads as it did. -/
def numBytesUptoRow : OpenClaim := { program := "ythaampcfkmfjcaa", sum := "7795c4bd936adb4840734ce03328835cc0904cd7967deb290e40c27f988c1899", func := "phonograph/phonographlaw01.NumBytes", spec := "numBytes", unfollowed := true, recurses := true, apart := false, narrowed := true }
def NumBytesUptoSaid : Prop := numBytesUptoRow.holds Try.pinned (OpenSpec.upto numBytesSpec)

/-- 'phonographlaw01.NumChecks', WHERE WHAT IT READS IS OF BULK AT MOST 1048576: true; the input reads as it did. -/
def numChecksUptoRow : OpenClaim := { program := "ythaampcfkmfjcaa", sum := "7795c4bd936adb4840734ce03328835cc0904cd7967deb290e40c27f988c1899", func := "phonograph/phonographlaw01.NumChecks", spec := "numChecks", unfollowed := true, recurses := true, apart := false, narrowed := true }
def NumChecksUptoSaid : Prop := numChecksUptoRow.holds Try.pinned (OpenSpec.upto numChecksSpec)

/-- 'phonographlaw01.NumBack', WHERE WHAT IT READS IS OF BULK AT MOST 1048576: true; the input reads as it did. -/
def numBackUptoRow : OpenClaim := { program := "ythaampcfkmfjcaa", sum := "7795c4bd936adb4840734ce03328835cc0904cd7967deb290e40c27f988c1899", func := "phonograph/phonographlaw01.NumBack", spec := "numBack", unfollowed := true, recurses := true, apart := false, narrowed := true }
def NumBackUptoSaid : Prop := numBackUptoRow.holds Try.pinned (OpenSpec.upto numBackSpec)

/-- 'phonographlaw01.NumSealed', WHERE WHAT IT READS IS OF BULK AT MOST 1048576: true; the input reads as it did. -/
def numSealedUptoRow : OpenClaim := { program := "ythaampcfkmfjcaa", sum := "7795c4bd936adb4840734ce03328835cc0904cd7967deb290e40c27f988c1899", func := "phonograph/phonographlaw01.NumSealed", spec := "numSealed", unfollowed := true, recurses := true, apart := false, narrowed := true }
def NumSealedUptoSaid : Prop := numSealedUptoRow.holds Try.pinned (OpenSpec.upto numSealedSpec)

end Rows
end Go.Proofs.Ythaampcfkmfjcaa
