/-
  No cell of these rows narrows 'for every input' (looked for: loops, veiled, ifaces, maps, wideKeys, modest, calm, conditions, laid).
  DERIVED. THE GIVEN ROWS OF THIS SEAT. 6 by the template 'for every input the law returns true; each argument reads behind the call as it read before'; 0 by the template 'total and deterministic' (their statements: YteajboafcjeagaaTotals.lean).
  GIVEN WITH THE SEED: the statements are not yours to turn. If you find one false, say at which input.
  Laid BY PROGRAM, IN A SANDBOX (cutbox-rows.mjs): the forced cells as the released guide's own fill.sh prints them over the translation 8eb339bf5cb941dc… (all of the seat's roots in one cut). By AI agents, Wed Nov 11 2026. No macro, syntax, notation, axiom, sorry.
-/
import Derived.Test.YteajboafcjeagaaChecked
import GoSem.Claim
import GoSem.ClaimJoined
import GoSem.ClaimMapViews
import Derived.JoinedTies
import Derived.KernelRfl
namespace Go.Proofs.Yteajboafcjeagaa
/- THE CELL 'sum', in the pinned program and in every row, IS THE sha256 OF THE DUMP (.gsa) THAT YteajboafcjeagaaProg.lean LOADS. Nothing in Lean hashes anything: it is a label: what it is worth is what the hold of that sum in a sandbox is worth. -/
noncomputable def Try.pinned : Pinned := { name := "yteajboafcjeagaa", sum := "8eb339bf5cb941dc9240f931f488219997418f44c0638f85bc2ab91926bfc96a", checked := Try.checked }
namespace Rows
def none {H : Type} : Left H := { results := [], args := [] }

/-- 'phonographlaw05.DiskSafe': WHATEVER THE INPUT: true; the input reads as it did. -/
def diskSafeSpec : ChangeSpec := { name := "diskSafe", fn := fun _ => fun
  | [d1, d2] => { results := [.lit (.bool true)], args := [d1, d2] }
  | _ => none }
def diskSafeRow : OpenClaim := { program := "yteajboafcjeagaa", sum := "8eb339bf5cb941dc9240f931f488219997418f44c0638f85bc2ab91926bfc96a", func := "phonograph/phonographlaw05.DiskSafe", spec := "diskSafe", unfollowed := true, recurses := true, plainKeys := false, apart := false }
def DiskSafeSaid : Prop := diskSafeRow.holds Try.pinned (OpenSpec.ofChange diskSafeSpec)

/-- ITS FALSE NEIGHBOUR: 'it returns false'. Refute it at one input. -/
def diskSafeWrong : ChangeSpec := { name := "diskSafe", fn := fun _ => fun
  | [d1, d2] => { results := [.lit (.bool false)], args := [d1, d2] }
  | _ => none }
def DiskSafeWrongFalsely : Prop := diskSafeRow.holds Try.pinned (OpenSpec.ofChange diskSafeWrong)

/-- 'phonographlaw05.DiskTells': WHATEVER THE INPUT: true; the input reads as it did. -/
def diskTellsSpec : ChangeSpec := { name := "diskTells", fn := fun _ => fun
  | [d1, d2, d3, d4, d5, d6] => { results := [.lit (.bool true)], args := [d1, d2, d3, d4, d5, d6] }
  | _ => none }
def diskTellsRow : OpenClaim := { program := "yteajboafcjeagaa", sum := "8eb339bf5cb941dc9240f931f488219997418f44c0638f85bc2ab91926bfc96a", func := "phonograph/phonographlaw05.DiskTells", spec := "diskTells", unfollowed := true, recurses := true, plainKeys := false, apart := false }
def DiskTellsSaid : Prop := diskTellsRow.holds Try.pinned (OpenSpec.ofChange diskTellsSpec)

/-- ITS FALSE NEIGHBOUR: 'it returns false'. Refute it at one input. -/
def diskTellsWrong : ChangeSpec := { name := "diskTells", fn := fun _ => fun
  | [d1, d2, d3, d4, d5, d6] => { results := [.lit (.bool false)], args := [d1, d2, d3, d4, d5, d6] }
  | _ => none }
def DiskTellsWrongFalsely : Prop := diskTellsRow.holds Try.pinned (OpenSpec.ofChange diskTellsWrong)

/-- 'phonographlaw05.DiskLast': WHATEVER THE INPUT: true; the input reads as it did. -/
def diskLastSpec : ChangeSpec := { name := "diskLast", fn := fun _ => fun
  | [d1, d2, d3] => { results := [.lit (.bool true)], args := [d1, d2, d3] }
  | _ => none }
def diskLastRow : OpenClaim := { program := "yteajboafcjeagaa", sum := "8eb339bf5cb941dc9240f931f488219997418f44c0638f85bc2ab91926bfc96a", func := "phonograph/phonographlaw05.DiskLast", spec := "diskLast", unfollowed := true, recurses := true, plainKeys := false, apart := false }
def DiskLastSaid : Prop := diskLastRow.holds Try.pinned (OpenSpec.ofChange diskLastSpec)

/-- ITS FALSE NEIGHBOUR: 'it returns false'. Refute it at one input. -/
def diskLastWrong : ChangeSpec := { name := "diskLast", fn := fun _ => fun
  | [d1, d2, d3] => { results := [.lit (.bool false)], args := [d1, d2, d3] }
  | _ => none }
def DiskLastWrongFalsely : Prop := diskLastRow.holds Try.pinned (OpenSpec.ofChange diskLastWrong)

/-- 'phonographlaw05.DiskTorn': WHATEVER THE INPUT: true; the input reads as it did. -/
def diskTornSpec : ChangeSpec := { name := "diskTorn", fn := fun _ => fun
  | [d1, d2] => { results := [.lit (.bool true)], args := [d1, d2] }
  | _ => none }
def diskTornRow : OpenClaim := { program := "yteajboafcjeagaa", sum := "8eb339bf5cb941dc9240f931f488219997418f44c0638f85bc2ab91926bfc96a", func := "phonograph/phonographlaw05.DiskTorn", spec := "diskTorn", unfollowed := true, recurses := true, plainKeys := false, apart := false }
def DiskTornSaid : Prop := diskTornRow.holds Try.pinned (OpenSpec.ofChange diskTornSpec)

/-- ITS FALSE NEIGHBOUR: 'it returns false'. Refute it at one input. -/
def diskTornWrong : ChangeSpec := { name := "diskTorn", fn := fun _ => fun
  | [d1, d2] => { results := [.lit (.bool false)], args := [d1, d2] }
  | _ => none }
def DiskTornWrongFalsely : Prop := diskTornRow.holds Try.pinned (OpenSpec.ofChange diskTornWrong)

/-- 'phonographlaw21.FragApart': WHATEVER THE INPUT: true; the input reads as it did. -/
def fragApartSpec : ChangeSpec := { name := "fragApart", fn := fun _ => fun
  | [d1, d2] => { results := [.lit (.bool true)], args := [d1, d2] }
  | _ => none }
def fragApartRow : OpenClaim := { program := "yteajboafcjeagaa", sum := "8eb339bf5cb941dc9240f931f488219997418f44c0638f85bc2ab91926bfc96a", func := "phonograph/phonographlaw21.FragApart", spec := "fragApart", unfollowed := true, recurses := true, plainKeys := false, apart := false }
def FragApartSaid : Prop := fragApartRow.holds Try.pinned (OpenSpec.ofChange fragApartSpec)

/-- ITS FALSE NEIGHBOUR: 'it returns false'. Refute it at one input. -/
def fragApartWrong : ChangeSpec := { name := "fragApart", fn := fun _ => fun
  | [d1, d2] => { results := [.lit (.bool false)], args := [d1, d2] }
  | _ => none }
def FragApartWrongFalsely : Prop := fragApartRow.holds Try.pinned (OpenSpec.ofChange fragApartWrong)

/-- 'phonographlaw21.FragWhole': WHATEVER THE INPUT: true; the input reads as it did. -/
def fragWholeSpec : ChangeSpec := { name := "fragWhole", fn := fun _ => fun
  | [d1, d2, d3] => { results := [.lit (.bool true)], args := [d1, d2, d3] }
  | _ => none }
def fragWholeRow : OpenClaim := { program := "yteajboafcjeagaa", sum := "8eb339bf5cb941dc9240f931f488219997418f44c0638f85bc2ab91926bfc96a", func := "phonograph/phonographlaw21.FragWhole", spec := "fragWhole", unfollowed := true, recurses := true, plainKeys := false, apart := false }
def FragWholeSaid : Prop := fragWholeRow.holds Try.pinned (OpenSpec.ofChange fragWholeSpec)

/-- ITS FALSE NEIGHBOUR: 'it returns false'. Refute it at one input. -/
def fragWholeWrong : ChangeSpec := { name := "fragWhole", fn := fun _ => fun
  | [d1, d2, d3] => { results := [.lit (.bool false)], args := [d1, d2, d3] }
  | _ => none }
def FragWholeWrongFalsely : Prop := fragWholeRow.holds Try.pinned (OpenSpec.ofChange fragWholeWrong)

/- THE SECOND FORM. 'bulk': how many values and letters a reading holds, each counted each time it is reached (what is shared counts as often as it is met; a slice's spare places count too). A statement '..UptoSaid' is the law's where the arguments, and the package variables that the reading takes, are together of bulk at most 1048576: NARROWER than '..Said'. Prove '..Said' where nothing that the law and all that it calls make is longer than what came in: it says more and counts as full. Else prove '..UptoSaid'. A law counts once. -/
mutual
def uptoBulk {H : Type} : DataW H → Nat
  | .lit (.string bytes) => bytes.length + 1
  | .lit _ => 1
  | .nil => 1
  | .ptr d => uptoBulk d + 1
  | .slice elems spare => uptoBulkAll elems + uptoBulkAll spare + 1
  | .agg parts => uptoBulkAll parts + 1
  | .iface _ d => uptoBulk d + 1
  | .map entries => uptoBulkEntries entries + 1
  | .held _ => 1
def uptoBulkAll {H : Type} : List (DataW H) → Nat
  | [] => 0
  | d :: r => uptoBulk d + uptoBulkAll r
def uptoBulkEntries {H : Type} : List (Lit × DataW H) → Nat
  | [] => 0
  | x :: r => uptoBulkEntry x + uptoBulkEntries r
def uptoBulkEntry {H : Type} : Lit × DataW H → Nat
  | (.string bytes, d) => bytes.length + uptoBulk d + 1
  | (_, d) => uptoBulk d + 1
 end
def uptoSmall : (H : Type) → List (DataW H) → Bool := fun _ ds => decide (uptoBulkAll ds ≤ 1048576)
def OpenSpec.upto (s : _root_.Go.ChangeSpec) : _root_.Go.OpenSpec := { _root_.Go.OpenSpec.ofChange s with cond := some uptoSmall }

/-- 'phonographlaw05.DiskSafe', WHERE WHAT IT READS IS OF BULK AT MOST 1048576: true; the input reads as it did. -/
def diskSafeUptoRow : OpenClaim := { program := "yteajboafcjeagaa", sum := "8eb339bf5cb941dc9240f931f488219997418f44c0638f85bc2ab91926bfc96a", func := "phonograph/phonographlaw05.DiskSafe", spec := "diskSafe", unfollowed := true, recurses := true, plainKeys := false, apart := false, narrowed := true }
def DiskSafeUptoSaid : Prop := diskSafeUptoRow.holds Try.pinned (OpenSpec.upto diskSafeSpec)

/-- 'phonographlaw05.DiskTells', WHERE WHAT IT READS IS OF BULK AT MOST 1048576: true; the input reads as it did. -/
def diskTellsUptoRow : OpenClaim := { program := "yteajboafcjeagaa", sum := "8eb339bf5cb941dc9240f931f488219997418f44c0638f85bc2ab91926bfc96a", func := "phonograph/phonographlaw05.DiskTells", spec := "diskTells", unfollowed := true, recurses := true, plainKeys := false, apart := false, narrowed := true }
def DiskTellsUptoSaid : Prop := diskTellsUptoRow.holds Try.pinned (OpenSpec.upto diskTellsSpec)

/-- 'phonographlaw05.DiskLast', WHERE WHAT IT READS IS OF BULK AT MOST 1048576: true; the input reads as it did. -/
def diskLastUptoRow : OpenClaim := { program := "yteajboafcjeagaa", sum := "8eb339bf5cb941dc9240f931f488219997418f44c0638f85bc2ab91926bfc96a", func := "phonograph/phonographlaw05.DiskLast", spec := "diskLast", unfollowed := true, recurses := true, plainKeys := false, apart := false, narrowed := true }
def DiskLastUptoSaid : Prop := diskLastUptoRow.holds Try.pinned (OpenSpec.upto diskLastSpec)

/-- 'phonographlaw05.DiskTorn', WHERE WHAT IT READS IS OF BULK AT MOST 1048576: true; the input reads as it did. -/
def diskTornUptoRow : OpenClaim := { program := "yteajboafcjeagaa", sum := "8eb339bf5cb941dc9240f931f488219997418f44c0638f85bc2ab91926bfc96a", func := "phonograph/phonographlaw05.DiskTorn", spec := "diskTorn", unfollowed := true, recurses := true, plainKeys := false, apart := false, narrowed := true }
def DiskTornUptoSaid : Prop := diskTornUptoRow.holds Try.pinned (OpenSpec.upto diskTornSpec)

/-- 'phonographlaw21.FragApart', WHERE WHAT IT READS IS OF BULK AT MOST 1048576: true; the input reads as it did. -/
def fragApartUptoRow : OpenClaim := { program := "yteajboafcjeagaa", sum := "8eb339bf5cb941dc9240f931f488219997418f44c0638f85bc2ab91926bfc96a", func := "phonograph/phonographlaw21.FragApart", spec := "fragApart", unfollowed := true, recurses := true, plainKeys := false, apart := false, narrowed := true }
def FragApartUptoSaid : Prop := fragApartUptoRow.holds Try.pinned (OpenSpec.upto fragApartSpec)

/-- 'phonographlaw21.FragWhole', WHERE WHAT IT READS IS OF BULK AT MOST 1048576: true; the input reads as it did. -/
def fragWholeUptoRow : OpenClaim := { program := "yteajboafcjeagaa", sum := "8eb339bf5cb941dc9240f931f488219997418f44c0638f85bc2ab91926bfc96a", func := "phonograph/phonographlaw21.FragWhole", spec := "fragWhole", unfollowed := true, recurses := true, plainKeys := false, apart := false, narrowed := true }
def FragWholeUptoSaid : Prop := fragWholeUptoRow.holds Try.pinned (OpenSpec.upto fragWholeSpec)

end Rows
end Go.Proofs.Yteajboafcjeagaa
