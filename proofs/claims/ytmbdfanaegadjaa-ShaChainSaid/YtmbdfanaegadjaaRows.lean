/-
  No cell of these rows narrows 'for every input' (looked for: loops, veiled, ifaces, maps, wideKeys, modest, calm, conditions, laid).
  DERIVED. THE GIVEN ROWS OF THIS SEAT. 10 by the template 'for every input the law returns true; each argument reads behind the call as it read before'; 0 by the template 'total and deterministic' (their statements: YtmbdfanaegadjaaTotals.lean).
  GIVEN WITH THE SEED: the statements are not yours to turn. If you find one false, say at which input.
  Laid BY PROGRAM, IN A SANDBOX (cutbox-rows.mjs): the forced cells as the released guide's own fill.sh prints them over the translation bdfd236e09418bac… (all of the seat's roots in one cut). By AI agents, Wed Nov 11 2026. No macro, syntax, notation, axiom, sorry.
-/
import Derived.Test.YtmbdfanaegadjaaChecked
import GoSem.Claim
import GoSem.ClaimJoined
import GoSem.ClaimMapViews
import Derived.JoinedTies
import Derived.KernelRfl
namespace Go.Proofs.Ytmbdfanaegadjaa
/- THE CELL 'sum', in the pinned program and in every row, IS THE sha256 OF THE DUMP (.gsa) THAT YtmbdfanaegadjaaProg.lean LOADS. Nothing in Lean hashes anything: it is a label: what it is worth is what the hold of that sum in a sandbox is worth. -/
noncomputable def Try.pinned : Pinned := { name := "ytmbdfanaegadjaa", sum := "bdfd236e09418bacbbebd45f3e9791f2040508bd96ebdf0732d443787e19f598", checked := Try.checked }
namespace Rows
def none {H : Type} : Left H := { results := [], args := [] }

/-- 'phonographlaw13.SuperNewest': WHATEVER THE INPUT: true; the input reads as it did. -/
def superNewestSpec : ChangeSpec := { name := "superNewest", fn := fun _ => fun
  | [d1, d2] => { results := [.lit (.bool true)], args := [d1, d2] }
  | _ => none }
def superNewestRow : OpenClaim := { program := "ytmbdfanaegadjaa", sum := "bdfd236e09418bacbbebd45f3e9791f2040508bd96ebdf0732d443787e19f598", func := "phonograph/phonographlaw13.SuperNewest", spec := "superNewest", unfollowed := true, recurses := true, plainKeys := false, apart := false }
def SuperNewestSaid : Prop := superNewestRow.holds Try.pinned (OpenSpec.ofChange superNewestSpec)

/-- ITS FALSE NEIGHBOUR: 'it returns false'. Refute it at one input. -/
def superNewestWrong : ChangeSpec := { name := "superNewest", fn := fun _ => fun
  | [d1, d2] => { results := [.lit (.bool false)], args := [d1, d2] }
  | _ => none }
def SuperNewestWrongFalsely : Prop := superNewestRow.holds Try.pinned (OpenSpec.ofChange superNewestWrong)

/-- 'phonographlaw13.SuperTells': WHATEVER THE INPUT: true; the input reads as it did. -/
def superTellsSpec : ChangeSpec := { name := "superTells", fn := fun _ => fun
  | [d1, d2, d3, d4] => { results := [.lit (.bool true)], args := [d1, d2, d3, d4] }
  | _ => none }
def superTellsRow : OpenClaim := { program := "ytmbdfanaegadjaa", sum := "bdfd236e09418bacbbebd45f3e9791f2040508bd96ebdf0732d443787e19f598", func := "phonograph/phonographlaw13.SuperTells", spec := "superTells", unfollowed := true, recurses := true, plainKeys := false, apart := false }
def SuperTellsSaid : Prop := superTellsRow.holds Try.pinned (OpenSpec.ofChange superTellsSpec)

/-- ITS FALSE NEIGHBOUR: 'it returns false'. Refute it at one input. -/
def superTellsWrong : ChangeSpec := { name := "superTells", fn := fun _ => fun
  | [d1, d2, d3, d4] => { results := [.lit (.bool false)], args := [d1, d2, d3, d4] }
  | _ => none }
def SuperTellsWrongFalsely : Prop := superTellsRow.holds Try.pinned (OpenSpec.ofChange superTellsWrong)

/-- 'phonographlaw13.SuperBack': WHATEVER THE INPUT: true; the input reads as it did. -/
def superBackSpec : ChangeSpec := { name := "superBack", fn := fun _ => fun
  | [d1, d2] => { results := [.lit (.bool true)], args := [d1, d2] }
  | _ => none }
def superBackRow : OpenClaim := { program := "ytmbdfanaegadjaa", sum := "bdfd236e09418bacbbebd45f3e9791f2040508bd96ebdf0732d443787e19f598", func := "phonograph/phonographlaw13.SuperBack", spec := "superBack", unfollowed := true, recurses := true, plainKeys := false, apart := false }
def SuperBackSaid : Prop := superBackRow.holds Try.pinned (OpenSpec.ofChange superBackSpec)

/-- ITS FALSE NEIGHBOUR: 'it returns false'. Refute it at one input. -/
def superBackWrong : ChangeSpec := { name := "superBack", fn := fun _ => fun
  | [d1, d2] => { results := [.lit (.bool false)], args := [d1, d2] }
  | _ => none }
def SuperBackWrongFalsely : Prop := superBackRow.holds Try.pinned (OpenSpec.ofChange superBackWrong)

/-- 'phonographlaw13.SuperOld': WHATEVER THE INPUT: true; the input reads as it did. -/
def superOldSpec : ChangeSpec := { name := "superOld", fn := fun _ => fun
  | [d1, d2] => { results := [.lit (.bool true)], args := [d1, d2] }
  | _ => none }
def superOldRow : OpenClaim := { program := "ytmbdfanaegadjaa", sum := "bdfd236e09418bacbbebd45f3e9791f2040508bd96ebdf0732d443787e19f598", func := "phonograph/phonographlaw13.SuperOld", spec := "superOld", unfollowed := true, recurses := true, plainKeys := false, apart := false }
def SuperOldSaid : Prop := superOldRow.holds Try.pinned (OpenSpec.ofChange superOldSpec)

/-- ITS FALSE NEIGHBOUR: 'it returns false'. Refute it at one input. -/
def superOldWrong : ChangeSpec := { name := "superOld", fn := fun _ => fun
  | [d1, d2] => { results := [.lit (.bool false)], args := [d1, d2] }
  | _ => none }
def SuperOldWrongFalsely : Prop := superOldRow.holds Try.pinned (OpenSpec.ofChange superOldWrong)

/-- 'phonographlaw03.ShaTurns': WHATEVER THE INPUT: true; the input reads as it did. -/
def shaTurnsSpec : ChangeSpec := { name := "shaTurns", fn := fun _ => fun
  | [d1, d2, d3] => { results := [.lit (.bool true)], args := [d1, d2, d3] }
  | _ => none }
def shaTurnsRow : OpenClaim := { program := "ytmbdfanaegadjaa", sum := "bdfd236e09418bacbbebd45f3e9791f2040508bd96ebdf0732d443787e19f598", func := "phonograph/phonographlaw03.ShaTurns", spec := "shaTurns", unfollowed := true, recurses := true, plainKeys := false, apart := false }
def ShaTurnsSaid : Prop := shaTurnsRow.holds Try.pinned (OpenSpec.ofChange shaTurnsSpec)

/-- ITS FALSE NEIGHBOUR: 'it returns false'. Refute it at one input. -/
def shaTurnsWrong : ChangeSpec := { name := "shaTurns", fn := fun _ => fun
  | [d1, d2, d3] => { results := [.lit (.bool false)], args := [d1, d2, d3] }
  | _ => none }
def ShaTurnsWrongFalsely : Prop := shaTurnsRow.holds Try.pinned (OpenSpec.ofChange shaTurnsWrong)

/-- 'phonographlaw03.ShaSums': WHATEVER THE INPUT: true; the input reads as it did. -/
def shaSumsSpec : ChangeSpec := { name := "shaSums", fn := fun _ => fun
  | [d1, d2] => { results := [.lit (.bool true)], args := [d1, d2] }
  | _ => none }
def shaSumsRow : OpenClaim := { program := "ytmbdfanaegadjaa", sum := "bdfd236e09418bacbbebd45f3e9791f2040508bd96ebdf0732d443787e19f598", func := "phonograph/phonographlaw03.ShaSums", spec := "shaSums", unfollowed := true, recurses := true, plainKeys := false, apart := false }
def ShaSumsSaid : Prop := shaSumsRow.holds Try.pinned (OpenSpec.ofChange shaSumsSpec)

/-- ITS FALSE NEIGHBOUR: 'it returns false'. Refute it at one input. -/
def shaSumsWrong : ChangeSpec := { name := "shaSums", fn := fun _ => fun
  | [d1, d2] => { results := [.lit (.bool false)], args := [d1, d2] }
  | _ => none }
def ShaSumsWrongFalsely : Prop := shaSumsRow.holds Try.pinned (OpenSpec.ofChange shaSumsWrong)

/-- 'phonographlaw03.ShaWhole': WHATEVER THE INPUT: true; the input reads as it did. -/
def shaWholeSpec : ChangeSpec := { name := "shaWhole", fn := fun _ => fun
  | [d] => { results := [.lit (.bool true)], args := [d] }
  | _ => none }
def shaWholeRow : OpenClaim := { program := "ytmbdfanaegadjaa", sum := "bdfd236e09418bacbbebd45f3e9791f2040508bd96ebdf0732d443787e19f598", func := "phonograph/phonographlaw03.ShaWhole", spec := "shaWhole", unfollowed := true, recurses := true, plainKeys := false, apart := false }
def ShaWholeSaid : Prop := shaWholeRow.holds Try.pinned (OpenSpec.ofChange shaWholeSpec)

/-- ITS FALSE NEIGHBOUR: 'it returns false'. Refute it at one input. -/
def shaWholeWrong : ChangeSpec := { name := "shaWhole", fn := fun _ => fun
  | [d] => { results := [.lit (.bool false)], args := [d] }
  | _ => none }
def ShaWholeWrongFalsely : Prop := shaWholeRow.holds Try.pinned (OpenSpec.ofChange shaWholeWrong)

/-- 'phonographlaw03.ShaChain': WHATEVER THE INPUT: true; the input reads as it did. -/
def shaChainSpec : ChangeSpec := { name := "shaChain", fn := fun _ => fun
  | [d1, d2, d3, d4] => { results := [.lit (.bool true)], args := [d1, d2, d3, d4] }
  | _ => none }
def shaChainRow : OpenClaim := { program := "ytmbdfanaegadjaa", sum := "bdfd236e09418bacbbebd45f3e9791f2040508bd96ebdf0732d443787e19f598", func := "phonograph/phonographlaw03.ShaChain", spec := "shaChain", unfollowed := true, recurses := true, plainKeys := false, apart := false }
def ShaChainSaid : Prop := shaChainRow.holds Try.pinned (OpenSpec.ofChange shaChainSpec)

/-- ITS FALSE NEIGHBOUR: 'it returns false'. Refute it at one input. -/
def shaChainWrong : ChangeSpec := { name := "shaChain", fn := fun _ => fun
  | [d1, d2, d3, d4] => { results := [.lit (.bool false)], args := [d1, d2, d3, d4] }
  | _ => none }
def ShaChainWrongFalsely : Prop := shaChainRow.holds Try.pinned (OpenSpec.ofChange shaChainWrong)

/-- 'phonographlaw21.FragApart': WHATEVER THE INPUT: true; the input reads as it did. -/
def fragApartSpec : ChangeSpec := { name := "fragApart", fn := fun _ => fun
  | [d1, d2] => { results := [.lit (.bool true)], args := [d1, d2] }
  | _ => none }
def fragApartRow : OpenClaim := { program := "ytmbdfanaegadjaa", sum := "bdfd236e09418bacbbebd45f3e9791f2040508bd96ebdf0732d443787e19f598", func := "phonograph/phonographlaw21.FragApart", spec := "fragApart", unfollowed := true, recurses := true, plainKeys := false, apart := false }
def FragApartSaid : Prop := fragApartRow.holds Try.pinned (OpenSpec.ofChange fragApartSpec)

/-- ITS FALSE NEIGHBOUR: 'it returns false'. Refute it at one input. -/
def fragApartWrong : ChangeSpec := { name := "fragApart", fn := fun _ => fun
  | [d1, d2] => { results := [.lit (.bool false)], args := [d1, d2] }
  | _ => none }
def FragApartWrongFalsely : Prop := fragApartRow.holds Try.pinned (OpenSpec.ofChange fragApartWrong)

/-- 'phonographlaw21.FragWhole': WHATEVER THE INPUT: true; the input reads as it did. -/
def fragWholeSpec : ChangeSpec := { name := "fragWhole", fn := fun _ => fun
  | [d1, d2, d3] => { results := [.lit (.bool true)], args := [d1, d2, d3] }
  | _ => none }
def fragWholeRow : OpenClaim := { program := "ytmbdfanaegadjaa", sum := "bdfd236e09418bacbbebd45f3e9791f2040508bd96ebdf0732d443787e19f598", func := "phonograph/phonographlaw21.FragWhole", spec := "fragWhole", unfollowed := true, recurses := true, plainKeys := false, apart := false }
def FragWholeSaid : Prop := fragWholeRow.holds Try.pinned (OpenSpec.ofChange fragWholeSpec)

/-- ITS FALSE NEIGHBOUR: 'it returns false'. Refute it at one input. -/
def fragWholeWrong : ChangeSpec := { name := "fragWhole", fn := fun _ => fun
  | [d1, d2, d3] => { results := [.lit (.bool false)], args := [d1, d2, d3] }
  | _ => none }
def FragWholeWrongFalsely : Prop := fragWholeRow.holds Try.pinned (OpenSpec.ofChange fragWholeWrong)

/- THE SECOND FORM. 'bulk': how many values and letters a reading holds, each counted each time it is reached (what is shared counts as often as it is met; a slice's spare places count too). A statement '..UptoSaid' is the law's where the arguments, and the package variables that the reading takes, are together of bulk at most 1048576: NARROWER than '..Said'. Prove '..Said' where nothing that the law and all that it calls make is longer than what came in: it says more and counts as full. Else prove '..UptoSaid'. A law counts once. -/
mutual
def uptoBulk {H : Type} : DataW H → Nat
  | .lit (.string bytes) => bytes.length + 1
  | .lit _ => 1
  | .nil => 1
  | .ptr d => uptoBulk d + 1
  | .slice elems spare => uptoBulkAll elems + uptoBulkAll spare + 1
  | .agg parts => uptoBulkAll parts + 1
  | .iface _ d => uptoBulk d + 1
  | .map entries => uptoBulkEntries entries + 1
  | .held _ => 1
def uptoBulkAll {H : Type} : List (DataW H) → Nat
  | [] => 0
  | d :: r => uptoBulk d + uptoBulkAll r
def uptoBulkEntries {H : Type} : List (Lit × DataW H) → Nat
  | [] => 0
  | x :: r => uptoBulkEntry x + uptoBulkEntries r
def uptoBulkEntry {H : Type} : Lit × DataW H → Nat
  | (.string bytes, d) => bytes.length + uptoBulk d + 1
  | (_, d) => uptoBulk d + 1
 end
def uptoSmall : (H : Type) → List (DataW H) → Bool := fun _ ds => decide (uptoBulkAll ds ≤ 1048576)
def OpenSpec.upto (s : _root_.Go.ChangeSpec) : _root_.Go.OpenSpec := { _root_.Go.OpenSpec.ofChange s with cond := some uptoSmall }

/-- 'phonographlaw13.SuperNewest', WHERE WHAT IT READS IS OF BULK AT MOST 1048576: true; the input reads as it did. -/
def superNewestUptoRow : OpenClaim := { program := "ytmbdfanaegadjaa", sum := "bdfd236e09418bacbbebd45f3e9791f2040508bd96ebdf0732d443787e19f598", func := "phonograph/phonographlaw13.SuperNewest", spec := "superNewest", unfollowed := true, recurses := true, plainKeys := false, apart := false, narrowed := true }
def SuperNewestUptoSaid : Prop := superNewestUptoRow.holds Try.pinned (OpenSpec.upto superNewestSpec)

/-- 'phonographlaw13.SuperTells', WHERE WHAT IT READS IS OF BULK AT MOST 1048576: true; the input reads as it did. -/
def superTellsUptoRow : OpenClaim := { program := "ytmbdfanaegadjaa", sum := "bdfd236e09418bacbbebd45f3e9791f2040508bd96ebdf0732d443787e19f598", func := "phonograph/phonographlaw13.SuperTells", spec := "superTells", unfollowed := true, recurses := true, plainKeys := false, apart := false, narrowed := true }
def SuperTellsUptoSaid : Prop := superTellsUptoRow.holds Try.pinned (OpenSpec.upto superTellsSpec)

/-- 'phonographlaw13.SuperBack', WHERE WHAT IT READS IS OF BULK AT MOST 1048576: true; the input reads as it did. -/
def superBackUptoRow : OpenClaim := { program := "ytmbdfanaegadjaa", sum := "bdfd236e09418bacbbebd45f3e9791f2040508bd96ebdf0732d443787e19f598", func := "phonograph/phonographlaw13.SuperBack", spec := "superBack", unfollowed := true, recurses := true, plainKeys := false, apart := false, narrowed := true }
def SuperBackUptoSaid : Prop := superBackUptoRow.holds Try.pinned (OpenSpec.upto superBackSpec)

/-- 'phonographlaw13.SuperOld', WHERE WHAT IT READS IS OF BULK AT MOST 1048576: true; the input reads as it did. -/
def superOldUptoRow : OpenClaim := { program := "ytmbdfanaegadjaa", sum := "bdfd236e09418bacbbebd45f3e9791f2040508bd96ebdf0732d443787e19f598", func := "phonograph/phonographlaw13.SuperOld", spec := "superOld", unfollowed := true, recurses := true, plainKeys := false, apart := false, narrowed := true }
def SuperOldUptoSaid : Prop := superOldUptoRow.holds Try.pinned (OpenSpec.upto superOldSpec)

/-- 'phonographlaw03.ShaTurns', WHERE WHAT IT READS IS OF BULK AT MOST 1048576: true; the input reads as it did. -/
def shaTurnsUptoRow : OpenClaim := { program := "ytmbdfanaegadjaa", sum := "bdfd236e09418bacbbebd45f3e9791f2040508bd96ebdf0732d443787e19f598", func := "phonograph/phonographlaw03.ShaTurns", spec := "shaTurns", unfollowed := true, recurses := true, plainKeys := false, apart := false, narrowed := true }
def ShaTurnsUptoSaid : Prop := shaTurnsUptoRow.holds Try.pinned (OpenSpec.upto shaTurnsSpec)

/-- 'phonographlaw03.ShaSums', WHERE WHAT IT READS IS OF BULK AT MOST 1048576: true; the input reads as it did. -/
def shaSumsUptoRow : OpenClaim := { program := "ytmbdfanaegadjaa", sum := "bdfd236e09418bacbbebd45f3e9791f2040508bd96ebdf0732d443787e19f598", func := "phonograph/phonographlaw03.ShaSums", spec := "shaSums", unfollowed := true, recurses := true, plainKeys := false, apart := false, narrowed := true }
def ShaSumsUptoSaid : Prop := shaSumsUptoRow.holds Try.pinned (OpenSpec.upto shaSumsSpec)

/-- 'phonographlaw03.ShaWhole', WHERE WHAT IT READS IS OF BULK AT MOST 1048576: true; the input reads as it did. -/
def shaWholeUptoRow : OpenClaim := { program := "ytmbdfanaegadjaa", sum := "bdfd236e09418bacbbebd45f3e9791f2040508bd96ebdf0732d443787e19f598", func := "phonograph/phonographlaw03.ShaWhole", spec := "shaWhole", unfollowed := true, recurses := true, plainKeys := false, apart := false, narrowed := true }
def ShaWholeUptoSaid : Prop := shaWholeUptoRow.holds Try.pinned (OpenSpec.upto shaWholeSpec)

/-- 'phonographlaw03.ShaChain', WHERE WHAT IT READS IS OF BULK AT MOST 1048576: true; the input reads as it did. -/
def shaChainUptoRow : OpenClaim := { program := "ytmbdfanaegadjaa", sum := "bdfd236e09418bacbbebd45f3e9791f2040508bd96ebdf0732d443787e19f598", func := "phonograph/phonographlaw03.ShaChain", spec := "shaChain", unfollowed := true, recurses := true, plainKeys := false, apart := false, narrowed := true }
def ShaChainUptoSaid : Prop := shaChainUptoRow.holds Try.pinned (OpenSpec.upto shaChainSpec)

/-- 'phonographlaw21.FragApart', WHERE WHAT IT READS IS OF BULK AT MOST 1048576: true; the input reads as it did. -/
def fragApartUptoRow : OpenClaim := { program := "ytmbdfanaegadjaa", sum := "bdfd236e09418bacbbebd45f3e9791f2040508bd96ebdf0732d443787e19f598", func := "phonograph/phonographlaw21.FragApart", spec := "fragApart", unfollowed := true, recurses := true, plainKeys := false, apart := false, narrowed := true }
def FragApartUptoSaid : Prop := fragApartUptoRow.holds Try.pinned (OpenSpec.upto fragApartSpec)

/-- 'phonographlaw21.FragWhole', WHERE WHAT IT READS IS OF BULK AT MOST 1048576: true; the input reads as it did. -/
def fragWholeUptoRow : OpenClaim := { program := "ytmbdfanaegadjaa", sum := "bdfd236e09418bacbbebd45f3e9791f2040508bd96ebdf0732d443787e19f598", func := "phonograph/phonographlaw21.FragWhole", spec := "fragWhole", unfollowed := true, recurses := true, plainKeys := false, apart := false, narrowed := true }
def FragWholeUptoSaid : Prop := fragWholeUptoRow.holds Try.pinned (OpenSpec.upto fragWholeSpec)

end Rows
end Go.Proofs.Ytmbdfanaegadjaa
