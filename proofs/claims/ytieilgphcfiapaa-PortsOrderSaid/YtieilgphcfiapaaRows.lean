/-
  No cell of these rows narrows 'for every input' (looked for: loops, veiled, ifaces, maps, wideKeys, modest, calm, conditions, laid).
  DERIVED. THE GIVEN ROWS OF THIS SEAT. 11 by the template 'for every input the law returns true; each argument reads behind the call as it read before'; 0 by the template 'total and deterministic' (their statements: YtieilgphcfiapaaTotals.lean).
  GIVEN WITH THE SEED: the statements are not yours to turn. If you find one false, say at which input.
  Laid BY PROGRAM, IN A SANDBOX (cutbox-rows.mjs): the forced cells as the released guide's own fill.sh prints them over the translation 0c87607cbb47e23d… (all of the seat's roots in one cut). By AI agents, Wed Nov 11 2026. No macro, syntax, notation, axiom, sorry.
-/
import Derived.Test.YtieilgphcfiapaaChecked
import GoSem.Claim
import GoSem.ClaimJoined
import GoSem.ClaimMapViews
import Derived.JoinedTies
import Derived.KernelRfl
namespace Go.Proofs.Ytieilgphcfiapaa
/- THE CELL 'sum', in the pinned program and in every row, IS THE sha256 OF THE DUMP (.gsa) THAT YtieilgphcfiapaaProg.lean LOADS. Nothing in Lean hashes anything: it is a label: what it is worth is what the hold of that sum in a sandbox is worth. -/
noncomputable def Try.pinned : Pinned := { name := "ytieilgphcfiapaa", sum := "0c87607cbb47e23d164cb58de19416ab08305e19b60286007a22a85ac9212e65", checked := Try.checked }
namespace Rows
def none {H : Type} : Left H := { results := [], args := [] }

/-- 'phonographlaw18.EthMine': WHATEVER THE INPUT: true; the input reads as it did. -/
def ethMineSpec : ChangeSpec := { name := "ethMine", fn := fun _ => fun
  | [d] => { results := [.lit (.bool true)], args := [d] }
  | _ => none }
def ethMineRow : OpenClaim := { program := "ytieilgphcfiapaa", sum := "0c87607cbb47e23d164cb58de19416ab08305e19b60286007a22a85ac9212e65", func := "phonograph/phonographlaw18.EthMine", spec := "ethMine", unfollowed := true, recurses := true, apart := false }
def EthMineSaid : Prop := ethMineRow.holds Try.pinned (OpenSpec.ofChange ethMineSpec)

/-- ITS FALSE NEIGHBOUR: 'it returns false'. Refute it at one input. -/
def ethMineWrong : ChangeSpec := { name := "ethMine", fn := fun _ => fun
  | [d] => { results := [.lit (.bool false)], args := [d] }
  | _ => none }
def EthMineWrongFalsely : Prop := ethMineRow.holds Try.pinned (OpenSpec.ofChange ethMineWrong)

/-- 'phonographlaw18.EthTells': WHATEVER THE INPUT: true; the input reads as it did. -/
def ethTellsSpec : ChangeSpec := { name := "ethTells", fn := fun _ => fun
  | [d1, d2] => { results := [.lit (.bool true)], args := [d1, d2] }
  | _ => none }
def ethTellsRow : OpenClaim := { program := "ytieilgphcfiapaa", sum := "0c87607cbb47e23d164cb58de19416ab08305e19b60286007a22a85ac9212e65", func := "phonograph/phonographlaw18.EthTells", spec := "ethTells", unfollowed := true, recurses := true, apart := false }
def EthTellsSaid : Prop := ethTellsRow.holds Try.pinned (OpenSpec.ofChange ethTellsSpec)

/-- ITS FALSE NEIGHBOUR: 'it returns false'. Refute it at one input. -/
def ethTellsWrong : ChangeSpec := { name := "ethTells", fn := fun _ => fun
  | [d1, d2] => { results := [.lit (.bool false)], args := [d1, d2] }
  | _ => none }
def EthTellsWrongFalsely : Prop := ethTellsRow.holds Try.pinned (OpenSpec.ofChange ethTellsWrong)

/-- 'phonographlaw18.EthBack': WHATEVER THE INPUT: true; the input reads as it did. -/
def ethBackSpec : ChangeSpec := { name := "ethBack", fn := fun _ => fun
  | [d1, d2] => { results := [.lit (.bool true)], args := [d1, d2] }
  | _ => none }
def ethBackRow : OpenClaim := { program := "ytieilgphcfiapaa", sum := "0c87607cbb47e23d164cb58de19416ab08305e19b60286007a22a85ac9212e65", func := "phonograph/phonographlaw18.EthBack", spec := "ethBack", unfollowed := true, recurses := true, apart := false }
def EthBackSaid : Prop := ethBackRow.holds Try.pinned (OpenSpec.ofChange ethBackSpec)

/-- ITS FALSE NEIGHBOUR: 'it returns false'. Refute it at one input. -/
def ethBackWrong : ChangeSpec := { name := "ethBack", fn := fun _ => fun
  | [d1, d2] => { results := [.lit (.bool false)], args := [d1, d2] }
  | _ => none }
def EthBackWrongFalsely : Prop := ethBackRow.holds Try.pinned (OpenSpec.ofChange ethBackWrong)

/-- 'phonographlaw20.IpSums': WHATEVER THE INPUT: true; the input reads as it did. -/
def ipSumsSpec : ChangeSpec := { name := "ipSums", fn := fun _ => fun
  | [d1, d2, d3, d4] => { results := [.lit (.bool true)], args := [d1, d2, d3, d4] }
  | _ => none }
def ipSumsRow : OpenClaim := { program := "ytieilgphcfiapaa", sum := "0c87607cbb47e23d164cb58de19416ab08305e19b60286007a22a85ac9212e65", func := "phonograph/phonographlaw20.IpSums", spec := "ipSums", unfollowed := true, recurses := true, apart := false }
def IpSumsSaid : Prop := ipSumsRow.holds Try.pinned (OpenSpec.ofChange ipSumsSpec)

/-- ITS FALSE NEIGHBOUR: 'it returns false'. Refute it at one input. -/
def ipSumsWrong : ChangeSpec := { name := "ipSums", fn := fun _ => fun
  | [d1, d2, d3, d4] => { results := [.lit (.bool false)], args := [d1, d2, d3, d4] }
  | _ => none }
def IpSumsWrongFalsely : Prop := ipSumsRow.holds Try.pinned (OpenSpec.ofChange ipSumsWrong)

/-- 'phonographlaw20.IpTells': WHATEVER THE INPUT: true; the input reads as it did. -/
def ipTellsSpec : ChangeSpec := { name := "ipTells", fn := fun _ => fun
  | [d1, d2] => { results := [.lit (.bool true)], args := [d1, d2] }
  | _ => none }
def ipTellsRow : OpenClaim := { program := "ytieilgphcfiapaa", sum := "0c87607cbb47e23d164cb58de19416ab08305e19b60286007a22a85ac9212e65", func := "phonograph/phonographlaw20.IpTells", spec := "ipTells", unfollowed := true, recurses := true, apart := false }
def IpTellsSaid : Prop := ipTellsRow.holds Try.pinned (OpenSpec.ofChange ipTellsSpec)

/-- ITS FALSE NEIGHBOUR: 'it returns false'. Refute it at one input. -/
def ipTellsWrong : ChangeSpec := { name := "ipTells", fn := fun _ => fun
  | [d1, d2] => { results := [.lit (.bool false)], args := [d1, d2] }
  | _ => none }
def IpTellsWrongFalsely : Prop := ipTellsRow.holds Try.pinned (OpenSpec.ofChange ipTellsWrong)

/-- 'phonographlaw20.IpBack': WHATEVER THE INPUT: true; the input reads as it did. -/
def ipBackSpec : ChangeSpec := { name := "ipBack", fn := fun _ => fun
  | [d1, d2, d3, d4] => { results := [.lit (.bool true)], args := [d1, d2, d3, d4] }
  | _ => none }
def ipBackRow : OpenClaim := { program := "ytieilgphcfiapaa", sum := "0c87607cbb47e23d164cb58de19416ab08305e19b60286007a22a85ac9212e65", func := "phonograph/phonographlaw20.IpBack", spec := "ipBack", unfollowed := true, recurses := true, apart := false }
def IpBackSaid : Prop := ipBackRow.holds Try.pinned (OpenSpec.ofChange ipBackSpec)

/-- ITS FALSE NEIGHBOUR: 'it returns false'. Refute it at one input. -/
def ipBackWrong : ChangeSpec := { name := "ipBack", fn := fun _ => fun
  | [d1, d2, d3, d4] => { results := [.lit (.bool false)], args := [d1, d2, d3, d4] }
  | _ => none }
def IpBackWrongFalsely : Prop := ipBackRow.holds Try.pinned (OpenSpec.ofChange ipBackWrong)

/-- 'phonographlaw06.PortsLines': WHATEVER THE INPUT: true; the input reads as it did. -/
def portsLinesSpec : ChangeSpec := { name := "portsLines", fn := fun _ => fun
  | [d] => { results := [.lit (.bool true)], args := [d] }
  | _ => none }
def portsLinesRow : OpenClaim := { program := "ytieilgphcfiapaa", sum := "0c87607cbb47e23d164cb58de19416ab08305e19b60286007a22a85ac9212e65", func := "phonograph/phonographlaw06.PortsLines", spec := "portsLines", unfollowed := true, recurses := true, apart := false }
def PortsLinesSaid : Prop := portsLinesRow.holds Try.pinned (OpenSpec.ofChange portsLinesSpec)

/-- ITS FALSE NEIGHBOUR: 'it returns false'. Refute it at one input. -/
def portsLinesWrong : ChangeSpec := { name := "portsLines", fn := fun _ => fun
  | [d] => { results := [.lit (.bool false)], args := [d] }
  | _ => none }
def PortsLinesWrongFalsely : Prop := portsLinesRow.holds Try.pinned (OpenSpec.ofChange portsLinesWrong)

/-- 'phonographlaw06.PortsTell': WHATEVER THE INPUT: true; the input reads as it did. -/
def portsTellSpec : ChangeSpec := { name := "portsTell", fn := fun _ => fun
  | [d1, d2, d3, d4, d5, d6] => { results := [.lit (.bool true)], args := [d1, d2, d3, d4, d5, d6] }
  | _ => none }
def portsTellRow : OpenClaim := { program := "ytieilgphcfiapaa", sum := "0c87607cbb47e23d164cb58de19416ab08305e19b60286007a22a85ac9212e65", func := "phonograph/phonographlaw06.PortsTell", spec := "portsTell", unfollowed := true, recurses := true, apart := false }
def PortsTellSaid : Prop := portsTellRow.holds Try.pinned (OpenSpec.ofChange portsTellSpec)

/-- ITS FALSE NEIGHBOUR: 'it returns false'. Refute it at one input. -/
def portsTellWrong : ChangeSpec := { name := "portsTell", fn := fun _ => fun
  | [d1, d2, d3, d4, d5, d6] => { results := [.lit (.bool false)], args := [d1, d2, d3, d4, d5, d6] }
  | _ => none }
def PortsTellWrongFalsely : Prop := portsTellRow.holds Try.pinned (OpenSpec.ofChange portsTellWrong)

/-- 'phonographlaw06.PortsOrder': WHATEVER THE INPUT: true; the input reads as it did. -/
def portsOrderSpec : ChangeSpec := { name := "portsOrder", fn := fun _ => fun
  | [d1, d2, d3] => { results := [.lit (.bool true)], args := [d1, d2, d3] }
  | _ => none }
def portsOrderRow : OpenClaim := { program := "ytieilgphcfiapaa", sum := "0c87607cbb47e23d164cb58de19416ab08305e19b60286007a22a85ac9212e65", func := "phonograph/phonographlaw06.PortsOrder", spec := "portsOrder", unfollowed := true, recurses := true, apart := false }
def PortsOrderSaid : Prop := portsOrderRow.holds Try.pinned (OpenSpec.ofChange portsOrderSpec)

/-- ITS FALSE NEIGHBOUR: 'it returns false'. Refute it at one input. -/
def portsOrderWrong : ChangeSpec := { name := "portsOrder", fn := fun _ => fun
  | [d1, d2, d3] => { results := [.lit (.bool false)], args := [d1, d2, d3] }
  | _ => none }
def PortsOrderWrongFalsely : Prop := portsOrderRow.holds Try.pinned (OpenSpec.ofChange portsOrderWrong)

/-- 'phonographlaw22.IcmpTurned': WHATEVER THE INPUT: true; the input reads as it did. -/
def icmpTurnedSpec : ChangeSpec := { name := "icmpTurned", fn := fun _ => fun
  | [d1, d2, d3] => { results := [.lit (.bool true)], args := [d1, d2, d3] }
  | _ => none }
def icmpTurnedRow : OpenClaim := { program := "ytieilgphcfiapaa", sum := "0c87607cbb47e23d164cb58de19416ab08305e19b60286007a22a85ac9212e65", func := "phonograph/phonographlaw22.IcmpTurned", spec := "icmpTurned", unfollowed := true, recurses := true, apart := false }
def IcmpTurnedSaid : Prop := icmpTurnedRow.holds Try.pinned (OpenSpec.ofChange icmpTurnedSpec)

/-- ITS FALSE NEIGHBOUR: 'it returns false'. Refute it at one input. -/
def icmpTurnedWrong : ChangeSpec := { name := "icmpTurned", fn := fun _ => fun
  | [d1, d2, d3] => { results := [.lit (.bool false)], args := [d1, d2, d3] }
  | _ => none }
def IcmpTurnedWrongFalsely : Prop := icmpTurnedRow.holds Try.pinned (OpenSpec.ofChange icmpTurnedWrong)

/-- 'phonographlaw22.IcmpEchoes': WHATEVER THE INPUT: true; the input reads as it did. -/
def icmpEchoesSpec : ChangeSpec := { name := "icmpEchoes", fn := fun _ => fun
  | [d1, d2] => { results := [.lit (.bool true)], args := [d1, d2] }
  | _ => none }
def icmpEchoesRow : OpenClaim := { program := "ytieilgphcfiapaa", sum := "0c87607cbb47e23d164cb58de19416ab08305e19b60286007a22a85ac9212e65", func := "phonograph/phonographlaw22.IcmpEchoes", spec := "icmpEchoes", unfollowed := true, recurses := true, apart := false }
def IcmpEchoesSaid : Prop := icmpEchoesRow.holds Try.pinned (OpenSpec.ofChange icmpEchoesSpec)

/-- ITS FALSE NEIGHBOUR: 'it returns false'. Refute it at one input. -/
def icmpEchoesWrong : ChangeSpec := { name := "icmpEchoes", fn := fun _ => fun
  | [d1, d2] => { results := [.lit (.bool false)], args := [d1, d2] }
  | _ => none }
def IcmpEchoesWrongFalsely : Prop := icmpEchoesRow.holds Try.pinned (OpenSpec.ofChange icmpEchoesWrong)

/- THE SECOND FORM. 'bulk': how many values and letters a reading holds, each counted each time it is reached (what is shared counts as often as it is met; a slice's spare places count too). A statement '..UptoSaid' is the law's where the arguments, and the package variables that the reading takes, are together of bulk at most 1048576: NARROWER than '..Said'. Prove '..Said' where nothing that the law and all that it calls make is longer than what came in: it says more and counts as full. Else prove '..UptoSaid'. A law counts once. -/
mutual
def uptoBulk {H : Type} : DataW H → Nat
  | .lit (.string bytes) => bytes.length + 1
  | .lit _ => 1
  | .nil => 1
  | .ptr d => uptoBulk d + 1
  | .slice elems spare => uptoBulkAll elems + uptoBulkAll spare + 1
  | .agg parts => uptoBulkAll parts + 1
  | .iface _ d => uptoBulk d + 1
  | .map entries => uptoBulkEntries entries + 1
  | .held _ => 1
def uptoBulkAll {H : Type} : List (DataW H) → Nat
  | [] => 0
  | d :: r => uptoBulk d + uptoBulkAll r
def uptoBulkEntries {H : Type} : List (Lit × DataW H) → Nat
  | [] => 0
  | x :: r => uptoBulkEntry x + uptoBulkEntries r
def uptoBulkEntry {H : Type} : Lit × DataW H → Nat
  | (.string bytes, d) => bytes.length + uptoBulk d + 1
  | (_, d) => uptoBulk d + 1
 end
def uptoSmall : (H : Type) → List (DataW H) → Bool := fun _ ds => decide (uptoBulkAll ds ≤ 1048576)
def OpenSpec.upto (s : _root_.Go.ChangeSpec) : _root_.Go.OpenSpec := { _root_.Go.OpenSpec.ofChange s with cond := some uptoSmall }

/-- 'phonographlaw18.EthMine', WHERE WHAT IT READS IS OF BULK AT MOST 1048576: true; the input reads as it did. -/
def ethMineUptoRow : OpenClaim := { program := "ytieilgphcfiapaa", sum := "0c87607cbb47e23d164cb58de19416ab08305e19b60286007a22a85ac9212e65", func := "phonograph/phonographlaw18.EthMine", spec := "ethMine", unfollowed := true, recurses := true, apart := false, narrowed := true }
def EthMineUptoSaid : Prop := ethMineUptoRow.holds Try.pinned (OpenSpec.upto ethMineSpec)

/-- 'phonographlaw18.EthTells', WHERE WHAT IT READS IS OF BULK AT MOST 1048576: true; the input reads as it did. -/
def ethTellsUptoRow : OpenClaim := { program := "ytieilgphcfiapaa", sum := "0c87607cbb47e23d164cb58de19416ab08305e19b60286007a22a85ac9212e65", func := "phonograph/phonographlaw18.EthTells", spec := "ethTells", unfollowed := true, recurses := true, apart := false, narrowed := true }
def EthTellsUptoSaid : Prop := ethTellsUptoRow.holds Try.pinned (OpenSpec.upto ethTellsSpec)

/-- 'phonographlaw18.EthBack', WHERE WHAT IT READS IS OF BULK AT MOST 1048576: true; the input reads as it did. -/
def ethBackUptoRow : OpenClaim := { program := "ytieilgphcfiapaa", sum := "0c87607cbb47e23d164cb58de19416ab08305e19b60286007a22a85ac9212e65", func := "phonograph/phonographlaw18.EthBack", spec := "ethBack", unfollowed := true, recurses := true, apart := false, narrowed := true }
def EthBackUptoSaid : Prop := ethBackUptoRow.holds Try.pinned (OpenSpec.upto ethBackSpec)

/-- 'phonographlaw20.IpSums', WHERE WHAT IT READS IS OF BULK AT MOST 1048576: true; the input reads as it did. -/
def ipSumsUptoRow : OpenClaim := { program := "ytieilgphcfiapaa", sum := "0c87607cbb47e23d164cb58de19416ab08305e19b60286007a22a85ac9212e65", func := "phonograph/phonographlaw20.IpSums", spec := "ipSums", unfollowed := true, recurses := true, apart := false, narrowed := true }
def IpSumsUptoSaid : Prop := ipSumsUptoRow.holds Try.pinned (OpenSpec.upto ipSumsSpec)

/-- 'phonographlaw20.IpTells', WHERE WHAT IT READS IS OF BULK AT MOST 1048576: true; the input reads as it did. -/
def ipTellsUptoRow : OpenClaim := { program := "ytieilgphcfiapaa", sum := "0c87607cbb47e23d164cb58de19416ab08305e19b60286007a22a85ac9212e65", func := "phonograph/phonographlaw20.IpTells", spec := "ipTells", unfollowed := true, recurses := true, apart := false, narrowed := true }
def IpTellsUptoSaid : Prop := ipTellsUptoRow.holds Try.pinned (OpenSpec.upto ipTellsSpec)

/-- 'phonographlaw20.IpBack', WHERE WHAT IT READS IS OF BULK AT MOST 1048576: true; the input reads as it did. -/
def ipBackUptoRow : OpenClaim := { program := "ytieilgphcfiapaa", sum := "0c87607cbb47e23d164cb58de19416ab08305e19b60286007a22a85ac9212e65", func := "phonograph/phonographlaw20.IpBack", spec := "ipBack", unfollowed := true, recurses := true, apart := false, narrowed := true }
def IpBackUptoSaid : Prop := ipBackUptoRow.holds Try.pinned (OpenSpec.upto ipBackSpec)

/-- 'phonographlaw06.PortsLines', WHERE WHAT IT READS IS OF BULK AT MOST 1048576: true; the input reads as it did. -/
def portsLinesUptoRow : OpenClaim := { program := "ytieilgphcfiapaa", sum := "0c87607cbb47e23d164cb58de19416ab08305e19b60286007a22a85ac9212e65", func := "phonograph/phonographlaw06.PortsLines", spec := "portsLines", unfollowed := true, recurses := true, apart := false, narrowed := true }
def PortsLinesUptoSaid : Prop := portsLinesUptoRow.holds Try.pinned (OpenSpec.upto portsLinesSpec)

/-- 'phonographlaw06.PortsTell', WHERE WHAT IT READS IS OF BULK AT MOST 1048576: true; the input reads as it did. -/
def portsTellUptoRow : OpenClaim := { program := "ytieilgphcfiapaa", sum := "0c87607cbb47e23d164cb58de19416ab08305e19b60286007a22a85ac9212e65", func := "phonograph/phonographlaw06.PortsTell", spec := "portsTell", unfollowed := true, recurses := true, apart := false, narrowed := true }
def PortsTellUptoSaid : Prop := portsTellUptoRow.holds Try.pinned (OpenSpec.upto portsTellSpec)

/-- 'phonographlaw06.PortsOrder', WHERE WHAT IT READS IS OF BULK AT MOST 1048576: true; the input reads as it did. -/
def portsOrderUptoRow : OpenClaim := { program := "ytieilgphcfiapaa", sum := "0c87607cbb47e23d164cb58de19416ab08305e19b60286007a22a85ac9212e65", func := "phonograph/phonographlaw06.PortsOrder", spec := "portsOrder", unfollowed := true, recurses := true, apart := false, narrowed := true }
def PortsOrderUptoSaid : Prop := portsOrderUptoRow.holds Try.pinned (OpenSpec.upto portsOrderSpec)

/-- 'phonographlaw22.IcmpTurned', WHERE WHAT IT READS IS OF BULK AT MOST 1048576: true; the input reads as it did. -/
def icmpTurnedUptoRow : OpenClaim := { program := "ytieilgphcfiapaa", sum := "0c87607cbb47e23d164cb58de19416ab08305e19b60286007a22a85ac9212e65", func := "phonograph/phonographlaw22.IcmpTurned", spec := "icmpTurned", unfollowed := true, recurses := true, apart := false, narrowed := true }
def IcmpTurnedUptoSaid : Prop := icmpTurnedUptoRow.holds Try.pinned (OpenSpec.upto icmpTurnedSpec)

/-- 'phonographlaw22.IcmpEchoes', WHERE WHAT IT READS IS OF BULK AT MOST 1048576: true; the input reads as it did. -/
def icmpEchoesUptoRow : OpenClaim := { program := "ytieilgphcfiapaa", sum := "0c87607cbb47e23d164cb58de19416ab08305e19b60286007a22a85ac9212e65", func := "phonograph/phonographlaw22.IcmpEchoes", spec := "icmpEchoes", unfollowed := true, recurses := true, apart := false, narrowed := true }
def IcmpEchoesUptoSaid : Prop := icmpEchoesUptoRow.holds Try.pinned (OpenSpec.upto icmpEchoesSpec)

end Rows
end Go.Proofs.Ytieilgphcfiapaa
