/-
  No cell of these rows narrows 'for every input' (looked for: loops, veiled, ifaces, maps, wideKeys, modest, calm, conditions, laid).
  DERIVED. THE GIVEN ROWS OF THIS SEAT. 9 by the template 'for every input the law returns true; each argument reads behind the call as it read before'; 0 by the template 'total and deterministic' (their statements: YtnfepikgbdeomaaTotals.lean).
  GIVEN WITH THE SEED: the statements are not yours to turn. If you find one false, say at which input.
  Laid BY PROGRAM, IN A SANDBOX (cutbox-rows.mjs): the forced cells as the released guide's own fill.sh prints them over the translation dfe97f896ef3b686… (all of the seat's roots in one cut). By AI agents, Wed Nov 11 2026. No macro, syntax, notation, axiom, sorry.
-/
import Derived.Test.YtnfepikgbdeomaaChecked
import GoSem.Claim
import GoSem.ClaimJoined
import GoSem.ClaimMapViews
import Derived.JoinedTies
import Derived.KernelRfl
namespace Go.Proofs.Ytnfepikgbdeomaa
/- THE CELL 'sum', in the pinned program and in every row, IS THE sha256 OF THE DUMP (.gsa) THAT YtnfepikgbdeomaaProg.lean LOADS. Nothing in Lean hashes anything: it is a label: what it is worth is what the hold of that sum in a sandbox is worth. -/
noncomputable def Try.pinned : Pinned := { name := "ytnfepikgbdeomaa", sum := "dfe97f896ef3b68656cdb34680d458fc8e8d01dd20028ef9edd28b8ca0f46b11", checked := Try.checked }
namespace Rows
def none {H : Type} : Left H := { results := [], args := [] }

/-- 'phonographlaw07.RingTurns': WHATEVER THE INPUT: true; the input reads as it did. -/
def ringTurnsSpec : ChangeSpec := { name := "ringTurns", fn := fun _ => fun
  | [d1, d2, d3, d4] => { results := [.lit (.bool true)], args := [d1, d2, d3, d4] }
  | _ => none }
def ringTurnsRow : OpenClaim := { program := "ytnfepikgbdeomaa", sum := "dfe97f896ef3b68656cdb34680d458fc8e8d01dd20028ef9edd28b8ca0f46b11", func := "phonograph/phonographlaw07.RingTurns", spec := "ringTurns", unfollowed := true, recurses := true, apart := false }
def RingTurnsSaid : Prop := ringTurnsRow.holds Try.pinned (OpenSpec.ofChange ringTurnsSpec)

/-- ITS FALSE NEIGHBOUR: 'it returns false'. Refute it at one input. -/
def ringTurnsWrong : ChangeSpec := { name := "ringTurns", fn := fun _ => fun
  | [d1, d2, d3, d4] => { results := [.lit (.bool false)], args := [d1, d2, d3, d4] }
  | _ => none }
def RingTurnsWrongFalsely : Prop := ringTurnsRow.holds Try.pinned (OpenSpec.ofChange ringTurnsWrong)

/-- 'phonographlaw07.RingTells': WHATEVER THE INPUT: true; the input reads as it did. -/
def ringTellsSpec : ChangeSpec := { name := "ringTells", fn := fun _ => fun
  | [d1, d2, d3, d4, d5, d6, d7] => { results := [.lit (.bool true)], args := [d1, d2, d3, d4, d5, d6, d7] }
  | _ => none }
def ringTellsRow : OpenClaim := { program := "ytnfepikgbdeomaa", sum := "dfe97f896ef3b68656cdb34680d458fc8e8d01dd20028ef9edd28b8ca0f46b11", func := "phonograph/phonographlaw07.RingTells", spec := "ringTells", unfollowed := true, recurses := true, apart := false }
def RingTellsSaid : Prop := ringTellsRow.holds Try.pinned (OpenSpec.ofChange ringTellsSpec)

/-- ITS FALSE NEIGHBOUR: 'it returns false'. Refute it at one input. -/
def ringTellsWrong : ChangeSpec := { name := "ringTells", fn := fun _ => fun
  | [d1, d2, d3, d4, d5, d6, d7] => { results := [.lit (.bool false)], args := [d1, d2, d3, d4, d5, d6, d7] }
  | _ => none }
def RingTellsWrongFalsely : Prop := ringTellsRow.holds Try.pinned (OpenSpec.ofChange ringTellsWrong)

/-- 'phonographlaw07.RingKeeps': WHATEVER THE INPUT: true; the input reads as it did. -/
def ringKeepsSpec : ChangeSpec := { name := "ringKeeps", fn := fun _ => fun
  | [d1, d2, d3, d4, d5, d6, d7] => { results := [.lit (.bool true)], args := [d1, d2, d3, d4, d5, d6, d7] }
  | _ => none }
def ringKeepsRow : OpenClaim := { program := "ytnfepikgbdeomaa", sum := "dfe97f896ef3b68656cdb34680d458fc8e8d01dd20028ef9edd28b8ca0f46b11", func := "phonograph/phonographlaw07.RingKeeps", spec := "ringKeeps", unfollowed := true, recurses := true, apart := false }
def RingKeepsSaid : Prop := ringKeepsRow.holds Try.pinned (OpenSpec.ofChange ringKeepsSpec)

/-- ITS FALSE NEIGHBOUR: 'it returns false'. Refute it at one input. -/
def ringKeepsWrong : ChangeSpec := { name := "ringKeeps", fn := fun _ => fun
  | [d1, d2, d3, d4, d5, d6, d7] => { results := [.lit (.bool false)], args := [d1, d2, d3, d4, d5, d6, d7] }
  | _ => none }
def RingKeepsWrongFalsely : Prop := ringKeepsRow.holds Try.pinned (OpenSpec.ofChange ringKeepsWrong)

/-- 'phonographlaw12.RecordStrict': WHATEVER THE INPUT: true; the input reads as it did. -/
def recordStrictSpec : ChangeSpec := { name := "recordStrict", fn := fun _ => fun
  | [d1, d2, d3, d4, d5, d6, d7] => { results := [.lit (.bool true)], args := [d1, d2, d3, d4, d5, d6, d7] }
  | _ => none }
def recordStrictRow : OpenClaim := { program := "ytnfepikgbdeomaa", sum := "dfe97f896ef3b68656cdb34680d458fc8e8d01dd20028ef9edd28b8ca0f46b11", func := "phonograph/phonographlaw12.RecordStrict", spec := "recordStrict", unfollowed := true, recurses := true, apart := false }
def RecordStrictSaid : Prop := recordStrictRow.holds Try.pinned (OpenSpec.ofChange recordStrictSpec)

/-- ITS FALSE NEIGHBOUR: 'it returns false'. Refute it at one input. -/
def recordStrictWrong : ChangeSpec := { name := "recordStrict", fn := fun _ => fun
  | [d1, d2, d3, d4, d5, d6, d7] => { results := [.lit (.bool false)], args := [d1, d2, d3, d4, d5, d6, d7] }
  | _ => none }
def RecordStrictWrongFalsely : Prop := recordStrictRow.holds Try.pinned (OpenSpec.ofChange recordStrictWrong)

/-- 'phonographlaw12.RecordTells': WHATEVER THE INPUT: true; the input reads as it did. -/
def recordTellsSpec : ChangeSpec := { name := "recordTells", fn := fun _ => fun
  | [d1, d2, d3, d4, d5] => { results := [.lit (.bool true)], args := [d1, d2, d3, d4, d5] }
  | _ => none }
def recordTellsRow : OpenClaim := { program := "ytnfepikgbdeomaa", sum := "dfe97f896ef3b68656cdb34680d458fc8e8d01dd20028ef9edd28b8ca0f46b11", func := "phonograph/phonographlaw12.RecordTells", spec := "recordTells", unfollowed := true, recurses := true, apart := false }
def RecordTellsSaid : Prop := recordTellsRow.holds Try.pinned (OpenSpec.ofChange recordTellsSpec)

/-- ITS FALSE NEIGHBOUR: 'it returns false'. Refute it at one input. -/
def recordTellsWrong : ChangeSpec := { name := "recordTells", fn := fun _ => fun
  | [d1, d2, d3, d4, d5] => { results := [.lit (.bool false)], args := [d1, d2, d3, d4, d5] }
  | _ => none }
def RecordTellsWrongFalsely : Prop := recordTellsRow.holds Try.pinned (OpenSpec.ofChange recordTellsWrong)

/-- 'phonographlaw12.RecordBack': WHATEVER THE INPUT: true; the input reads as it did. -/
def recordBackSpec : ChangeSpec := { name := "recordBack", fn := fun _ => fun
  | [d1, d2, d3, d4, d5, d6] => { results := [.lit (.bool true)], args := [d1, d2, d3, d4, d5, d6] }
  | _ => none }
def recordBackRow : OpenClaim := { program := "ytnfepikgbdeomaa", sum := "dfe97f896ef3b68656cdb34680d458fc8e8d01dd20028ef9edd28b8ca0f46b11", func := "phonograph/phonographlaw12.RecordBack", spec := "recordBack", unfollowed := true, recurses := true, apart := false }
def RecordBackSaid : Prop := recordBackRow.holds Try.pinned (OpenSpec.ofChange recordBackSpec)

/-- ITS FALSE NEIGHBOUR: 'it returns false'. Refute it at one input. -/
def recordBackWrong : ChangeSpec := { name := "recordBack", fn := fun _ => fun
  | [d1, d2, d3, d4, d5, d6] => { results := [.lit (.bool false)], args := [d1, d2, d3, d4, d5, d6] }
  | _ => none }
def RecordBackWrongFalsely : Prop := recordBackRow.holds Try.pinned (OpenSpec.ofChange recordBackWrong)

/-- 'phonographlaw12.RecordBurst': WHATEVER THE INPUT: true; the input reads as it did. -/
def recordBurstSpec : ChangeSpec := { name := "recordBurst", fn := fun _ => fun
  | [d1, d2, d3, d4, d5] => { results := [.lit (.bool true)], args := [d1, d2, d3, d4, d5] }
  | _ => none }
def recordBurstRow : OpenClaim := { program := "ytnfepikgbdeomaa", sum := "dfe97f896ef3b68656cdb34680d458fc8e8d01dd20028ef9edd28b8ca0f46b11", func := "phonograph/phonographlaw12.RecordBurst", spec := "recordBurst", unfollowed := true, recurses := true, apart := false }
def RecordBurstSaid : Prop := recordBurstRow.holds Try.pinned (OpenSpec.ofChange recordBurstSpec)

/-- ITS FALSE NEIGHBOUR: 'it returns false'. Refute it at one input. -/
def recordBurstWrong : ChangeSpec := { name := "recordBurst", fn := fun _ => fun
  | [d1, d2, d3, d4, d5] => { results := [.lit (.bool false)], args := [d1, d2, d3, d4, d5] }
  | _ => none }
def RecordBurstWrongFalsely : Prop := recordBurstRow.holds Try.pinned (OpenSpec.ofChange recordBurstWrong)

/-- 'phonographlaw19.ArpAnswers': WHATEVER THE INPUT: true; the input reads as it did. -/
def arpAnswersSpec : ChangeSpec := { name := "arpAnswers", fn := fun _ => fun
  | [d1, d2, d3, d4] => { results := [.lit (.bool true)], args := [d1, d2, d3, d4] }
  | _ => none }
def arpAnswersRow : OpenClaim := { program := "ytnfepikgbdeomaa", sum := "dfe97f896ef3b68656cdb34680d458fc8e8d01dd20028ef9edd28b8ca0f46b11", func := "phonograph/phonographlaw19.ArpAnswers", spec := "arpAnswers", inPlace := ["slices.overlaps[phonograph/api.Neighbor]"], unfollowed := true, recurses := true, apart := false }
def ArpAnswersSaid : Prop := arpAnswersRow.holds Try.pinned (OpenSpec.ofChange arpAnswersSpec)

/-- ITS FALSE NEIGHBOUR: 'it returns false'. Refute it at one input. -/
def arpAnswersWrong : ChangeSpec := { name := "arpAnswers", fn := fun _ => fun
  | [d1, d2, d3, d4] => { results := [.lit (.bool false)], args := [d1, d2, d3, d4] }
  | _ => none }
def ArpAnswersWrongFalsely : Prop := arpAnswersRow.holds Try.pinned (OpenSpec.ofChange arpAnswersWrong)

/-- 'phonographlaw19.ArpLearns': WHATEVER THE INPUT: true; the input reads as it did. -/
def arpLearnsSpec : ChangeSpec := { name := "arpLearns", fn := fun _ => fun
  | [d1, d2, d3, d4, d5] => { results := [.lit (.bool true)], args := [d1, d2, d3, d4, d5] }
  | _ => none }
def arpLearnsRow : OpenClaim := { program := "ytnfepikgbdeomaa", sum := "dfe97f896ef3b68656cdb34680d458fc8e8d01dd20028ef9edd28b8ca0f46b11", func := "phonograph/phonographlaw19.ArpLearns", spec := "arpLearns", inPlace := ["slices.overlaps[phonograph/api.Neighbor]"], unfollowed := true, recurses := true, apart := false }
def ArpLearnsSaid : Prop := arpLearnsRow.holds Try.pinned (OpenSpec.ofChange arpLearnsSpec)

/-- ITS FALSE NEIGHBOUR: 'it returns false'. Refute it at one input. -/
def arpLearnsWrong : ChangeSpec := { name := "arpLearns", fn := fun _ => fun
  | [d1, d2, d3, d4, d5] => { results := [.lit (.bool false)], args := [d1, d2, d3, d4, d5] }
  | _ => none }
def ArpLearnsWrongFalsely : Prop := arpLearnsRow.holds Try.pinned (OpenSpec.ofChange arpLearnsWrong)

/- THE SECOND FORM. 'bulk': how many values and letters a reading holds, each counted each time it is reached (what is shared counts as often as it is met; a slice's spare places count too). A statement '..UptoSaid' is the law's where the arguments, and the package variables that the reading takes, are together of bulk at most 1048576: NARROWER than '..Said'. Prove '..Said' where nothing that the law and all that it calls make is longer than what came in: it says more and counts as full. Else prove '..UptoSaid'. A law counts once. -/
mutual
def uptoBulk {H : Type} : DataW H → Nat
  | .lit (.string bytes) => bytes.length + 1
  | .lit _ => 1
  | .nil => 1
  | .ptr d => uptoBulk d + 1
  | .slice elems spare => uptoBulkAll elems + uptoBulkAll spare + 1
  | .agg parts => uptoBulkAll parts + 1
  | .iface _ d => uptoBulk d + 1
  | .map entries => uptoBulkEntries entries + 1
  | .held _ => 1
def uptoBulkAll {H : Type} : List (DataW H) → Nat
  | [] => 0
  | d :: r => uptoBulk d + uptoBulkAll r
def uptoBulkEntries {H : Type} : List (Lit × DataW H) → Nat
  | [] => 0
  | x :: r => uptoBulkEntry x + uptoBulkEntries r
def uptoBulkEntry {H : Type} : Lit × DataW H → Nat
  | (.string bytes, d) => bytes.length + uptoBulk d + 1
  | (_, d) => uptoBulk d + 1
 end
def uptoSmall : (H : Type) → List (DataW H) → Bool := fun _ ds => decide (uptoBulkAll ds ≤ 1048576)
def OpenSpec.upto (s : _root_.Go.ChangeSpec) : _root_.Go.OpenSpec := { _root_.Go.OpenSpec.ofChange s with cond := some uptoSmall }

/-- 'phonographlaw07.RingTurns', WHERE WHAT IT READS IS OF BULK AT MOST 1048576: true; the input reads as it did. -/
def ringTurnsUptoRow : OpenClaim := { program := "ytnfepikgbdeomaa", sum := "dfe97f896ef3b68656cdb34680d458fc8e8d01dd20028ef9edd28b8ca0f46b11", func := "phonograph/phonographlaw07.RingTurns", spec := "ringTurns", unfollowed := true, recurses := true, apart := false, narrowed := true }
def RingTurnsUptoSaid : Prop := ringTurnsUptoRow.holds Try.pinned (OpenSpec.upto ringTurnsSpec)

/-- 'phonographlaw07.RingTells', WHERE WHAT IT READS IS OF BULK AT MOST 1048576: true; the input reads as it did. -/
def ringTellsUptoRow : OpenClaim := { program := "ytnfepikgbdeomaa", sum := "dfe97f896ef3b68656cdb34680d458fc8e8d01dd20028ef9edd28b8ca0f46b11", func := "phonograph/phonographlaw07.RingTells", spec := "ringTells", unfollowed := true, recurses := true, apart := false, narrowed := true }
def RingTellsUptoSaid : Prop := ringTellsUptoRow.holds Try.pinned (OpenSpec.upto ringTellsSpec)

/-- 'phonographlaw07.RingKeeps', WHERE WHAT IT READS IS OF BULK AT MOST 1048576: true; the input reads as it did. -/
def ringKeepsUptoRow : OpenClaim := { program := "ytnfepikgbdeomaa", sum := "dfe97f896ef3b68656cdb34680d458fc8e8d01dd20028ef9edd28b8ca0f46b11", func := "phonograph/phonographlaw07.RingKeeps", spec := "ringKeeps", unfollowed := true, recurses := true, apart := false, narrowed := true }
def RingKeepsUptoSaid : Prop := ringKeepsUptoRow.holds Try.pinned (OpenSpec.upto ringKeepsSpec)

/-- 'phonographlaw12.RecordStrict', WHERE WHAT IT READS IS OF BULK AT MOST 1048576: true; the input reads as it did. -/
def recordStrictUptoRow : OpenClaim := { program := "ytnfepikgbdeomaa", sum := "dfe97f896ef3b68656cdb34680d458fc8e8d01dd20028ef9edd28b8ca0f46b11", func := "phonograph/phonographlaw12.RecordStrict", spec := "recordStrict", unfollowed := true, recurses := true, apart := false, narrowed := true }
def RecordStrictUptoSaid : Prop := recordStrictUptoRow.holds Try.pinned (OpenSpec.upto recordStrictSpec)

/-- 'phonographlaw12.RecordTells', WHERE WHAT IT READS IS OF BULK AT MOST 1048576: true; the input reads as it did. -/
def recordTellsUptoRow : OpenClaim := { program := "ytnfepikgbdeomaa", sum := "dfe97f896ef3b68656cdb34680d458fc8e8d01dd20028ef9edd28b8ca0f46b11", func := "phonograph/phonographlaw12.RecordTells", spec := "recordTells", unfollowed := true, recurses := true, apart := false, narrowed := true }
def RecordTellsUptoSaid : Prop := recordTellsUptoRow.holds Try.pinned (OpenSpec.upto recordTellsSpec)

/-- 'phonographlaw12.RecordBack', WHERE WHAT IT READS IS OF BULK AT MOST 1048576: true; the input reads as it did. -/
def recordBackUptoRow : OpenClaim := { program := "ytnfepikgbdeomaa", sum := "dfe97f896ef3b68656cdb34680d458fc8e8d01dd20028ef9edd28b8ca0f46b11", func := "phonograph/phonographlaw12.RecordBack", spec := "recordBack", unfollowed := true, recurses := true, apart := false, narrowed := true }
def RecordBackUptoSaid : Prop := recordBackUptoRow.holds Try.pinned (OpenSpec.upto recordBackSpec)

/-- 'phonographlaw12.RecordBurst', WHERE WHAT IT READS IS OF BULK AT MOST 1048576: true; the input reads as it did. -/
def recordBurstUptoRow : OpenClaim := { program := "ytnfepikgbdeomaa", sum := "dfe97f896ef3b68656cdb34680d458fc8e8d01dd20028ef9edd28b8ca0f46b11", func := "phonograph/phonographlaw12.RecordBurst", spec := "recordBurst", unfollowed := true, recurses := true, apart := false, narrowed := true }
def RecordBurstUptoSaid : Prop := recordBurstUptoRow.holds Try.pinned (OpenSpec.upto recordBurstSpec)

/-- 'phonographlaw19.ArpAnswers', WHERE WHAT IT READS IS OF BULK AT MOST 1048576: true; the input reads as it did. -/
def arpAnswersUptoRow : OpenClaim := { program := "ytnfepikgbdeomaa", sum := "dfe97f896ef3b68656cdb34680d458fc8e8d01dd20028ef9edd28b8ca0f46b11", func := "phonograph/phonographlaw19.ArpAnswers", spec := "arpAnswers", inPlace := ["slices.overlaps[phonograph/api.Neighbor]"], unfollowed := true, recurses := true, apart := false, narrowed := true }
def ArpAnswersUptoSaid : Prop := arpAnswersUptoRow.holds Try.pinned (OpenSpec.upto arpAnswersSpec)

/-- 'phonographlaw19.ArpLearns', WHERE WHAT IT READS IS OF BULK AT MOST 1048576: true; the input reads as it did. -/
def arpLearnsUptoRow : OpenClaim := { program := "ytnfepikgbdeomaa", sum := "dfe97f896ef3b68656cdb34680d458fc8e8d01dd20028ef9edd28b8ca0f46b11", func := "phonograph/phonographlaw19.ArpLearns", spec := "arpLearns", inPlace := ["slices.overlaps[phonograph/api.Neighbor]"], unfollowed := true, recurses := true, apart := false, narrowed := true }
def ArpLearnsUptoSaid : Prop := arpLearnsUptoRow.holds Try.pinned (OpenSpec.upto arpLearnsSpec)

end Rows
end Go.Proofs.Ytnfepikgbdeomaa
