/-
  The walk of CrcBurst.
-/
import Derived.Test.YtnfepikgbdeomaaCrcC
namespace Go.Proofs.Ytnfepikgbdeomaa
set_option maxRecDepth 20000
open Go.RowKit
set_option linter.unusedVariables false
set_option linter.unusedSimpArgs false

def BurstI (w : World) (base g N c5 F bits L : Nat) (v9 v10 : Value) (wr : World) : Prop :=
  ∃ (j : Nat) (ts : List UInt8), j ≤ 32 ∧ v10 = .int .i64 ((F + j : Nat) : Int) ∧ v9 = .int .u32 ((bits / 2 ^ j : Nat) : Int) ∧ OwnB wr base (some ⟨g, 0, none⟩) N c5 ts ∧
    lev ts = L ^^^ ((bits % 2 ^ j) * 2 ^ F) ∧ Below w.heap.size w wr

end Go.Proofs.Ytnfepikgbdeomaa
