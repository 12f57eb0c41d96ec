/-
  The walks of package crc and of the reference of layer 2.
-/
import Derived.Test.YteajboafcjeagaaCrcMath
import Derived.Test.YteajboafcjeagaaSl
namespace Go.Proofs.Yteajboafcjeagaa
set_option maxRecDepth 20000
open Go.RowKit
set_option linter.unusedVariables false
set_option linter.unusedSimpArgs false

/-! ### crc.Of -/
theorem not_u32 (r : Nat) (h : r < 4294967296) : bits .xor .u32 IntKind.u32.max (r : Int) = ((4294967295 - r : Nat) : Int) := by
  rw [show IntKind.u32.max = ((4294967295 : Nat) : Int) from by decide, u32_xor_nat _ _ (by omega) h, Nat.xor_comm, ← not_xor h]
def GoingI (g n x : Nat) (xs : List UInt8) (w : World) (i : Value) (wr : World) : Prop :=
  ∃ k, k ≤ n ∧ i = .int .i64 (k : Nat) ∧ wr.cell? ⟨g, 0, none⟩ = some (.int .u32 (crcReg x (xs.take k) : Nat)) ∧ wr.frozen? ⟨g, 0, none⟩ = false ∧ Below g w wr
def RetG (g : Nat) (w : World) (v : Value) (e : Ending) (w' : World) : Prop := e = .returned v ∧ Below g w w'

def OfI (n : Nat) (xs : List UInt8) (v i : Value) : Prop := ∃ k, k ≤ n ∧ i = .int .i64 (k : Nat) ∧ v = .int .u32 (crcReg 4294967295 (xs.take k) : Nat)
end Go.Proofs.Yteajboafcjeagaa
