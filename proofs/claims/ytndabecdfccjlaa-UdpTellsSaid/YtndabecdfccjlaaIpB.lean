/-
  Layer 20: Put of the package.
-/
import Derived.Test.YtndabecdfccjlaaIp
import Derived.Test.YtndabecdfccjlaaOpsC
-- facts: PkAt
namespace Go.Proofs.Ytndabecdfccjlaa
set_option maxRecDepth 20000
open Go.RowKit
set_option linter.unusedVariables false
set_option linter.unusedSimpArgs false

/-- A packet in a box. -/
def PkAt (w : World) (g : Nat) (id : Nat) (more : Bool) (place proto : Int) (src dst : Nat) (A : Option Addr) (n c : Nat) : Prop :=
  w.cell? ⟨g, 0, none⟩ = some (.int .u16 id) ∧ w.cell? ⟨g, 1, none⟩ = some (.bool more) ∧ w.cell? ⟨g, 2, none⟩ = some (.int .i64 place) ∧ w.cell? ⟨g, 3, none⟩ = some (.int .i64 proto) ∧ w.cell? ⟨g, 4, none⟩ = some (.int .u32 src) ∧ w.cell? ⟨g, 5, none⟩ = some (.int .u32 dst) ∧ w.cell? ⟨g, 6, none⟩ = some (.slice A n c)
theorem PkAt.below {W w : World} {B g id : Nat} {more : Bool} {place proto : Int} {src dst : Nat} {A : Option Addr} {n c : Nat} (h : PkAt W g id more place proto src dst A n c) (hb : Below B W w) (hg : g < B) : PkAt w g id more place proto src dst A n c := by
  obtain ⟨h0, h1, h2, h3, h4, h5, h6⟩ := h
  exact ⟨(hb.cell (p := ⟨g, _, none⟩) hg).trans h0, (hb.cell (p := ⟨g, _, none⟩) hg).trans h1, (hb.cell (p := ⟨g, _, none⟩) hg).trans h2, (hb.cell (p := ⟨g, _, none⟩) hg).trans h3, (hb.cell (p := ⟨g, _, none⟩) hg).trans h4, (hb.cell (p := ⟨g, _, none⟩) hg).trans h5, (hb.cell (p := ⟨g, _, none⟩) hg).trans h6⟩
theorem bld0 (w : World) (T U : TypeId) : BldAt w ((w.alloc (.cells #[.slice none 0 0] T)).alloc (.cells #[.pointer (some ⟨w.heap.size, 0, none⟩)] U)) w.heap.size (w.heap.size + 1) [] :=
  ⟨((below_self w).alloc (Nat.le_refl _) _).alloc (by simp) _, Nat.le_refl _, by omega, by simp, by simp [go_sem], by simp [go_sem], none, 0, 0, by simp [go_sem], OwnB.nilB _ _⟩
theorem or_8192 (q : Nat) (h : q < 8192) : bits .or .u64 (q : Int) 8192 = ((q + 8192 : Nat) : Int) := by
  have e : q ||| 8192 = q + 8192 := by
    rw [Nat.or_comm, show (8192 : Nat) = 2 ^ 13 * 1 from rfl, ← Nat.two_pow_add_eq_or_of_lt (by omega)]; omega
  show IntKind.u64.wrap ((BitVec.ofInt 64 (q : Int) ||| BitVec.ofInt 64 8192).toNat : Nat) = _
  have e2 : (BitVec.ofInt 64 (q : Int) ||| BitVec.ofInt 64 8192).toNat = q + 8192 := by
    rw [BitVec.toNat_or, BitVec.toNat_ofInt, BitVec.toNat_ofInt]
    have h1 : ((q : Int) % ((2 ^ 64 : Nat) : Int)).toNat = q := by omega
    have h2 : ((8192 : Int) % ((2 ^ 64 : Nat) : Int)).toNat = 8192 := by decide
    rw [h1, h2, e]
  rw [e2, IntKind.wrap_u64]; omega

def ipPl (place : Int) (more : Bool) : Nat := place.toNat / 8 + if more = true then 8192 else 0
def ipPutL (id : Nat) (more : Bool) (place proto : Int) (src dst : Nat) (xs : List UInt8) : List UInt8 :=
  if ipCheck place proto xs.length = true then ipS (20 + xs.length) id (ipPl place more) proto.toNat src dst ++ xs else []
def ipPutE (place proto : Int) (xs : List UInt8) : Int := if ipCheck place proto xs.length = true then 0 else 2

end Go.Proofs.Ytndabecdfccjlaa
