/-
  Layer 18, frames: Put, of the package and of the document.
-/
import Derived.Test.YtnfepikgbdeomaaEth
import Derived.Test.YtnfepikgbdeomaaNumE
import Derived.Test.YtnfepikgbdeomaaPlanT
namespace Go.Proofs.Ytnfepikgbdeomaa
set_option maxRecDepth 20000
open Go.RowKit
set_option linter.unusedVariables false
set_option linter.unusedSimpArgs false

/-- Six bytes in a row. -/
theorem MacAt.rd {w : World} {g o : Nat} {m : Mc} (h : MacAt w g o m) (hg : g < w.heap.size) : RdB w (some ⟨g, o, none⟩) 6 6 m.l := by
  obtain ⟨h0, h1, h2, h3, h4, h5⟩ := h
  refine ⟨.inr ⟨g, o, rfl, hg, fun i v hv => ?_⟩, rfl, Nat.le_refl _, by simp [maxLen]⟩
  obtain ⟨hi, rfl⟩ := List.getElem?_eq_some_iff.1 hv
  have hi6 : i < 6 := by simpa [Mc.l] using hi
  match i, hi6 with
  | 0, _ => exact h0
  | 1, _ => exact h1
  | 2, _ => exact h2
  | 3, _ => exact h3
  | 4, _ => exact h4
  | 5, _ => exact h5

/-- A frame in a box. -/
def FrAt (w : World) (g : Nat) (d s : Mc) (k : Nat) (A : Option Addr) (n c : Nat) : Prop :=
  MacAt w g 0 d ∧ MacAt w g 6 s ∧ w.cell? ⟨g, 12, none⟩ = some (.int .u16 k) ∧ w.cell? ⟨g, 13, none⟩ = some (.slice A n c)
theorem FrAt.below {W w : World} {g : Nat} {d s : Mc} {k : Nat} {A : Option Addr} {n c : Nat} (h : FrAt W g d s k A n c) (hb : Below W.heap.size W w) (hg : g < W.heap.size) : FrAt w g d s k A n c :=
  ⟨h.1.below hb hg, h.2.1.below hb hg, (hb.cell (p := ⟨g, 12, none⟩) hg).trans h.2.2.1, (hb.cell (p := ⟨g, 13, none⟩) hg).trans h.2.2.2⟩
theorem frBox (w : World) (d s : Mc) (k : Nat) (A : Option Addr) (n c : Nat) (T : TypeId) : FrAt (w.alloc (.cells #[.int .u8 (d.a0.toNat : Int), .int .u8 (d.a1.toNat : Int), .int .u8 (d.a2.toNat : Int), .int .u8 (d.a3.toNat : Int), .int .u8 (d.a4.toNat : Int), .int .u8 (d.a5.toNat : Int), .int .u8 (s.a0.toNat : Int), .int .u8 (s.a1.toNat : Int), .int .u8 (s.a2.toNat : Int), .int .u8 (s.a3.toNat : Int), .int .u8 (s.a4.toNat : Int), .int .u8 (s.a5.toNat : Int), .int .u16 k, .slice A n c] T)) w.heap.size d s k A n c :=
  ⟨⟨alloc_box _ _ _ 0, alloc_box _ _ _ 1, alloc_box _ _ _ 2, alloc_box _ _ _ 3, alloc_box _ _ _ 4, alloc_box _ _ _ 5⟩, ⟨alloc_box _ _ _ 6, alloc_box _ _ _ 7, alloc_box _ _ _ 8, alloc_box _ _ _ 9, alloc_box _ _ _ 10, alloc_box _ _ _ 11⟩, alloc_box _ _ _ 12, alloc_box _ _ _ 13⟩

/-- A frame's bytes. -/
def ethPutL (d s : Mc) (k : Nat) (xs : List UInt8) : List UInt8 := if 166 < xs.length then [] else d.l ++ (s.l ++ (beB k 2 ++ xs))
def ethPutE (xs : List UInt8) : Int := if 166 < xs.length then 2 else 0
end Go.Proofs.Ytnfepikgbdeomaa
