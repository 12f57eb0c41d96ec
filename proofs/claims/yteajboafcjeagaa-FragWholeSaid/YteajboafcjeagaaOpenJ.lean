/-
  How numbers that came in are read.
-/
import Derived.Test.YteajboafcjeagaaFrame
import Derived.Test.YteajboafcjeagaaFrgT
namespace Go.Proofs.Yteajboafcjeagaa
set_option maxRecDepth 20000
open Go.ChangeShapes Go.WideShapes Go.ChangeAt Go.RowKit
set_option linter.unusedVariables false
set_option linter.unusedSimpArgs false

theorem rdiz_of_cells {W : World} {x : Addr} {l c : Nat} {zs : List Int} (hl : l ≤ c) (hm : c ≤ maxLen) (hz : zs.length = c) (hcell : ∀ i, i < zs.length → W.cell? (x.add i) = some (.int .i64 (zs.getD i 0)))
    (hwz : ∀ n ∈ zs, (Lit.int .i64 n).wf = true) : RdIz W (some x) l c (zs.take l) := by
  refine ⟨?_, by simp; omega, hl, hm, fun i hi => int_i64 (hwz i (List.mem_of_mem_take hi))⟩
  rcases Nat.eq_zero_or_pos l with rfl | hpos
  · left; simp
  · right
    obtain ⟨b, o, spot⟩ := x
    have hc0 := hcell 0 (by omega)
    have hspot : spot = none := by simpa [Addr.add] using World.cell?_spot hc0
    subst hspot
    refine ⟨b, o, rfl, ?_, fun i v hv => ?_⟩
    · have := World.block_lt_of_cell? W _ hc0
      simpa [Addr.add] using this
    · have hi : i < ((zs.take l).map (Value.int .i64)).length := (List.getElem?_eq_some_iff.1 hv).1
      have hi' : i < l := by simp at hi; omega
      have hc := hcell i (by omega)
      rw [Addr.add_lit] at hc
      rw [hc, ← hv]
      have hzi : i < zs.length := by omega
      simp [List.getElem?_take, hi', List.getElem?_eq_getElem hzi]
theorem open_iz {H : Type} {enc : TypeId × Value → H} {W : World} {base : Nat} {v : Value} {d : DataW H} {p : List MemPlace} (hv : Value.okWide Try.prog W .any base 51 v)
    (h : ∃ fuel, DataW.trod enc Try.prog W 0 (fun _ => true) true fuel 51 v.cells.toList = some (d, p)) :
    ∃ A n c is, v = .slice A n c ∧ RdIz W A n c is := by
  obtain ⟨a0, len0, cap0, rfl⟩ := okWide_slice Try.underlying51 hv
  obtain ⟨fuel, hf⟩ := h
  rcases open_ints Try.underlying51 Try.underlying3 (by kernel_rfl) hf with ⟨hcs, _⟩ | ⟨x, l, c, zs, hcs, _, hl, hm, hz, _, hcell, hwz⟩
  · simp [Value.cells] at hcs
    obtain ⟨rfl, rfl, rfl⟩ := hcs
    exact ⟨_, _, _, [], rfl, .inl rfl, rfl, Nat.le_refl _, by simp [maxLen], by simp⟩
  · simp [Value.cells] at hcs
    obtain ⟨rfl, rfl, rfl⟩ := hcs
    exact ⟨_, _, _, _, rfl, rdiz_of_cells hl hm (by simpa using hz) hcell hwz⟩
end Go.Proofs.Yteajboafcjeagaa
