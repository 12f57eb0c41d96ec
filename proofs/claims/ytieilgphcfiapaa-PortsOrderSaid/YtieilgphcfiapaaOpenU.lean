/-
  How numbers of 64 bits that came in are read.
-/
import Derived.Test.YtieilgphcfiapaaFrame
import Derived.Test.YtieilgphcfiapaaPortsI
namespace Go.Proofs.Ytieilgphcfiapaa
set_option maxRecDepth 20000
open Go.ChangeShapes Go.WideShapes Go.ChangeAt Go.RowKit
set_option linter.unusedVariables false
set_option linter.unusedSimpArgs false

theorem rdu_of_cells {W : World} {x : Addr} {l c : Nat} {zs : List Int} (hl : l ≤ c) (hm : c ≤ maxLen) (hz : zs.length = c) (hcell : ∀ i, i < zs.length → W.cell? (x.add i) = some (.int .u64 (zs.getD i 0)))
    (hwz : ∀ n ∈ zs, (Lit.int .u64 n).wf = true) : RdU W (some x) l c ((zs.take l).map fun z => z.toNat) := by
  refine ⟨?_, by simp; omega, hl, hm, ?_⟩
  · rcases Nat.eq_zero_or_pos l with rfl | hpos
    · left; simp
    · right
      obtain ⟨b, o, spot⟩ := x
      have hc0 := hcell 0 (by omega)
      have hspot : spot = none := by simpa [Addr.add] using World.cell?_spot hc0
      subst hspot
      refine ⟨b, o, rfl, ?_, fun i v hv => ?_⟩
      · have := World.block_lt_of_cell? W _ hc0
        simpa [Addr.add] using this
      · have hi : i < (((zs.take l).map fun z => z.toNat).map vU).length := (List.getElem?_eq_some_iff.1 hv).1
        have hi' : i < l := by simp at hi; omega
        have hc := hcell i (by omega)
        rw [Addr.add_lit] at hc
        rw [hc, ← hv]
        have hzi : i < zs.length := by omega
        have hmem : zs[i] ∈ zs := List.getElem_mem hzi
        obtain ⟨k, hk, hk2⟩ := nat_u64 (hwz _ hmem)
        have e : zs.getD i 0 = (k : Int) := by rw [← hk]; simp [List.getD, hzi]
        rw [e]
        simp only [List.getElem?_map, List.getElem?_take, hi', if_true, List.getElem?_eq_getElem hzi, Option.map_some, hk, vU]
        rfl
  · intro t ht
    obtain ⟨z, hz1, rfl⟩ := List.mem_map.1 ht
    obtain ⟨k, hk, hk2⟩ := nat_u64 (hwz _ (List.mem_of_mem_take hz1))
    rw [hk]; simpa using hk2

/-- A slice of numbers that came in. -/
theorem open_u64s {H : Type} {enc : TypeId × Value → H} {W : World} {base : Nat} {v : Value} {d : DataW H} {p : List MemPlace} (hv : Value.okWide Try.prog W .any base 83 v)
    (h : ∃ fuel, DataW.trod enc Try.prog W 0 (fun _ => true) true fuel 83 v.cells.toList = some (d, p)) :
    ∃ A n c ts, v = .slice A n c ∧ RdU W A n c ts := by
  obtain ⟨a0, len0, cap0, rfl⟩ := okWide_slice Try.underlying83 hv
  obtain ⟨fuel, hf⟩ := h
  rcases open_ints Try.underlying83 Try.underlying47 (by kernel_rfl) hf with ⟨hcs, _⟩ | ⟨x, l, c, zs, hcs, _, hl, hm, hz, _, hcell, hwz⟩
  · simp [Value.cells] at hcs
    obtain ⟨rfl, rfl, rfl⟩ := hcs
    exact ⟨_, _, _, [], rfl, .inl rfl, rfl, Nat.le_refl _, by simp [maxLen], by simp⟩
  · simp [Value.cells] at hcs
    obtain ⟨rfl, rfl, rfl⟩ := hcs
    exact ⟨_, _, _, _, rfl, rdu_of_cells hl hm (by simpa using hz) hcell hwz⟩
end Go.Proofs.Ytieilgphcfiapaa
