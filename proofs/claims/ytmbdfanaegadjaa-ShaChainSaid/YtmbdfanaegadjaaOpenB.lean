/-
  How an argument that came in is read: a row of texts.
-/
import Derived.Test.YtmbdfanaegadjaaOpenD
import Derived.Test.YtmbdfanaegadjaaShaT
namespace Go.Proofs.Ytmbdfanaegadjaa
set_option maxRecDepth 20000
open Go.ChangeShapes Go.WideShapes Go.ChangeAt Go.RowKit Go.Deep
set_option linter.unusedVariables false
set_option linter.unusedSimpArgs false
set_option maxHeartbeats 2000000

theorem parts_of {W : World} (V : Nat → Value) (Y : Nat → List UInt8) : ∀ (is : List Nat), (∀ i ∈ is, ∃ A n c, V i = .slice A n c ∧ RdB W A n c (Y i)) → Parts W (is.map V) (is.map Y)
  | [], _ => trivial
  | i :: is, h => ⟨h i (by simp), parts_of V Y is (fun j hj => h j (by simp [hj]))⟩
/-- Texts that came in. -/
theorem open_bss {H : Type} {enc : TypeId × Value → H} {W : World} {base : Nat} {v : Value} {d : DataW H} {p : List MemPlace} (hv : Value.okWide Try.prog W .any base 42 v)
    (h : ∃ fuel, DataW.trod enc Try.prog W 0 (fun _ => true) true fuel 42 v.cells.toList = some (d, p)) :
    ∃ A n c vs yss, v = .slice A n c ∧ RdSS W A n c vs yss := by
  obtain ⟨a0, len0, cap0, rfl⟩ := okWide_slice Try.underlying42 hv
  obtain ⟨fuel, hf⟩ := h
  rcases open_slice1 Try.underlying42 (by kernel_rfl) hf with ⟨hcs, _⟩ | ⟨x, l, c, m, n, V, D, Pl, hcs, _, hl, hm, hmm, _, hcell⟩
  · simp [Value.cells] at hcs
    obtain ⟨rfl, rfl, rfl⟩ := hcs
    exact ⟨_, _, _, [], [], rfl, .inl rfl, rfl, Nat.le_refl _, by simp [maxLen], trivial⟩
  · simp [Value.cells] at hcs
    obtain ⟨rfl, rfl, rfl⟩ := hcs
    have hmc : m = cap0 := by simpa using hmm
    obtain ⟨Y, hY⟩ := choose_lt (α := List UInt8) (n := m) (p := fun i ys => ∃ A n c, V i = .slice A n c ∧ RdB W A n c ys) (fun i hi => by
      rcases open_ints Try.underlying30 Try.underlying5 (by kernel_rfl) (hcell i hi).2 with ⟨hcs, _⟩ | ⟨x', l', c', zs, hcs, _, hl', hm', hz, _, hc2, hwz⟩
      · injection hcs with hcs
        exact ⟨[], none, 0, 0, hcs, RdB.nilB _⟩
      · injection hcs with hcs
        exact ⟨_, _, _, _, hcs, rd_of_cells hl' hm' (by simpa using hz) hc2 hwz⟩)
    refine ⟨_, _, _, (List.range len0).map V, (List.range len0).map Y, rfl, ?_, by simp, hl, hm, parts_of V Y _ (fun i hi => hY i (by have := List.mem_range.1 hi; omega))⟩
    rcases Nat.eq_zero_or_pos len0 with rfl | hpos
    · left; simp
    · right
      obtain ⟨b, o, spot⟩ := x
      have hc0 := (hcell 0 (by omega)).1
      have hspot : spot = none := by simpa [Addr.add] using World.cell?_spot hc0
      subst hspot
      refine ⟨b, o, rfl, by have := World.block_lt_of_cell? W _ hc0; simpa [Addr.add] using this, fun i v hv => ?_⟩
      have hi : i < len0 := by have := (List.getElem?_eq_some_iff.1 hv).1; simpa using this
      have hc := (hcell i (by omega)).1
      rw [Addr.add_lit] at hc
      rw [hc, ← hv]
      simp [hi]
end Go.Proofs.Ytmbdfanaegadjaa
