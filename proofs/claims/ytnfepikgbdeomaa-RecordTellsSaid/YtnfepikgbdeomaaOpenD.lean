/-
  How an argument that came in is read: a digest; a head.
-/
import Derived.Test.YtnfepikgbdeomaaFrameS
import Derived.Test.YtnfepikgbdeomaaSup
namespace Go.Proofs.Ytnfepikgbdeomaa
set_option maxRecDepth 20000
open Go.ChangeShapes Go.WideShapes Go.ChangeAt Go.RowKit Go.Deep
open Go.ChangeMaps (open_string shut_string)
set_option linter.unusedVariables false
set_option linter.unusedSimpArgs false

theorem bytes_of_cells : ∀ (cs : List Value), (∀ (i : Nat) (v : Value), cs[i]? = some v → ∃ u : UInt8, v = vB u) → ∃ D : List UInt8, cs = D.map vB
  | [], _ => ⟨[], rfl⟩
  | c :: cs, h => by
    obtain ⟨u, hu⟩ := h 0 c rfl
    obtain ⟨D, hD⟩ := bytes_of_cells cs (fun i v hv => h (i + 1) v (by simpa using hv))
    exact ⟨u :: D, by rw [hu, hD]; rfl⟩
theorem open_digest32 {H : Type} {enc : TypeId × Value → H} {W : World} {fuel : Nat} {cs : List Value} {y : DataW H × List MemPlace} (hl : cs.length = 32)
    (hy : DataW.trod enc Try.prog W 0 (fun _ => true) true fuel 67 cs = some y) : ∃ D : List UInt8, cs = D.map vB ∧ D.length = 32 := by
  obtain ⟨ys, n, _, _, _, hl2, hf⟩ := DataW.trod_array Try.underlying67 hy
  have hc : Try.prog.cellsOf 5 = 1 := by kernel_rfl
  obtain ⟨D, hD⟩ := bytes_of_cells cs (fun i v hv => by
    have hi : i < cs.length := (List.getElem?_eq_some_iff.1 hv).1
    have h := hf i (by omega)
    rw [hc, Nat.mul_one, List.drop_eq_getElem_cons hi, List.take_succ_cons, List.take_zero, List.getElem?_eq_getElem (by omega)] at h
    obtain ⟨k, hk, _, hw⟩ := DataW.trod_int Try.underlying5 h
    obtain ⟨q, rfl, hq⟩ := nat_u8 hw
    rw [List.getElem?_eq_getElem hi] at hv
    injection hv with hv
    injection hk with hk
    refine ⟨UInt8.ofNat q, ?_⟩
    rw [← hv, hk, vB, UInt8.toNat_ofNat']
    congr 1
    omega)
  exact ⟨D, hD, by rw [hD, List.length_map] at hl; exact hl⟩
theorem okWide_array {P : Program} {w : World} {r : Reach} {base : Nat} {t : TypeId} {v : Value} {n : Nat} {e : TypeId} (ht : P.underlying t = some (.array n e)) (h : Value.okWide P w r base t v) : ∃ cs, v = .agg cs ∧ cs.size = P.cellsOf t := by
  simp only [Value.okWide, ht] at h
  obtain ⟨cs, h1, h2, _⟩ := h
  exact ⟨cs, h1, h2⟩
/-- A digest that came in. -/
theorem open_digest {H : Type} {enc : TypeId × Value → H} {W : World} {base : Nat} {v : Value} {d0 : DataW H} {p : List MemPlace} (hv : Value.okWide Try.prog W .any base 67 v)
    (h : ∃ fuel, DataW.trod enc Try.prog W 0 (fun _ => true) true fuel 67 v.cells.toList = some (d0, p)) :
    ∃ D : List UInt8, v = .agg (D.map vB).toArray ∧ D.length = 32 := by
  obtain ⟨cs, rfl, hsz⟩ := okWide_array Try.underlying67 hv
  obtain ⟨fuel, hf⟩ := h
  have hN : Try.prog.cellsOf 67 = 32 := by kernel_rfl
  rw [hN] at hsz
  obtain ⟨D, hD, hl⟩ := open_digest32 (cs := cs.toList) (by simpa using hsz) (by simpa [Value.cells] using hf)
  exact ⟨D, by rw [← hD], hl⟩
end Go.Proofs.Ytnfepikgbdeomaa
