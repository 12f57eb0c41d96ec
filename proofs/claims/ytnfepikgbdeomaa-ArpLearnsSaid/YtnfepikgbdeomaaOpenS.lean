/-
  How an argument that came in is read: structs by value.
-/
import Derived.Test.YtnfepikgbdeomaaFrameS
import Derived.Test.YtnfepikgbdeomaaEth
namespace Go.Proofs.Ytnfepikgbdeomaa
set_option maxRecDepth 20000
open Go.ChangeShapes Go.WideShapes Go.ChangeAt Go.RowKit Go.Deep
open Go.ChangeMaps (open_string shut_string)
set_option linter.unusedVariables false
set_option linter.unusedSimpArgs false

theorem byte_of_nat {n : Nat} (h : n < 256) : ∃ u : UInt8, (n : Int) = (u.toNat : Int) := ⟨UInt8.ofNat n, by rw [UInt8.toNat_ofNat']; omega⟩
theorem drop_take_one {α : Type} (l : List α) (i : Nat) (h : i < l.length) : (l.drop i).take 1 = [l[i]] := by
  rw [List.drop_eq_getElem_cons h]; rfl

/-- A card's address that came in. -/
theorem open_mac6 {H : Type} {enc : TypeId × Value → H} {W : World} {fuel : Nat} {a b c d e f : Value} {y : DataW H × List MemPlace}
    (hy : DataW.trod enc Try.prog W 0 (fun _ => true) true fuel 96 [a, b, c, d, e, f] = some y) : ∃ m : Mc, a = .int .u8 (m.a0.toNat : Int) ∧ b = .int .u8 (m.a1.toNat : Int) ∧ c = .int .u8 (m.a2.toNat : Int) ∧ d = .int .u8 (m.a3.toNat : Int) ∧ e = .int .u8 (m.a4.toNat : Int) ∧ f = .int .u8 (m.a5.toNat : Int) := by
  obtain ⟨ys, n, _, _, _, hl, hf⟩ := DataW.trod_array Try.underlying96 hy
  have hc : Try.prog.cellsOf 5 = 1 := by kernel_rfl
  have key : ∀ (v : Value) (i : Nat), i < 6 → [a, b, c, d, e, f][i]? = some v → ∃ u : UInt8, v = .int .u8 (u.toNat : Int) := by
    intro v i hi hv
    have h := hf i hi
    rw [hc, Nat.mul_one, drop_take_one _ _ (by simpa using hi), List.getElem?_eq_getElem (by omega)] at h
    obtain ⟨k, hk, _, hw⟩ := DataW.trod_int Try.underlying5 h
    obtain ⟨q, rfl, hq⟩ := nat_u8 hw
    obtain ⟨u, hu⟩ := byte_of_nat hq
    rw [List.getElem?_eq_getElem (by simpa using hi)] at hv
    injection hv with hv
    injection hk with hk
    exact ⟨u, by rw [← hv, hk, hu]⟩
  obtain ⟨u0, e0⟩ := key a 0 (by omega) rfl
  obtain ⟨u1, e1⟩ := key b 1 (by omega) rfl
  obtain ⟨u2, e2⟩ := key c 2 (by omega) rfl
  obtain ⟨u3, e3⟩ := key d 3 (by omega) rfl
  obtain ⟨u4, e4⟩ := key e 4 (by omega) rfl
  obtain ⟨u5, e5⟩ := key f 5 (by omega) rfl
  exact ⟨⟨u0, u1, u2, u3, u4, u5⟩, e0, e1, e2, e3, e4, e5⟩

end Go.Proofs.Ytnfepikgbdeomaa
