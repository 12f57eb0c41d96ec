/-
  How an argument that came in is read: a digest; a head.
-/
import Derived.Test.YtmbdfanaegadjaaFrameS
import Derived.Test.YtmbdfanaegadjaaSup
namespace Go.Proofs.Ytmbdfanaegadjaa
set_option maxRecDepth 20000
open Go.ChangeShapes Go.WideShapes Go.ChangeAt Go.RowKit Go.Deep
open Go.ChangeMaps (open_string shut_string)
set_option linter.unusedVariables false
set_option linter.unusedSimpArgs false

theorem bytes_of_cells : ∀ (cs : List Value), (∀ (i : Nat) (v : Value), cs[i]? = some v → ∃ u : UInt8, v = vB u) → ∃ D : List UInt8, cs = D.map vB
  | [], _ => ⟨[], rfl⟩
  | c :: cs, h => by
    obtain ⟨u, hu⟩ := h 0 c rfl
    obtain ⟨D, hD⟩ := bytes_of_cells cs (fun i v hv => h (i + 1) v (by simpa using hv))
    exact ⟨u :: D, by rw [hu, hD]; rfl⟩
theorem open_digest32 {H : Type} {enc : TypeId × Value → H} {W : World} {fuel : Nat} {cs : List Value} {y : DataW H × List MemPlace} (hl : cs.length = 32)
    (hy : DataW.trod enc Try.prog W 0 (fun _ => true) true fuel 24 cs = some y) : ∃ D : List UInt8, cs = D.map vB ∧ D.length = 32 := by
  obtain ⟨ys, n, _, _, _, hl2, hf⟩ := DataW.trod_array Try.underlying24 hy
  have hc : Try.prog.cellsOf 5 = 1 := by kernel_rfl
  obtain ⟨D, hD⟩ := bytes_of_cells cs (fun i v hv => by
    have hi : i < cs.length := (List.getElem?_eq_some_iff.1 hv).1
    have h := hf i (by omega)
    rw [hc, Nat.mul_one, List.drop_eq_getElem_cons hi, List.take_succ_cons, List.take_zero, List.getElem?_eq_getElem (by omega)] at h
    obtain ⟨k, hk, _, hw⟩ := DataW.trod_int Try.underlying5 h
    obtain ⟨q, rfl, hq⟩ := nat_u8 hw
    rw [List.getElem?_eq_getElem hi] at hv
    injection hv with hv
    injection hk with hk
    refine ⟨UInt8.ofNat q, ?_⟩
    rw [← hv, hk, vB, UInt8.toNat_ofNat']
    congr 1
    omega)
  exact ⟨D, hD, by rw [hD, List.length_map] at hl; exact hl⟩
theorem okWide_array {P : Program} {w : World} {r : Reach} {base : Nat} {t : TypeId} {v : Value} {n : Nat} {e : TypeId} (ht : P.underlying t = some (.array n e)) (h : Value.okWide P w r base t v) : ∃ cs, v = .agg cs ∧ cs.size = P.cellsOf t := by
  simp only [Value.okWide, ht] at h
  obtain ⟨cs, h1, h2, _⟩ := h
  exact ⟨cs, h1, h2⟩
/-- A digest that came in. -/
theorem open_digest {H : Type} {enc : TypeId × Value → H} {W : World} {base : Nat} {v : Value} {d0 : DataW H} {p : List MemPlace} (hv : Value.okWide Try.prog W .any base 24 v)
    (h : ∃ fuel, DataW.trod enc Try.prog W 0 (fun _ => true) true fuel 24 v.cells.toList = some (d0, p)) :
    ∃ D : List UInt8, v = .agg (D.map vB).toArray ∧ D.length = 32 := by
  obtain ⟨cs, rfl, hsz⟩ := okWide_array Try.underlying24 hv
  obtain ⟨fuel, hf⟩ := h
  have hN : Try.prog.cellsOf 24 = 32 := by kernel_rfl
  rw [hN] at hsz
  obtain ⟨D, hD, hl⟩ := open_digest32 (cs := cs.toList) (by simpa using hsz) (by simpa [Value.cells] using hf)
  exact ⟨D, by rw [← hD], hl⟩
/-- A head that came in. -/
theorem open_super {H : Type} {enc : TypeId × Value → H} {W : World} {base : Nat} {v : Value} {d0 : DataW H} {p : List MemPlace} (hv : Value.okWide Try.prog W .any base 26 v)
    (h : ∃ fuel, DataW.trod enc Try.prog W 0 (fun _ => true) true fuel 26 v.cells.toList = some (d0, p)) :
    ∃ (g : Nat) (s l : Int) (D : List UInt8), v = .agg (suV g s l D) ∧ g < 4294967296 ∧ (-9223372036854775808 ≤ s ∧ s ≤ 9223372036854775807) ∧ (-9223372036854775808 ≤ l ∧ l ≤ 9223372036854775807) ∧ D.length = 32 := by
  obtain ⟨cs, rfl, hsz⟩ := okWide_struct Try.underlying26 hv
  obtain ⟨fuel, hf⟩ := h
  have hN : Try.prog.cellsOf 26 = 35 := by kernel_rfl
  rw [hN] at hsz
  obtain ⟨ls⟩ := cs
  have hls : ls.length = 35 := by simpa using hsz
  match ls, hls with
  | c0 :: c1 :: c2 :: rest, hls =>
    have hr : rest.length = 32 := by simpa using hls
    obtain ⟨ys, m, _, _, _, hl, hg⟩ := DataW.trod_struct Try.underlying26 hf
    match ys, hl with
    | [y0, y1, y2, y3], _ =>
      have z_u : Try.prog.cellsOf 22 = 1 := by kernel_rfl
      have z_i : Try.prog.cellsOf 3 = 1 := by kernel_rfl
      have z_d : Try.prog.cellsOf 24 = 32 := by kernel_rfl
      have h0 : DataW.trod enc Try.prog W 0 (fun _ => true) true m 22 [c0] = some y0 := by
        have q : DataW.trod enc Try.prog W 0 (fun _ => true) true m 22 (((c0 :: c1 :: c2 :: rest).drop 0).take (Try.prog.cellsOf 22)) = [y0, y1, y2, y3][0]? := hg 0 _ rfl
        rw [z_u] at q
        exact q
      have h1 : DataW.trod enc Try.prog W 0 (fun _ => true) true m 3 [c1] = some y1 := by
        have q : DataW.trod enc Try.prog W 0 (fun _ => true) true m 3 (((c0 :: c1 :: c2 :: rest).drop 1).take (Try.prog.cellsOf 3)) = [y0, y1, y2, y3][1]? := hg 1 _ rfl
        rw [z_i] at q
        exact q
      have h2 : DataW.trod enc Try.prog W 0 (fun _ => true) true m 3 [c2] = some y2 := by
        have q : DataW.trod enc Try.prog W 0 (fun _ => true) true m 3 (((c0 :: c1 :: c2 :: rest).drop 2).take (Try.prog.cellsOf 3)) = [y0, y1, y2, y3][2]? := hg 2 _ rfl
        rw [z_i] at q
        exact q
      have h3 : DataW.trod enc Try.prog W 0 (fun _ => true) true m 24 rest = some y3 := by
        have q : DataW.trod enc Try.prog W 0 (fun _ => true) true m 24 (((c0 :: c1 :: c2 :: rest).drop 3).take (Try.prog.cellsOf 24)) = [y0, y1, y2, y3][3]? := hg 3 _ rfl
        rw [z_d] at q
        have e : ((c0 :: c1 :: c2 :: rest).drop 3).take 32 = rest := by simp [List.take_of_length_le (show rest.length ≤ 32 by omega)]
        rw [e] at q
        exact q
      obtain ⟨i0, e0, _, hw0⟩ := DataW.trod_int Try.underlying22 h0
      obtain rfl : c0 = .int .u32 i0 := by simpa using e0
      obtain ⟨n0, rfl, hn0⟩ := nat_u32 hw0
      obtain ⟨i1, e1, _, hw1⟩ := DataW.trod_int Try.underlying3 h1
      obtain rfl : c1 = .int .i64 i1 := by simpa using e1
      obtain ⟨i2, e2, _, hw2⟩ := DataW.trod_int Try.underlying3 h2
      obtain rfl : c2 = .int .i64 i2 := by simpa using e2
      obtain ⟨D, rfl, hD⟩ := open_digest32 hr h3
      exact ⟨n0, i1, i2, D, by simp [suV], hn0, int_i64 hw1, int_i64 hw2, hD⟩
end Go.Proofs.Ytmbdfanaegadjaa
