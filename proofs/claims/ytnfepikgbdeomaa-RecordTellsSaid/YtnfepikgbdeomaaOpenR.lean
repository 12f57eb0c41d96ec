/-
  How an argument that came in is read: descriptors.
-/
import Derived.Test.YtnfepikgbdeomaaFrameS
namespace Go.Proofs.Ytnfepikgbdeomaa
set_option maxRecDepth 20000
open Go.ChangeShapes Go.WideShapes Go.ChangeAt Go.RowKit Go.Deep
open Go.ChangeMaps (open_string shut_string)
set_option linter.unusedVariables false
set_option linter.unusedSimpArgs false

/-- Used that came in. -/
theorem open_used {H : Type} {enc : TypeId × Value → H} {W : World} {base : Nat} {v : Value} {d0 : DataW H} {p : List MemPlace} (hv : Value.okWide Try.prog W .any base 25 v)
    (h : ∃ fuel, DataW.trod enc Try.prog W 0 (fun _ => true) true fuel 25 v.cells.toList = some (d0, p)) :
    ∃ (id : Nat) (ln : Nat), v = .agg #[.int .u32 id, .int .u32 ln] ∧ id < 4294967296 ∧ ln < 4294967296 := by
  obtain ⟨cs, rfl, hsz⟩ := okWide_struct Try.underlying25 hv
  obtain ⟨fuel, hf⟩ := h
  have hN : Try.prog.cellsOf 25 = 2 := by kernel_rfl
  rw [hN] at hsz
  obtain ⟨l⟩ := cs
  match l, hsz with
  | [c0, c1], _ =>
    obtain ⟨ys, m, _, _, _, hl, hg⟩ := DataW.trod_struct Try.underlying25 hf
    match ys, hl with
    | [y0, y1], _ =>
      have z_u32 : Try.prog.cellsOf 23 = 1 := by kernel_rfl
      have h0 : DataW.trod enc Try.prog W 0 (fun _ => true) true m 23 [c0] = some y0 := by
        have q : DataW.trod enc Try.prog W 0 (fun _ => true) true m 23 ((([c0, c1] : List Value).drop 0).take (Try.prog.cellsOf 23)) = [y0, y1][0]? := hg 0 _ rfl
        rw [z_u32] at q
        exact q
      have h1 : DataW.trod enc Try.prog W 0 (fun _ => true) true m 23 [c1] = some y1 := by
        have q : DataW.trod enc Try.prog W 0 (fun _ => true) true m 23 ((([c0, c1] : List Value).drop 1).take (Try.prog.cellsOf 23)) = [y0, y1][1]? := hg 1 _ rfl
        rw [z_u32] at q
        exact q
      obtain ⟨i0, e0, _, hw0⟩ := DataW.trod_int Try.underlying23 h0
      obtain rfl : c0 = .int .u32 i0 := by simpa using e0
      obtain ⟨n0, rfl, hn0⟩ := nat_u32 hw0
      obtain ⟨i1, e1, _, hw1⟩ := DataW.trod_int Try.underlying23 h1
      obtain rfl : c1 = .int .u32 i1 := by simpa using e1
      obtain ⟨n1, rfl, hn1⟩ := nat_u32 hw1
      exact ⟨n0, n1, rfl, hn0, hn1⟩

/-- Desc that came in. -/
theorem open_desc {H : Type} {enc : TypeId × Value → H} {W : World} {base : Nat} {v : Value} {d0 : DataW H} {p : List MemPlace} (hv : Value.okWide Try.prog W .any base 44 v)
    (h : ∃ fuel, DataW.trod enc Try.prog W 0 (fun _ => true) true fuel 44 v.cells.toList = some (d0, p)) :
    ∃ (da : Nat) (dl : Nat) (df : Nat) (dx : Nat), v = .agg #[.int .u64 da, .int .u32 dl, .int .u16 df, .int .u16 dx] ∧ da < 18446744073709551616 ∧ dl < 4294967296 ∧ df < 65536 ∧ dx < 65536 := by
  obtain ⟨cs, rfl, hsz⟩ := okWide_struct Try.underlying44 hv
  obtain ⟨fuel, hf⟩ := h
  have hN : Try.prog.cellsOf 44 = 4 := by kernel_rfl
  rw [hN] at hsz
  obtain ⟨l⟩ := cs
  match l, hsz with
  | [c0, c1, c2, c3], _ =>
    obtain ⟨ys, m, _, _, _, hl, hg⟩ := DataW.trod_struct Try.underlying44 hf
    match ys, hl with
    | [y0, y1, y2, y3], _ =>
      have z_u16 : Try.prog.cellsOf 22 = 1 := by kernel_rfl
      have z_u32 : Try.prog.cellsOf 23 = 1 := by kernel_rfl
      have z_u64 : Try.prog.cellsOf 42 = 1 := by kernel_rfl
      have h0 : DataW.trod enc Try.prog W 0 (fun _ => true) true m 42 [c0] = some y0 := by
        have q : DataW.trod enc Try.prog W 0 (fun _ => true) true m 42 ((([c0, c1, c2, c3] : List Value).drop 0).take (Try.prog.cellsOf 42)) = [y0, y1, y2, y3][0]? := hg 0 _ rfl
        rw [z_u64] at q
        exact q
      have h1 : DataW.trod enc Try.prog W 0 (fun _ => true) true m 23 [c1] = some y1 := by
        have q : DataW.trod enc Try.prog W 0 (fun _ => true) true m 23 ((([c0, c1, c2, c3] : List Value).drop 1).take (Try.prog.cellsOf 23)) = [y0, y1, y2, y3][1]? := hg 1 _ rfl
        rw [z_u32] at q
        exact q
      have h2 : DataW.trod enc Try.prog W 0 (fun _ => true) true m 22 [c2] = some y2 := by
        have q : DataW.trod enc Try.prog W 0 (fun _ => true) true m 22 ((([c0, c1, c2, c3] : List Value).drop 2).take (Try.prog.cellsOf 22)) = [y0, y1, y2, y3][2]? := hg 2 _ rfl
        rw [z_u16] at q
        exact q
      have h3 : DataW.trod enc Try.prog W 0 (fun _ => true) true m 22 [c3] = some y3 := by
        have q : DataW.trod enc Try.prog W 0 (fun _ => true) true m 22 ((([c0, c1, c2, c3] : List Value).drop 3).take (Try.prog.cellsOf 22)) = [y0, y1, y2, y3][3]? := hg 3 _ rfl
        rw [z_u16] at q
        exact q
      obtain ⟨i0, e0, _, hw0⟩ := DataW.trod_int Try.underlying42 h0
      obtain rfl : c0 = .int .u64 i0 := by simpa using e0
      obtain ⟨n0, rfl, hn0⟩ := nat_u64 hw0
      obtain ⟨i1, e1, _, hw1⟩ := DataW.trod_int Try.underlying23 h1
      obtain rfl : c1 = .int .u32 i1 := by simpa using e1
      obtain ⟨n1, rfl, hn1⟩ := nat_u32 hw1
      obtain ⟨i2, e2, _, hw2⟩ := DataW.trod_int Try.underlying22 h2
      obtain rfl : c2 = .int .u16 i2 := by simpa using e2
      obtain ⟨n2, rfl, hn2⟩ := nat_u16 hw2
      obtain ⟨i3, e3, _, hw3⟩ := DataW.trod_int Try.underlying22 h3
      obtain rfl : c3 = .int .u16 i3 := by simpa using e3
      obtain ⟨n3, rfl, hn3⟩ := nat_u16 hw3
      exact ⟨n0, n1, n2, n3, rfl, hn0, hn1, hn2, hn3⟩

/-- Event that came in. -/
theorem open_event {H : Type} {enc : TypeId × Value → H} {W : World} {base : Nat} {v : Value} {d0 : DataW H} {p : List MemPlace} (hv : Value.okWide Try.prog W .any base 65 v)
    (h : ∃ fuel, DataW.trod enc Try.prog W 0 (fun _ => true) true fuel 65 v.cells.toList = some (d0, p)) :
    ∃ (et : Nat) (ek : Int) (ec : Nat) (A : Option Addr) (n c : Nat) (xs : List UInt8), v = .agg #[.int .u64 et, .int .i64 ek, .int .u64 ec, .slice A n c] ∧ et < 18446744073709551616 ∧ (-9223372036854775808 ≤ ek ∧ ek ≤ 9223372036854775807) ∧ ec < 18446744073709551616 ∧ RdB W A n c xs := by
  obtain ⟨cs, rfl, hsz⟩ := okWide_struct Try.underlying65 hv
  obtain ⟨fuel, hf⟩ := h
  have hN : Try.prog.cellsOf 65 = 4 := by kernel_rfl
  rw [hN] at hsz
  obtain ⟨l⟩ := cs
  match l, hsz with
  | [c0, c1, c2, c3], _ =>
    obtain ⟨ys, m, _, _, _, hl, hg⟩ := DataW.trod_struct Try.underlying65 hf
    match ys, hl with
    | [y0, y1, y2, y3], _ =>
      have z_bytes : Try.prog.cellsOf 26 = 1 := by kernel_rfl
      have z_int : Try.prog.cellsOf 3 = 1 := by kernel_rfl
      have z_u64 : Try.prog.cellsOf 42 = 1 := by kernel_rfl
      have h0 : DataW.trod enc Try.prog W 0 (fun _ => true) true m 42 [c0] = some y0 := by
        have q : DataW.trod enc Try.prog W 0 (fun _ => true) true m 42 ((([c0, c1, c2, c3] : List Value).drop 0).take (Try.prog.cellsOf 42)) = [y0, y1, y2, y3][0]? := hg 0 _ rfl
        rw [z_u64] at q
        exact q
      have h1 : DataW.trod enc Try.prog W 0 (fun _ => true) true m 3 [c1] = some y1 := by
        have q : DataW.trod enc Try.prog W 0 (fun _ => true) true m 3 ((([c0, c1, c2, c3] : List Value).drop 1).take (Try.prog.cellsOf 3)) = [y0, y1, y2, y3][1]? := hg 1 _ rfl
        rw [z_int] at q
        exact q
      have h2 : DataW.trod enc Try.prog W 0 (fun _ => true) true m 42 [c2] = some y2 := by
        have q : DataW.trod enc Try.prog W 0 (fun _ => true) true m 42 ((([c0, c1, c2, c3] : List Value).drop 2).take (Try.prog.cellsOf 42)) = [y0, y1, y2, y3][2]? := hg 2 _ rfl
        rw [z_u64] at q
        exact q
      have h3 : DataW.trod enc Try.prog W 0 (fun _ => true) true m 26 [c3] = some y3 := by
        have q : DataW.trod enc Try.prog W 0 (fun _ => true) true m 26 ((([c0, c1, c2, c3] : List Value).drop 3).take (Try.prog.cellsOf 26)) = [y0, y1, y2, y3][3]? := hg 3 _ rfl
        rw [z_bytes] at q
        exact q
      obtain ⟨i0, e0, _, hw0⟩ := DataW.trod_int Try.underlying42 h0
      obtain rfl : c0 = .int .u64 i0 := by simpa using e0
      obtain ⟨n0, rfl, hn0⟩ := nat_u64 hw0
      obtain ⟨i1, e1, _, hw1⟩ := DataW.trod_int Try.underlying3 h1
      obtain rfl : c1 = .int .i64 i1 := by simpa using e1
      obtain ⟨i2, e2, _, hw2⟩ := DataW.trod_int Try.underlying42 h2
      obtain rfl : c2 = .int .u64 i2 := by simpa using e2
      obtain ⟨n2, rfl, hn2⟩ := nat_u64 hw2
      obtain ⟨A, n, c, xs, rfl, hr3⟩ := bytes_cell h3
      exact ⟨n0, i1, n2, A, n, c, xs, rfl, hn0, int_i64 hw1, hn2, hr3⟩

end Go.Proofs.Ytnfepikgbdeomaa
