/-
  How an argument that came in is read: structs by value.
-/
import Derived.Test.YtndabecdfccjlaaFrameS
import Derived.Test.YtndabecdfccjlaaEth
namespace Go.Proofs.Ytndabecdfccjlaa
set_option maxRecDepth 20000
open Go.ChangeShapes Go.WideShapes Go.ChangeAt Go.RowKit Go.Deep
open Go.ChangeMaps (open_string shut_string)
set_option linter.unusedVariables false
set_option linter.unusedSimpArgs false

theorem byte_of_nat {n : Nat} (h : n < 256) : ∃ u : UInt8, (n : Int) = (u.toNat : Int) := ⟨UInt8.ofNat n, by rw [UInt8.toNat_ofNat']; omega⟩
theorem drop_take_one {α : Type} (l : List α) (i : Nat) (h : i < l.length) : (l.drop i).take 1 = [l[i]] := by
  rw [List.drop_eq_getElem_cons h]; rfl

/-- Seg that came in. -/
theorem open_seg {H : Type} {enc : TypeId × Value → H} {W : World} {base : Nat} {v : Value} {d0 : DataW H} {p : List MemPlace} (hv : Value.okWide Try.prog W .any base 25 v)
    (h : ∃ fuel, DataW.trod enc Try.prog W 0 (fun _ => true) true fuel 25 v.cells.toList = some (d0, p)) :
    ∃ (src : Int) (dst : Int) (seq : Nat) (ack : Nat) (flags : Int) (wnd : Int) (A : Option Addr) (n c : Nat) (xs : List UInt8), v = .agg #[.int .i64 src, .int .i64 dst, .int .u32 seq, .int .u32 ack, .int .i64 flags, .int .i64 wnd, .slice A n c] ∧ (-9223372036854775808 ≤ src ∧ src ≤ 9223372036854775807) ∧ (-9223372036854775808 ≤ dst ∧ dst ≤ 9223372036854775807) ∧ seq < 4294967296 ∧ ack < 4294967296 ∧ (-9223372036854775808 ≤ flags ∧ flags ≤ 9223372036854775807) ∧ (-9223372036854775808 ≤ wnd ∧ wnd ≤ 9223372036854775807) ∧ RdB W A n c xs := by
  obtain ⟨cs, rfl, hsz⟩ := okWide_struct Try.underlying25 hv
  obtain ⟨fuel, hf⟩ := h
  have hN : Try.prog.cellsOf 25 = 7 := by kernel_rfl
  rw [hN] at hsz
  obtain ⟨l⟩ := cs
  match l, hsz with
  | [c0, c1, c2, c3, c4, c5, c6], _ =>
    obtain ⟨ys, m, _, _, _, hl, hg⟩ := DataW.trod_struct Try.underlying25 hf
    match ys, hl with
    | [y0, y1, y2, y3, y4, y5, y6], _ =>
      have z_bytes : Try.prog.cellsOf 23 = 1 := by kernel_rfl
      have z_int : Try.prog.cellsOf 3 = 1 := by kernel_rfl
      have z_u32 : Try.prog.cellsOf 22 = 1 := by kernel_rfl
      have h0 : DataW.trod enc Try.prog W 0 (fun _ => true) true m 3 [c0] = some y0 := by
        have q : DataW.trod enc Try.prog W 0 (fun _ => true) true m 3 ((([c0, c1, c2, c3, c4, c5, c6] : List Value).drop 0).take (Try.prog.cellsOf 3)) = [y0, y1, y2, y3, y4, y5, y6][0]? := hg 0 _ rfl
        rw [z_int] at q
        exact q
      have h1 : DataW.trod enc Try.prog W 0 (fun _ => true) true m 3 [c1] = some y1 := by
        have q : DataW.trod enc Try.prog W 0 (fun _ => true) true m 3 ((([c0, c1, c2, c3, c4, c5, c6] : List Value).drop 1).take (Try.prog.cellsOf 3)) = [y0, y1, y2, y3, y4, y5, y6][1]? := hg 1 _ rfl
        rw [z_int] at q
        exact q
      have h2 : DataW.trod enc Try.prog W 0 (fun _ => true) true m 22 [c2] = some y2 := by
        have q : DataW.trod enc Try.prog W 0 (fun _ => true) true m 22 ((([c0, c1, c2, c3, c4, c5, c6] : List Value).drop 2).take (Try.prog.cellsOf 22)) = [y0, y1, y2, y3, y4, y5, y6][2]? := hg 2 _ rfl
        rw [z_u32] at q
        exact q
      have h3 : DataW.trod enc Try.prog W 0 (fun _ => true) true m 22 [c3] = some y3 := by
        have q : DataW.trod enc Try.prog W 0 (fun _ => true) true m 22 ((([c0, c1, c2, c3, c4, c5, c6] : List Value).drop 3).take (Try.prog.cellsOf 22)) = [y0, y1, y2, y3, y4, y5, y6][3]? := hg 3 _ rfl
        rw [z_u32] at q
        exact q
      have h4 : DataW.trod enc Try.prog W 0 (fun _ => true) true m 3 [c4] = some y4 := by
        have q : DataW.trod enc Try.prog W 0 (fun _ => true) true m 3 ((([c0, c1, c2, c3, c4, c5, c6] : List Value).drop 4).take (Try.prog.cellsOf 3)) = [y0, y1, y2, y3, y4, y5, y6][4]? := hg 4 _ rfl
        rw [z_int] at q
        exact q
      have h5 : DataW.trod enc Try.prog W 0 (fun _ => true) true m 3 [c5] = some y5 := by
        have q : DataW.trod enc Try.prog W 0 (fun _ => true) true m 3 ((([c0, c1, c2, c3, c4, c5, c6] : List Value).drop 5).take (Try.prog.cellsOf 3)) = [y0, y1, y2, y3, y4, y5, y6][5]? := hg 5 _ rfl
        rw [z_int] at q
        exact q
      have h6 : DataW.trod enc Try.prog W 0 (fun _ => true) true m 23 [c6] = some y6 := by
        have q : DataW.trod enc Try.prog W 0 (fun _ => true) true m 23 ((([c0, c1, c2, c3, c4, c5, c6] : List Value).drop 6).take (Try.prog.cellsOf 23)) = [y0, y1, y2, y3, y4, y5, y6][6]? := hg 6 _ rfl
        rw [z_bytes] at q
        exact q
      obtain ⟨i0, e0, _, hw0⟩ := DataW.trod_int Try.underlying3 h0
      obtain rfl : c0 = .int .i64 i0 := by simpa using e0
      obtain ⟨i1, e1, _, hw1⟩ := DataW.trod_int Try.underlying3 h1
      obtain rfl : c1 = .int .i64 i1 := by simpa using e1
      obtain ⟨i2, e2, _, hw2⟩ := DataW.trod_int Try.underlying22 h2
      obtain rfl : c2 = .int .u32 i2 := by simpa using e2
      obtain ⟨n2, rfl, hn2⟩ := nat_u32 hw2
      obtain ⟨i3, e3, _, hw3⟩ := DataW.trod_int Try.underlying22 h3
      obtain rfl : c3 = .int .u32 i3 := by simpa using e3
      obtain ⟨n3, rfl, hn3⟩ := nat_u32 hw3
      obtain ⟨i4, e4, _, hw4⟩ := DataW.trod_int Try.underlying3 h4
      obtain rfl : c4 = .int .i64 i4 := by simpa using e4
      obtain ⟨i5, e5, _, hw5⟩ := DataW.trod_int Try.underlying3 h5
      obtain rfl : c5 = .int .i64 i5 := by simpa using e5
      obtain ⟨A, n, c, xs, rfl, hr6⟩ := bytes_cell h6
      exact ⟨i0, i1, n2, n3, i4, i5, A, n, c, xs, rfl, int_i64 hw0, int_i64 hw1, hn2, hn3, int_i64 hw4, int_i64 hw5, hr6⟩

end Go.Proofs.Ytndabecdfccjlaa
