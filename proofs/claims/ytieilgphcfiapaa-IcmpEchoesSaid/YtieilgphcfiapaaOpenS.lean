/-
  How an argument that came in is read: structs by value.
-/
import Derived.Test.YtieilgphcfiapaaFrameS
import Derived.Test.YtieilgphcfiapaaEth
namespace Go.Proofs.Ytieilgphcfiapaa
set_option maxRecDepth 20000
open Go.ChangeShapes Go.WideShapes Go.ChangeAt Go.RowKit Go.Deep
open Go.ChangeMaps (open_string shut_string)
set_option linter.unusedVariables false
set_option linter.unusedSimpArgs false

theorem byte_of_nat {n : Nat} (h : n < 256) : ∃ u : UInt8, (n : Int) = (u.toNat : Int) := ⟨UInt8.ofNat n, by rw [UInt8.toNat_ofNat']; omega⟩
theorem drop_take_one {α : Type} (l : List α) (i : Nat) (h : i < l.length) : (l.drop i).take 1 = [l[i]] := by
  rw [List.drop_eq_getElem_cons h]; rfl

/-- A card's address that came in. -/
theorem open_mac6 {H : Type} {enc : TypeId × Value → H} {W : World} {fuel : Nat} {a b c d e f : Value} {y : DataW H × List MemPlace}
    (hy : DataW.trod enc Try.prog W 0 (fun _ => true) true fuel 23 [a, b, c, d, e, f] = some y) : ∃ m : Mc, a = .int .u8 (m.a0.toNat : Int) ∧ b = .int .u8 (m.a1.toNat : Int) ∧ c = .int .u8 (m.a2.toNat : Int) ∧ d = .int .u8 (m.a3.toNat : Int) ∧ e = .int .u8 (m.a4.toNat : Int) ∧ f = .int .u8 (m.a5.toNat : Int) := by
  obtain ⟨ys, n, _, _, _, hl, hf⟩ := DataW.trod_array Try.underlying23 hy
  have hc : Try.prog.cellsOf 5 = 1 := by kernel_rfl
  have key : ∀ (v : Value) (i : Nat), i < 6 → [a, b, c, d, e, f][i]? = some v → ∃ u : UInt8, v = .int .u8 (u.toNat : Int) := by
    intro v i hi hv
    have h := hf i hi
    rw [hc, Nat.mul_one, drop_take_one _ _ (by simpa using hi), List.getElem?_eq_getElem (by omega)] at h
    obtain ⟨k, hk, _, hw⟩ := DataW.trod_int Try.underlying5 h
    obtain ⟨q, rfl, hq⟩ := nat_u8 hw
    obtain ⟨u, hu⟩ := byte_of_nat hq
    rw [List.getElem?_eq_getElem (by simpa using hi)] at hv
    injection hv with hv
    injection hk with hk
    exact ⟨u, by rw [← hv, hk, hu]⟩
  obtain ⟨u0, e0⟩ := key a 0 (by omega) rfl
  obtain ⟨u1, e1⟩ := key b 1 (by omega) rfl
  obtain ⟨u2, e2⟩ := key c 2 (by omega) rfl
  obtain ⟨u3, e3⟩ := key d 3 (by omega) rfl
  obtain ⟨u4, e4⟩ := key e 4 (by omega) rfl
  obtain ⟨u5, e5⟩ := key f 5 (by omega) rfl
  exact ⟨⟨u0, u1, u2, u3, u4, u5⟩, e0, e1, e2, e3, e4, e5⟩

/-- Frame that came in. -/
theorem open_frame {H : Type} {enc : TypeId × Value → H} {W : World} {base : Nat} {v : Value} {d0 : DataW H} {p : List MemPlace} (hv : Value.okWide Try.prog W .any base 27 v)
    (h : ∃ fuel, DataW.trod enc Try.prog W 0 (fun _ => true) true fuel 27 v.cells.toList = some (d0, p)) :
    ∃ (d : Mc) (s : Mc) (k : Nat) (A : Option Addr) (n c : Nat) (xs : List UInt8), v = .agg #[.int .u8 (d.a0.toNat : Int), .int .u8 (d.a1.toNat : Int), .int .u8 (d.a2.toNat : Int), .int .u8 (d.a3.toNat : Int), .int .u8 (d.a4.toNat : Int), .int .u8 (d.a5.toNat : Int), .int .u8 (s.a0.toNat : Int), .int .u8 (s.a1.toNat : Int), .int .u8 (s.a2.toNat : Int), .int .u8 (s.a3.toNat : Int), .int .u8 (s.a4.toNat : Int), .int .u8 (s.a5.toNat : Int), .int .u16 k, .slice A n c] ∧ k < 65536 ∧ RdB W A n c xs := by
  obtain ⟨cs, rfl, hsz⟩ := okWide_struct Try.underlying27 hv
  obtain ⟨fuel, hf⟩ := h
  have hN : Try.prog.cellsOf 27 = 14 := by kernel_rfl
  rw [hN] at hsz
  obtain ⟨l⟩ := cs
  match l, hsz with
  | [c0, c1, c2, c3, c4, c5, c6, c7, c8, c9, c10, c11, c12, c13], _ =>
    obtain ⟨ys, m, _, _, _, hl, hg⟩ := DataW.trod_struct Try.underlying27 hf
    match ys, hl with
    | [y0, y1, y2, y3], _ =>
      have z_bytes : Try.prog.cellsOf 25 = 1 := by kernel_rfl
      have z_mac : Try.prog.cellsOf 23 = 6 := by kernel_rfl
      have z_u16 : Try.prog.cellsOf 24 = 1 := by kernel_rfl
      have h0 : DataW.trod enc Try.prog W 0 (fun _ => true) true m 23 [c0, c1, c2, c3, c4, c5] = some y0 := by
        have q : DataW.trod enc Try.prog W 0 (fun _ => true) true m 23 ((([c0, c1, c2, c3, c4, c5, c6, c7, c8, c9, c10, c11, c12, c13] : List Value).drop 0).take (Try.prog.cellsOf 23)) = [y0, y1, y2, y3][0]? := hg 0 _ rfl
        rw [z_mac] at q
        exact q
      have h1 : DataW.trod enc Try.prog W 0 (fun _ => true) true m 23 [c6, c7, c8, c9, c10, c11] = some y1 := by
        have q : DataW.trod enc Try.prog W 0 (fun _ => true) true m 23 ((([c0, c1, c2, c3, c4, c5, c6, c7, c8, c9, c10, c11, c12, c13] : List Value).drop 6).take (Try.prog.cellsOf 23)) = [y0, y1, y2, y3][1]? := hg 1 _ rfl
        rw [z_mac] at q
        exact q
      have h2 : DataW.trod enc Try.prog W 0 (fun _ => true) true m 24 [c12] = some y2 := by
        have q : DataW.trod enc Try.prog W 0 (fun _ => true) true m 24 ((([c0, c1, c2, c3, c4, c5, c6, c7, c8, c9, c10, c11, c12, c13] : List Value).drop 12).take (Try.prog.cellsOf 24)) = [y0, y1, y2, y3][2]? := hg 2 _ rfl
        rw [z_u16] at q
        exact q
      have h3 : DataW.trod enc Try.prog W 0 (fun _ => true) true m 25 [c13] = some y3 := by
        have q : DataW.trod enc Try.prog W 0 (fun _ => true) true m 25 ((([c0, c1, c2, c3, c4, c5, c6, c7, c8, c9, c10, c11, c12, c13] : List Value).drop 13).take (Try.prog.cellsOf 25)) = [y0, y1, y2, y3][3]? := hg 3 _ rfl
        rw [z_bytes] at q
        exact q
      obtain ⟨m0, rfl, rfl, rfl, rfl, rfl, rfl⟩ := open_mac6 h0
      obtain ⟨m1, rfl, rfl, rfl, rfl, rfl, rfl⟩ := open_mac6 h1
      obtain ⟨i2, e2, _, hw2⟩ := DataW.trod_int Try.underlying24 h2
      obtain rfl : c12 = .int .u16 i2 := by simpa using e2
      obtain ⟨n2, rfl, hn2⟩ := nat_u16 hw2
      obtain ⟨A, n, c, xs, rfl, hr3⟩ := bytes_cell h3
      exact ⟨m0, m1, n2, A, n, c, xs, rfl, hn2, hr3⟩

/-- Packet that came in. -/
theorem open_packet {H : Type} {enc : TypeId × Value → H} {W : World} {base : Nat} {v : Value} {d0 : DataW H} {p : List MemPlace} (hv : Value.okWide Try.prog W .any base 51 v)
    (h : ∃ fuel, DataW.trod enc Try.prog W 0 (fun _ => true) true fuel 51 v.cells.toList = some (d0, p)) :
    ∃ (id : Nat) (more : Bool) (place : Int) (proto : Int) (src : Nat) (dst : Nat) (A : Option Addr) (n c : Nat) (xs : List UInt8), v = .agg #[.int .u16 id, .bool more, .int .i64 place, .int .i64 proto, .int .u32 src, .int .u32 dst, .slice A n c] ∧ id < 65536 ∧ (-9223372036854775808 ≤ place ∧ place ≤ 9223372036854775807) ∧ (-9223372036854775808 ≤ proto ∧ proto ≤ 9223372036854775807) ∧ src < 4294967296 ∧ dst < 4294967296 ∧ RdB W A n c xs := by
  obtain ⟨cs, rfl, hsz⟩ := okWide_struct Try.underlying51 hv
  obtain ⟨fuel, hf⟩ := h
  have hN : Try.prog.cellsOf 51 = 7 := by kernel_rfl
  rw [hN] at hsz
  obtain ⟨l⟩ := cs
  match l, hsz with
  | [c0, c1, c2, c3, c4, c5, c6], _ =>
    obtain ⟨ys, m, _, _, _, hl, hg⟩ := DataW.trod_struct Try.underlying51 hf
    match ys, hl with
    | [y0, y1, y2, y3, y4, y5, y6], _ =>
      have z_bool : Try.prog.cellsOf 4 = 1 := by kernel_rfl
      have z_bytes : Try.prog.cellsOf 25 = 1 := by kernel_rfl
      have z_int : Try.prog.cellsOf 3 = 1 := by kernel_rfl
      have z_u16 : Try.prog.cellsOf 24 = 1 := by kernel_rfl
      have z_u32 : Try.prog.cellsOf 28 = 1 := by kernel_rfl
      have h0 : DataW.trod enc Try.prog W 0 (fun _ => true) true m 24 [c0] = some y0 := by
        have q : DataW.trod enc Try.prog W 0 (fun _ => true) true m 24 ((([c0, c1, c2, c3, c4, c5, c6] : List Value).drop 0).take (Try.prog.cellsOf 24)) = [y0, y1, y2, y3, y4, y5, y6][0]? := hg 0 _ rfl
        rw [z_u16] at q
        exact q
      have h1 : DataW.trod enc Try.prog W 0 (fun _ => true) true m 4 [c1] = some y1 := by
        have q : DataW.trod enc Try.prog W 0 (fun _ => true) true m 4 ((([c0, c1, c2, c3, c4, c5, c6] : List Value).drop 1).take (Try.prog.cellsOf 4)) = [y0, y1, y2, y3, y4, y5, y6][1]? := hg 1 _ rfl
        rw [z_bool] at q
        exact q
      have h2 : DataW.trod enc Try.prog W 0 (fun _ => true) true m 3 [c2] = some y2 := by
        have q : DataW.trod enc Try.prog W 0 (fun _ => true) true m 3 ((([c0, c1, c2, c3, c4, c5, c6] : List Value).drop 2).take (Try.prog.cellsOf 3)) = [y0, y1, y2, y3, y4, y5, y6][2]? := hg 2 _ rfl
        rw [z_int] at q
        exact q
      have h3 : DataW.trod enc Try.prog W 0 (fun _ => true) true m 3 [c3] = some y3 := by
        have q : DataW.trod enc Try.prog W 0 (fun _ => true) true m 3 ((([c0, c1, c2, c3, c4, c5, c6] : List Value).drop 3).take (Try.prog.cellsOf 3)) = [y0, y1, y2, y3, y4, y5, y6][3]? := hg 3 _ rfl
        rw [z_int] at q
        exact q
      have h4 : DataW.trod enc Try.prog W 0 (fun _ => true) true m 28 [c4] = some y4 := by
        have q : DataW.trod enc Try.prog W 0 (fun _ => true) true m 28 ((([c0, c1, c2, c3, c4, c5, c6] : List Value).drop 4).take (Try.prog.cellsOf 28)) = [y0, y1, y2, y3, y4, y5, y6][4]? := hg 4 _ rfl
        rw [z_u32] at q
        exact q
      have h5 : DataW.trod enc Try.prog W 0 (fun _ => true) true m 28 [c5] = some y5 := by
        have q : DataW.trod enc Try.prog W 0 (fun _ => true) true m 28 ((([c0, c1, c2, c3, c4, c5, c6] : List Value).drop 5).take (Try.prog.cellsOf 28)) = [y0, y1, y2, y3, y4, y5, y6][5]? := hg 5 _ rfl
        rw [z_u32] at q
        exact q
      have h6 : DataW.trod enc Try.prog W 0 (fun _ => true) true m 25 [c6] = some y6 := by
        have q : DataW.trod enc Try.prog W 0 (fun _ => true) true m 25 ((([c0, c1, c2, c3, c4, c5, c6] : List Value).drop 6).take (Try.prog.cellsOf 25)) = [y0, y1, y2, y3, y4, y5, y6][6]? := hg 6 _ rfl
        rw [z_bytes] at q
        exact q
      obtain ⟨i0, e0, _, hw0⟩ := DataW.trod_int Try.underlying24 h0
      obtain rfl : c0 = .int .u16 i0 := by simpa using e0
      obtain ⟨n0, rfl, hn0⟩ := nat_u16 hw0
      obtain ⟨b1, e1, _⟩ := DataW.trod_bool Try.underlying4 h1
      obtain rfl : c1 = .bool b1 := by simpa using e1
      obtain ⟨i2, e2, _, hw2⟩ := DataW.trod_int Try.underlying3 h2
      obtain rfl : c2 = .int .i64 i2 := by simpa using e2
      obtain ⟨i3, e3, _, hw3⟩ := DataW.trod_int Try.underlying3 h3
      obtain rfl : c3 = .int .i64 i3 := by simpa using e3
      obtain ⟨i4, e4, _, hw4⟩ := DataW.trod_int Try.underlying28 h4
      obtain rfl : c4 = .int .u32 i4 := by simpa using e4
      obtain ⟨n4, rfl, hn4⟩ := nat_u32 hw4
      obtain ⟨i5, e5, _, hw5⟩ := DataW.trod_int Try.underlying28 h5
      obtain rfl : c5 = .int .u32 i5 := by simpa using e5
      obtain ⟨n5, rfl, hn5⟩ := nat_u32 hw5
      obtain ⟨A, n, c, xs, rfl, hr6⟩ := bytes_cell h6
      exact ⟨n0, b1, i2, i3, n4, n5, A, n, c, xs, rfl, hn0, int_i64 hw2, int_i64 hw3, hn4, hn5, hr6⟩

/-- Ports that came in. -/
theorem open_ports {H : Type} {enc : TypeId × Value → H} {W : World} {base : Nat} {v : Value} {d0 : DataW H} {p : List MemPlace} (hv : Value.okWide Try.prog W .any base 63 v)
    (h : ∃ fuel, DataW.trod enc Try.prog W 0 (fun _ => true) true fuel 63 v.cells.toList = some (d0, p)) :
    ∃ (lines : Nat) (mask : Nat) (clock : Nat) (A : Option Addr) (n c : Nat) (xs : List UInt8), v = .agg #[.int .u32 lines, .int .u32 mask, .int .u64 clock, .slice A n c] ∧ lines < 4294967296 ∧ mask < 4294967296 ∧ clock < 18446744073709551616 ∧ RdB W A n c xs := by
  obtain ⟨cs, rfl, hsz⟩ := okWide_struct Try.underlying63 hv
  obtain ⟨fuel, hf⟩ := h
  have hN : Try.prog.cellsOf 63 = 4 := by kernel_rfl
  rw [hN] at hsz
  obtain ⟨l⟩ := cs
  match l, hsz with
  | [c0, c1, c2, c3], _ =>
    obtain ⟨ys, m, _, _, _, hl, hg⟩ := DataW.trod_struct Try.underlying63 hf
    match ys, hl with
    | [y0, y1, y2, y3], _ =>
      have z_bytes : Try.prog.cellsOf 25 = 1 := by kernel_rfl
      have z_u32 : Try.prog.cellsOf 28 = 1 := by kernel_rfl
      have z_u64 : Try.prog.cellsOf 47 = 1 := by kernel_rfl
      have h0 : DataW.trod enc Try.prog W 0 (fun _ => true) true m 28 [c0] = some y0 := by
        have q : DataW.trod enc Try.prog W 0 (fun _ => true) true m 28 ((([c0, c1, c2, c3] : List Value).drop 0).take (Try.prog.cellsOf 28)) = [y0, y1, y2, y3][0]? := hg 0 _ rfl
        rw [z_u32] at q
        exact q
      have h1 : DataW.trod enc Try.prog W 0 (fun _ => true) true m 28 [c1] = some y1 := by
        have q : DataW.trod enc Try.prog W 0 (fun _ => true) true m 28 ((([c0, c1, c2, c3] : List Value).drop 1).take (Try.prog.cellsOf 28)) = [y0, y1, y2, y3][1]? := hg 1 _ rfl
        rw [z_u32] at q
        exact q
      have h2 : DataW.trod enc Try.prog W 0 (fun _ => true) true m 47 [c2] = some y2 := by
        have q : DataW.trod enc Try.prog W 0 (fun _ => true) true m 47 ((([c0, c1, c2, c3] : List Value).drop 2).take (Try.prog.cellsOf 47)) = [y0, y1, y2, y3][2]? := hg 2 _ rfl
        rw [z_u64] at q
        exact q
      have h3 : DataW.trod enc Try.prog W 0 (fun _ => true) true m 25 [c3] = some y3 := by
        have q : DataW.trod enc Try.prog W 0 (fun _ => true) true m 25 ((([c0, c1, c2, c3] : List Value).drop 3).take (Try.prog.cellsOf 25)) = [y0, y1, y2, y3][3]? := hg 3 _ rfl
        rw [z_bytes] at q
        exact q
      obtain ⟨i0, e0, _, hw0⟩ := DataW.trod_int Try.underlying28 h0
      obtain rfl : c0 = .int .u32 i0 := by simpa using e0
      obtain ⟨n0, rfl, hn0⟩ := nat_u32 hw0
      obtain ⟨i1, e1, _, hw1⟩ := DataW.trod_int Try.underlying28 h1
      obtain rfl : c1 = .int .u32 i1 := by simpa using e1
      obtain ⟨n1, rfl, hn1⟩ := nat_u32 hw1
      obtain ⟨i2, e2, _, hw2⟩ := DataW.trod_int Try.underlying47 h2
      obtain rfl : c2 = .int .u64 i2 := by simpa using e2
      obtain ⟨n2, rfl, hn2⟩ := nat_u64 hw2
      obtain ⟨A, n, c, xs, rfl, hr3⟩ := bytes_cell h3
      exact ⟨n0, n1, n2, A, n, c, xs, rfl, hn0, hn1, hn2, hr3⟩

end Go.Proofs.Ytieilgphcfiapaa
