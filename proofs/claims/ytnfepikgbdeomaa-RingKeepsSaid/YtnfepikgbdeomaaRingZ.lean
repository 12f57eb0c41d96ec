/-
  Layer 7: rings: the law RingTells.
-/
import Derived.Test.YtnfepikgbdeomaaRingX
import Derived.Test.YtnfepikgbdeomaaMemC
namespace Go.Proofs.Ytnfepikgbdeomaa
set_option maxRecDepth 20000
open Go.RowKit
set_option linter.unusedVariables false
set_option linter.unusedSimpArgs false
set_option maxHeartbeats 8000000

theorem rdB_but {w w' : World} {A : Option Addr} {n c g : Nat} {xs : List UInt8} (h : RdB w A n c xs) (hb : But g w.heap.size w w') (ho : 0 < n → Off A g) : RdB w' A n c xs := by
  refine ⟨?_, h.2⟩
  by_cases hn : 0 < n
  · rcases h.1 with h0 | ⟨b, o, rfl, hl, hc⟩
    · exact .inl h0
    · exact .inr ⟨b, o, rfl, Nat.lt_of_lt_of_le hl hb.size, fun i v hv => hb.cell hl (ho hn _ rfl) (hc i v hv)⟩
  · left
    have := h.2.1
    have h0 : xs = [] := List.eq_nil_of_length_eq_zero (by omega)
    rw [h0]; rfl
/-- Memory that came back from a call is stored in its box. -/
theorem mm_stepC {W w' : World} {g n c' : Nat} {A A' : Option Addr} {ys : List UInt8} {v : Value} (bx : BoxAt W g 28 v) (hb : Below W.heap.size W w') (hr : RdB w' A' n c' ys) (far : A' = A ∨ ∀ a, A' = some a → W.heap.size ≤ a.block) (ho : 0 < n → Off A g) :
    BoxAt w' g 28 v ∧ BoxAt (w'.setCell ⟨g, 0, none⟩ (.slice A' n c')) g 28 (.slice A' n c') ∧ RdB (w'.setCell ⟨g, 0, none⟩ (.slice A' n c')) A' n c' ys ∧ But g W.heap.size W (w'.setCell ⟨g, 0, none⟩ (.slice A' n c')) ∧ Below g W (w'.setCell ⟨g, 0, none⟩ (.slice A' n c')) := by
  have lt : g < W.heap.size := (Array.getElem?_eq_some_iff.1 bx).1
  have bx' : BoxAt w' g 28 v := (hb.block g lt).trans bx
  have hs : But g w'.heap.size w' (w'.setCell ⟨g, 0, none⟩ (.slice A' n c')) := ⟨by simp [World.setCell], fun j hj hn => Below.heap_setCell _ _ _ _ hn⟩
  refine ⟨bx', (setc_rowT bx').trans rfl, rdB_but hr hs (fun h0 a e => ?_), (but_of hb).setCell _, (hb.mono (Nat.le_of_lt lt)).setCell (p := ⟨g, 0, none⟩) (Nat.le_refl _) _⟩
  rcases far with rfl | h
  · exact ho h0 a e
  · have := h a e; omega
theorem row_but {w w' : World} {g j : Nat} {o : Obj} (h : w.heap[j]? = some o) (hb : But g w.heap.size w w') (hn : j ≠ g) : w'.heap[j]? = some o := (hb.block j (Array.getElem?_eq_some_iff.1 h).1 hn).trans h
theorem row_lt {w : World} {g : Nat} {o : Obj} (h : w.heap[g]? = some o) : g < w.heap.size := (Array.getElem?_eq_some_iff.1 h).1

theorem ringTells_great (A : Option Addr) (n c : Nat) (xs : List UInt8) (b k i : Int) (d0 d1 d2 d3 : Nat) (a : Nat) (u v : Nat) (w : World) (hr : RdB w A n c xs) (hb : (-9223372036854775808 ≤ b ∧ b ≤ 9223372036854775807)) (hk : (-9223372036854775808 ≤ k ∧ k ≤ 9223372036854775807)) (hi : (-9223372036854775808 ≤ i ∧ i ≤ 9223372036854775807)) (h0 : d0 < 18446744073709551616) (h1 : d1 < 4294967296) (h2 : d2 < 65536) (h3 : d3 < 65536) (ha : a < 65536) (hu : u < 4294967296) (hv : v < 4294967296) (hF : ¬ n ≤ 3000) :
    Calls Try.prog 4 #[.agg #[.slice A n c], .int .i64 b, .int .i64 k, .int .i64 i, .agg #[.int .u64 (d0 : Int), .int .u32 (d1 : Int), .int .u16 (d2 : Int), .int .u16 (d3 : Int)], .int .u16 (a : Int), .agg #[.int .u32 (u : Int), .int .u32 (v : Int)]] w (RetV w (.bool true)) := by
  have DF : decide (n ≤ 3000) = false := decide_eq_false hF
  have hn := hr.n63
  obtain ⟨W0, hW0⟩ : ∃ W, W = ((w.alloc (.cells #[.slice A n c] 28)).alloc (.cells #[.int .u64 (d0 : Int), .int .u32 (d1 : Int), .int .u16 (d2 : Int), .int .u16 (d3 : Int)] 44)).alloc (.cells #[.int .u32 (u : Int), .int .u32 (v : Int)] 25) := ⟨_, rfl⟩
  have B : Below w.heap.size w W0 := by rw [hW0]; exact (((below_self w).alloc (Nat.le_refl _) _).alloc (by simp) _).alloc (by simp; omega) _
  have qm : BoxAt W0 w.heap.size 28 (.slice A n c) := by rw [hW0]; exact row_old _ (row_old _ (row_at _ rfl))
  have qd : W0.heap[w.heap.size + 1]? = some (.cells #[.int .u64 (d0 : Int), .int .u32 (d1 : Int), .int .u16 (d2 : Int), .int .u16 (d3 : Int)] 44 (0, 0)) := by rw [hW0]; exact row_old _ (row_at _ (by simp))
  have qu : W0.heap[w.heap.size + 2]? = some (.cells #[.int .u32 (u : Int), .int .u32 (v : Int)] 25 (0, 0)) := by rw [hW0]; exact row_at _ (by simp)
  have zW : W0.heap.size = w.heap.size + 3 := by rw [hW0]; simp
  have rx := hr.below B
  have HW0 := Lib.hid hW0
  clear hW0
  go_enter Try.func4, Try.ntmps4
  have km := qm.c
  go_wp2_with fail
  rw [← HW0.out]
  refine (few_any A n c W0 hn).mono ?_
  rintro e w1 ⟨rfl, hb1⟩
  rw [DF]
  have B := below_then B hb1
  have zs1 := hb1.size
  have qm : BoxAt _ _ _ _ := row_up qm hb1
  have qd := row_up qd hb1
  have qu := row_up qu hb1
  have rx := rx.below hb1
  clear km
  go_wp2_with fail
  refine (heads07 _).mono ?_
  rintro e w99 ⟨rfl, hb99⟩
  go_wp2
  go_ret
  exact ⟨rfl, below_then B hb99⟩
theorem ringTells_main (A : Option Addr) (n c : Nat) (xs : List UInt8) (b k i : Int) (d0 d1 d2 d3 : Nat) (a : Nat) (u v : Nat) (w : World) (hr : RdB w A n c xs) (hb : (-9223372036854775808 ≤ b ∧ b ≤ 9223372036854775807)) (hk : (-9223372036854775808 ≤ k ∧ k ≤ 9223372036854775807)) (hi : (-9223372036854775808 ≤ i ∧ i ≤ 9223372036854775807)) (h0 : d0 < 18446744073709551616) (h1 : d1 < 4294967296) (h2 : d2 < 65536) (h3 : d3 < 65536) (ha : a < 65536) (hu : u < 4294967296) (hv : v < 4294967296) (hF : n ≤ 3000) :
    Calls Try.prog 4 #[.agg #[.slice A n c], .int .i64 b, .int .i64 k, .int .i64 i, .agg #[.int .u64 (d0 : Int), .int .u32 (d1 : Int), .int .u16 (d2 : Int), .int .u16 (d3 : Int)], .int .u16 (a : Int), .agg #[.int .u32 (u : Int), .int .u32 (v : Int)]] w (RetV w (.bool true)) := by
  have DF : decide (n ≤ 3000) = true := decide_eq_true hF
  have hdo : (⟨d0, d1, d2, d3⟩ : Dsc).ok := ⟨h0, h1, h2, h3⟩
  obtain ⟨E1, hE1⟩ : ∃ E, rgDescE n b k i = E := ⟨_, rfl⟩
  obtain ⟨E2, hE2⟩ : ∃ E, rgE n b k = E := ⟨_, rfl⟩
  have oA : ∀ g, w.heap.size ≤ g → 0 < n → Off A g := fun g hg h0 a e => by have := hr.old h0 a e; omega
  have H1 := Lib.hid (fun W (h : RdB W A n c xs) => ringDesc_any A n c xs b k i W h hb hk hi)
  have H2 := Lib.hid (fun W (h : RdB W A n c xs) => refDesc7_any A n c xs b k i W h hb hk hi)
  have H3 := Lib.hid (fun W (h : RdB W A n c xs) => ringSetDesc_any A n c xs b k i ⟨d0, d1, d2, d3⟩ W h hb hk hi hdo)
  have H4 := Lib.hid (fun W (h : RdB W A n c xs) => refSetDesc7_any A n c xs b k i ⟨d0, d1, d2, d3⟩ W h hb hk hi hdo)
  have H5 := Lib.hid (fun W (h : RdB W A n c xs) => ringOffer_any A n c xs b k a i W h hb hk ha hi)
  have H6 := Lib.hid (fun W (h : RdB W A n c xs) => refOffer7_any A n c xs b k a i W h hb hk ha hi)
  have H7 := Lib.hid (fun W (h : RdB W A n c xs) => ringReturn_any A n c xs b k a u v W h hb hk ha hu hv)
  have H8 := Lib.hid (fun W (h : RdB W A n c xs) => refReturn7_any A n c xs b k a u v W h hb hk ha hu hv)
  have H9 := Lib.hid (fun W (h : RdB W A n c xs) => ringAvailN_any A n c xs b k W h hb hk)
  have H10 := Lib.hid (fun W (h : RdB W A n c xs) => refAvail7_any A n c xs b k W h hb hk)
  have H11 := Lib.hid (fun W (h : RdB W A n c xs) => ringUsedN_any A n c xs b k W h hb hk)
  have H12 := Lib.hid (fun W (h : RdB W A n c xs) => refUsed7_any A n c xs b k W h hb hk)
  have H13 := Lib.hid (fun W (h : RdB W A n c xs) => ringAvailAt_any A n c xs b k a W h hb hk ha)
  have H14 := Lib.hid (fun W (h : RdB W A n c xs) => refAvailAt7_any A n c xs b k a W h hb hk ha)
  have H15 := Lib.hid (fun W (h : RdB W A n c xs) => ringUsedAt_any A n c xs b k a W h hb hk ha)
  have H16 := Lib.hid (fun W (h : RdB W A n c xs) => refUsedAt7_any A n c xs b k a W h hb hk ha)
  have H17 := Lib.hid (fun W => ringSize_any k W hk)
  have H18 := Lib.hid (fun W => refSize7_any k W)
  have H19 := Lib.hid (fun W => ringCheck_any A n c b k W hr.n63 hb hk)
  have H20 := Lib.hid (fun W => refCheck7_any A n c b k W hr.n63 hb hk)
  rw [show (⟨d0, d1, d2, d3⟩ : Dsc).v = #[.int .u64 (d0 : Int), .int .u32 (d1 : Int), .int .u16 (d2 : Int), .int .u16 (d3 : Int)] from rfl, hE1] at H3 H4
  rw [hE2] at H5 H6 H7 H8 H9 H10 H11 H12 H13 H14 H15 H16
  obtain ⟨⟨v0, v1, v2, v3⟩, hdd⟩ : ∃ d, rgDesc xs b k i = d := ⟨_, rfl⟩
  rw [hE1, hdd, show (⟨v0, v1, v2, v3⟩ : Dsc).v = #[.int .u64 (v0 : Int), .int .u32 (v1 : Int), .int .u16 (v2 : Int), .int .u16 (v3 : Int)] from rfl] at H1 H2
  obtain ⟨ys1, hy1⟩ : ∃ y, rgSetDesc xs b k i ⟨d0, d1, d2, d3⟩ = y := ⟨_, rfl⟩
  rw [hy1] at H3 H4
  obtain ⟨ys2, hy2⟩ : ∃ y, rgOffer xs b k a (i % 18446744073709551616).toNat = y := ⟨_, rfl⟩
  rw [hy2] at H5 H6
  obtain ⟨ys3, hy3⟩ : ∃ y, rgReturn xs b k a u v = y := ⟨_, rfl⟩
  rw [hy3] at H7 H8
  obtain ⟨p1, hp1⟩ : ∃ y, rgAvail xs b k = y := ⟨_, rfl⟩
  rw [hp1] at H9 H10
  obtain ⟨p2, hp2⟩ : ∃ y, rgUsed xs b k = y := ⟨_, rfl⟩
  rw [hp2] at H11 H12
  obtain ⟨p3, hp3⟩ : ∃ y, rgAt xs b k a = y := ⟨_, rfl⟩
  rw [hp3] at H13 H14
  obtain ⟨x0, hx0⟩ : ∃ y, rgUId xs b k a = y := ⟨_, rfl⟩
  obtain ⟨x1, hx1⟩ : ∃ y, rgULen xs b k a = y := ⟨_, rfl⟩
  rw [hx0, hx1] at H15 H16
  obtain ⟨p4, hp4⟩ : ∃ y, rgSize k = y := ⟨_, rfl⟩
  rw [hp4] at H17 H18
  obtain ⟨p5, hp5⟩ : ∃ y, rgCheck n b k = y := ⟨_, rfl⟩
  rw [hp5] at H19 H20
  clear hE1 hE2 hdd hy1 hy2 hy3 hp1 hp2 hp3 hx0 hx1 hp4 hp5 hdo
  have hn := hr.n63
  obtain ⟨W0, hW0⟩ : ∃ W, W = ((w.alloc (.cells #[.slice A n c] 28)).alloc (.cells #[.int .u64 (d0 : Int), .int .u32 (d1 : Int), .int .u16 (d2 : Int), .int .u16 (d3 : Int)] 44)).alloc (.cells #[.int .u32 (u : Int), .int .u32 (v : Int)] 25) := ⟨_, rfl⟩
  have B : Below w.heap.size w W0 := by rw [hW0]; exact (((below_self w).alloc (Nat.le_refl _) _).alloc (by simp) _).alloc (by simp; omega) _
  have qm : BoxAt W0 w.heap.size 28 (.slice A n c) := by rw [hW0]; exact row_old _ (row_old _ (row_at _ rfl))
  have qd : W0.heap[w.heap.size + 1]? = some (.cells #[.int .u64 (d0 : Int), .int .u32 (d1 : Int), .int .u16 (d2 : Int), .int .u16 (d3 : Int)] 44 (0, 0)) := by rw [hW0]; exact row_old _ (row_at _ (by simp))
  have qu : W0.heap[w.heap.size + 2]? = some (.cells #[.int .u32 (u : Int), .int .u32 (v : Int)] 25 (0, 0)) := by rw [hW0]; exact row_at _ (by simp)
  have zW : W0.heap.size = w.heap.size + 3 := by rw [hW0]; simp
  have rx := hr.below B
  have HW0 := Lib.hid hW0
  clear hW0
  go_enter Try.func4, Try.ntmps4
  have km := qm.c
  go_wp2_with fail
  rw [← HW0.out]
  refine (few_any A n c W0 hn).mono ?_
  rintro e w1 ⟨rfl, hb1⟩
  rw [DF]
  have B := below_then B hb1
  have zs1 := hb1.size
  have qm : BoxAt _ _ _ _ := row_up qm hb1
  have qd := row_up qd hb1
  have qu := row_up qu hb1
  have rx := rx.below hb1
  clear km
  have km := qm.c
  go_wp2_with fail
  refine (H1.out w1 rx).mono ?_
  rintro e w2 ⟨rfl, hb2⟩
  clear km
  have qm : BoxAt _ _ _ _ := row_up qm hb2
  have qd := row_up qd hb2
  have qu := row_up qu hb2
  have rx := rx.below hb2
  have B := below_then B hb2
  have zs2 := hb2.size
  have km := (qm.al (.cells #[.int .u64 (v0 : Int), .int .u32 (v1 : Int), .int .u16 (v2 : Int), .int .u16 (v3 : Int)] 44)).c
  go_wp2_with fail
  refine named ?_
  intro W2 hW2
  have bW2 : Below w2.heap.size w2 W2 := by rw [hW2]; repeat' (first | exact Below.refl _ _ | (refine Below.alloc ?_ ?_ _; rotate_left; (simp <;> omega)) | refine Below.drew ?_)
  have zW2 := bW2.size
  have qa : W2.heap[w2.heap.size]? = some (.cells #[.int .u64 (v0 : Int), .int .u32 (v1 : Int), .int .u16 (v2 : Int), .int .u16 (v3 : Int)] 44 (0, 0)) := by rw [hW2]; exact row_at _ rfl
  have HW2 := Lib.hid hW2
  clear hW2
  have qm : BoxAt _ _ _ _ := row_up qm bW2
  have qd := row_up qd bW2
  have qu := row_up qu bW2
  have rx := rx.below bW2
  have B := below_then B bW2
  refine (H2.out W2 rx).mono ?_
  rintro e w3 ⟨rfl, hb3⟩
  clear km
  have qm : BoxAt _ _ _ _ := row_up qm hb3
  have qd := row_up qd hb3
  have qu := row_up qu hb3
  have qa := row_up qa hb3
  have rx := rx.below hb3
  have B := below_then B hb3
  have zs3 := hb3.size
  have ka0 := (cell_of_row _ _ 0 _ _ _ (row_old (.cells #[.int .u64 (v0 : Int), .int .u32 (v1 : Int), .int .u16 (v2 : Int), .int .u16 (v3 : Int)] 44) qa)).trans (show (#[.int .u64 (v0 : Int), .int .u32 (v1 : Int), .int .u16 (v2 : Int), .int .u16 (v3 : Int)] : Array Value)[0]? = some (.int .u64 (v0 : Int)) from rfl)
  have ka1 := (cell_of_row _ _ 1 _ _ _ (row_old (.cells #[.int .u64 (v0 : Int), .int .u32 (v1 : Int), .int .u16 (v2 : Int), .int .u16 (v3 : Int)] 44) qa)).trans (show (#[.int .u64 (v0 : Int), .int .u32 (v1 : Int), .int .u16 (v2 : Int), .int .u16 (v3 : Int)] : Array Value)[1]? = some (.int .u32 (v1 : Int)) from rfl)
  have ka2 := (cell_of_row _ _ 2 _ _ _ (row_old (.cells #[.int .u64 (v0 : Int), .int .u32 (v1 : Int), .int .u16 (v2 : Int), .int .u16 (v3 : Int)] 44) qa)).trans (show (#[.int .u64 (v0 : Int), .int .u32 (v1 : Int), .int .u16 (v2 : Int), .int .u16 (v3 : Int)] : Array Value)[2]? = some (.int .u16 (v2 : Int)) from rfl)
  have ka3 := (cell_of_row _ _ 3 _ _ _ (row_old (.cells #[.int .u64 (v0 : Int), .int .u32 (v1 : Int), .int .u16 (v2 : Int), .int .u16 (v3 : Int)] 44) qa)).trans (show (#[.int .u64 (v0 : Int), .int .u32 (v1 : Int), .int .u16 (v2 : Int), .int .u16 (v3 : Int)] : Array Value)[3]? = some (.int .u16 (v3 : Int)) from rfl)
  have kd0 := (cell_of_row _ _ 0 _ _ _ (row_old (.cells #[.int .u64 (v0 : Int), .int .u32 (v1 : Int), .int .u16 (v2 : Int), .int .u16 (v3 : Int)] 44) qd)).trans (show (#[.int .u64 (d0 : Int), .int .u32 (d1 : Int), .int .u16 (d2 : Int), .int .u16 (d3 : Int)] : Array Value)[0]? = some (.int .u64 (d0 : Int)) from rfl)
  have kd1 := (cell_of_row _ _ 1 _ _ _ (row_old (.cells #[.int .u64 (v0 : Int), .int .u32 (v1 : Int), .int .u16 (v2 : Int), .int .u16 (v3 : Int)] 44) qd)).trans (show (#[.int .u64 (d0 : Int), .int .u32 (d1 : Int), .int .u16 (d2 : Int), .int .u16 (d3 : Int)] : Array Value)[1]? = some (.int .u32 (d1 : Int)) from rfl)
  have kd2 := (cell_of_row _ _ 2 _ _ _ (row_old (.cells #[.int .u64 (v0 : Int), .int .u32 (v1 : Int), .int .u16 (v2 : Int), .int .u16 (v3 : Int)] 44) qd)).trans (show (#[.int .u64 (d0 : Int), .int .u32 (d1 : Int), .int .u16 (d2 : Int), .int .u16 (d3 : Int)] : Array Value)[2]? = some (.int .u16 (d2 : Int)) from rfl)
  have kd3 := (cell_of_row _ _ 3 _ _ _ (row_old (.cells #[.int .u64 (v0 : Int), .int .u32 (v1 : Int), .int .u16 (v2 : Int), .int .u16 (v3 : Int)] 44) qd)).trans (show (#[.int .u64 (d0 : Int), .int .u32 (d1 : Int), .int .u16 (d2 : Int), .int .u16 (d3 : Int)] : Array Value)[3]? = some (.int .u16 (d3 : Int)) from rfl)
  have km := (qm.al (.cells #[.int .u64 (v0 : Int), .int .u32 (v1 : Int), .int .u16 (v2 : Int), .int .u16 (v3 : Int)] 44)).c
  go_wp2_with fail
  clear qa ka0 ka1 ka2 ka3 kd0 kd1 kd2 kd3 km
  refine named ?_
  intro W3 hW3
  have bW3 : Below w3.heap.size w3 W3 := by rw [hW3]; repeat' (first | exact Below.refl _ _ | (refine Below.alloc ?_ ?_ _; rotate_left; (simp <;> omega)) | refine Below.drew ?_)
  have zW3 := bW3.size
  have HW3 := Lib.hid hW3
  clear hW3
  have qm : BoxAt _ _ _ _ := row_up qm bW3
  have qd := row_up qd bW3
  have qu := row_up qu bW3
  have rx := rx.below bW3
  have B := below_then B bW3
  refine (H3.out W3 rx).mono ?_
  rintro e w4 ⟨Ap, cp, rfl, rp, fp, hb4⟩
  have qm : BoxAt _ _ _ _ := row_up qm hb4
  have qd := row_up qd hb4
  have qu := row_up qu hb4
  have rx := rx.below hb4
  have B := below_then B hb4
  have zs4 := hb4.size
  have kd0 := (cell_of_row _ _ 0 _ _ _ (row_old (.cells #[.slice Ap n cp] 28) qd)).trans (show (#[.int .u64 (d0 : Int), .int .u32 (d1 : Int), .int .u16 (d2 : Int), .int .u16 (d3 : Int)] : Array Value)[0]? = some (.int .u64 (d0 : Int)) from rfl)
  have kd1 := (cell_of_row _ _ 1 _ _ _ (row_old (.cells #[.slice Ap n cp] 28) qd)).trans (show (#[.int .u64 (d0 : Int), .int .u32 (d1 : Int), .int .u16 (d2 : Int), .int .u16 (d3 : Int)] : Array Value)[1]? = some (.int .u32 (d1 : Int)) from rfl)
  have kd2 := (cell_of_row _ _ 2 _ _ _ (row_old (.cells #[.slice Ap n cp] 28) qd)).trans (show (#[.int .u64 (d0 : Int), .int .u32 (d1 : Int), .int .u16 (d2 : Int), .int .u16 (d3 : Int)] : Array Value)[2]? = some (.int .u16 (d2 : Int)) from rfl)
  have kd3 := (cell_of_row _ _ 3 _ _ _ (row_old (.cells #[.slice Ap n cp] 28) qd)).trans (show (#[.int .u64 (d0 : Int), .int .u32 (d1 : Int), .int .u16 (d2 : Int), .int .u16 (d3 : Int)] : Array Value)[3]? = some (.int .u16 (d3 : Int)) from rfl)
  have km := (qm.al (.cells #[.slice Ap n cp] 28)).c
  go_wp2_with fail
  clear kd0 kd1 kd2 kd3 km
  refine named ?_
  intro W4 hW4
  have bW4 : Below w4.heap.size w4 W4 := by rw [hW4]; repeat' (first | exact Below.refl _ _ | (refine Below.alloc ?_ ?_ _; rotate_left; (simp <;> omega)) | refine Below.drew ?_)
  have zW4 := bW4.size
  have qp : BoxAt W4 w4.heap.size 28 (.slice Ap n cp) := by rw [hW4]; exact row_at _ rfl
  have HW4 := Lib.hid hW4
  clear hW4
  have qm : BoxAt _ _ _ _ := row_up qm bW4
  have qd := row_up qd bW4
  have qu := row_up qu bW4
  have rx := rx.below bW4
  have B := below_then B bW4
  have rp := rp.below bW4
  obtain ⟨gp, hgp⟩ : ∃ g, g = w4.heap.size := ⟨_, rfl⟩
  have lp : w.heap.size + 3 ≤ gp := by omega
  rw [← hgp] at qp
  have HGP := Lib.hid hgp
  clear hgp
  refine (H4.out W4 rx).mono ?_
  rintro e w5 ⟨Aq, cq, rfl, rq, fq, hb5⟩
  have qm : BoxAt _ _ _ _ := row_up qm hb5
  have qp : BoxAt _ _ _ _ := row_up qp hb5
  have qd := row_up qd hb5
  have qu := row_up qu hb5
  have rx := rx.below hb5
  have rp := rp.below hb5
  have B := below_then B hb5
  have zs5 := hb5.size
  rw [← HGP.out]
  have lq0 := row_lt qp
  have kp := (qp.al (.cells #[.slice Aq n cq] 28)).c
  go_wp2_with fail
  clear kp
  refine named ?_
  intro W5 hW5
  have bW5 : Below w5.heap.size w5 W5 := by rw [hW5]; repeat' (first | exact Below.refl _ _ | (refine Below.alloc ?_ ?_ _; rotate_left; (simp <;> omega)) | refine Below.drew ?_)
  have zW5 := bW5.size
  have qq : BoxAt W5 w5.heap.size 28 (.slice Aq n cq) := by rw [hW5]; exact row_at _ rfl
  have HW5 := Lib.hid hW5
  clear hW5
  have qm : BoxAt _ _ _ _ := row_up qm bW5
  have qp : BoxAt _ _ _ _ := row_up qp bW5
  have qd := row_up qd bW5
  have qu := row_up qu bW5
  have rx := rx.below bW5
  have rp := rp.below bW5
  have B := below_then B bW5
  have rq := rq.below bW5
  obtain ⟨gq, hgq⟩ : ∃ g, g = w5.heap.size := ⟨_, rfl⟩
  have lq : gp < gq := by omega
  rw [← hgq] at qq
  have HGQ := Lib.hid hgq
  clear hgq
  refine (memSame_any Ap Aq n cp n cq _ _ W5 rp rq).mono ?_
  rintro e w6 ⟨rfl, hb6⟩
  rw [decide_eq_true rfl]
  have qm : BoxAt _ _ _ _ := row_up qm hb6
  have qp : BoxAt _ _ _ _ := row_up qp hb6
  have qq : BoxAt _ _ _ _ := row_up qq hb6
  have qd := row_up qd hb6
  have qu := row_up qu hb6
  have rx := rx.below hb6
  have rp := rp.below hb6
  have rq := rq.below hb6
  have B := below_then B hb6
  have zs6 := hb6.size
  rw [← HGQ.out]
  have lqw := row_lt qq
  have km := qm.c
  go_wp2_with fail
  clear km
  refine (H5.out w6 rx).mono ?_
  rintro e w7 ⟨Bp, dp, rfl, sp, fp, hb7⟩
  obtain ⟨mp, qp', sp', bt, bl⟩ := mm_stepC (g := gp) qp hb7 sp fp (oA gp (by omega))
  have kp := mp.c
  have up := mp.f
  have B := B.trans (bl.mono (show w.heap.size ≤ gp by omega))
  have qm := row_but qm bt (show w.heap.size ≠ gp by omega)
  have qd := row_but qd bt (show w.heap.size + 1 ≠ gp by omega)
  have qu := row_but qu bt (show w.heap.size + 2 ≠ gp by omega)
  have qq := row_but qq bt (show gq ≠ gp by omega)
  have rx := rdB_but rx bt (oA gp (by omega))
  have zs7 := bt.size
  have km : World.cell? _ _ = _ := BoxAt.c qm
  clear rp qp mp
  obtain ⟨V7, hV7⟩ : ∃ V, V = w7.setCell ⟨gp, 0, none⟩ (.slice Bp n dp) := ⟨_, rfl⟩
  rw [← hV7] at qm qd qu qq rx qp' sp' B bt zs7
  have HV7 := Lib.hid hV7
  clear hV7
  go_wp2_with fail
  rw [← HV7.out]
  clear km kp up
  refine (H6.out V7 rx).mono ?_
  rintro e w8 ⟨Bq, dq, rfl, sq, fq, hb8⟩
  obtain ⟨mq, qq', sq', bt2, bl2⟩ := mm_stepC (g := gq) qq hb8 sq fq (oA gq (by omega))
  have kq := mq.c
  have uq := mq.f
  have B := B.trans (bl2.mono (show w.heap.size ≤ gq by omega))
  have qm := row_but qm bt2 (show w.heap.size ≠ gq by omega)
  have qd := row_but qd bt2 (show w.heap.size + 1 ≠ gq by omega)
  have qu := row_but qu bt2 (show w.heap.size + 2 ≠ gq by omega)
  have qp := row_but qp' bt2 (show gp ≠ gq by omega)
  have rx := rdB_but rx bt2 (oA gq (by omega))
  have zs8 := bt2.size
  have offp : 0 < n → Off Bp gq := fun h0 a e => by
    rcases fp with rfl | h
    · exact oA gq (by omega) h0 a e
    · have := h a e; omega
  have rp := rdB_but sp' bt2 offp
  have kp : World.cell? _ _ = _ := BoxAt.c qp
  have kqq := qq'.c
  clear rq qq mq qp' sp' sp bt bl
  obtain ⟨V8, hV8⟩ : ∃ V, V = w8.setCell ⟨gq, 0, none⟩ (.slice Bq n dq) := ⟨_, rfl⟩
  have rq := sq'
  have qq := qq'
  clear sq' qq' sq
  rw [← hV8] at qm qd qu qq rx qp rp rq B bt2 zs8
  have HV8 := Lib.hid hV8
  clear hV8
  go_wp2_with fail
  rw [← HV8.out]
  clear kp kq uq kqq
  refine (memSame_any Bp Bq n dp n dq _ _ V8 rp rq).mono ?_
  rintro e w9 ⟨rfl, hb9⟩
  rw [decide_eq_true rfl]
  have lqw := row_lt qq
  have qm : BoxAt _ _ _ _ := row_up qm hb9
  have qp : BoxAt _ _ _ _ := row_up qp hb9
  have qq : BoxAt _ _ _ _ := row_up qq hb9
  have qd := row_up qd hb9
  have qu := row_up qu hb9
  have rx := rx.below hb9
  have B := below_then B hb9
  have zs9 := hb9.size
  have km := qm.c
  have ku0 := (cell_of_row _ _ 0 _ _ _ qu).trans (show (#[.int .u32 (u : Int), .int .u32 (v : Int)] : Array Value)[0]? = some (.int .u32 (u : Int)) from rfl)
  have ku1 := (cell_of_row _ _ 1 _ _ _ qu).trans (show (#[.int .u32 (u : Int), .int .u32 (v : Int)] : Array Value)[1]? = some (.int .u32 (v : Int)) from rfl)
  go_wp2_with fail
  clear km ku0 ku1
  refine (H7.out w9 rx).mono ?_
  rintro e w10 ⟨Bp, dp, rfl, sp, fp, hb10⟩
  obtain ⟨mp, qp', sp', bt, bl⟩ := mm_stepC (g := gp) qp hb10 sp fp (oA gp (by omega))
  have kp := mp.c
  have up := mp.f
  have B := B.trans (bl.mono (show w.heap.size ≤ gp by omega))
  have qm := row_but qm bt (show w.heap.size ≠ gp by omega)
  have qd := row_but qd bt (show w.heap.size + 1 ≠ gp by omega)
  have qu := row_but qu bt (show w.heap.size + 2 ≠ gp by omega)
  have qq := row_but qq bt (show gq ≠ gp by omega)
  have rx := rdB_but rx bt (oA gp (by omega))
  have zs10 := bt.size
  have km : World.cell? _ _ = _ := BoxAt.c qm
  have ku0 := (cell_of_row _ _ 0 _ _ _ qu).trans (show (#[.int .u32 (u : Int), .int .u32 (v : Int)] : Array Value)[0]? = some (.int .u32 (u : Int)) from rfl)
  have ku1 := (cell_of_row _ _ 1 _ _ _ qu).trans (show (#[.int .u32 (u : Int), .int .u32 (v : Int)] : Array Value)[1]? = some (.int .u32 (v : Int)) from rfl)
  clear rp qp mp
  obtain ⟨V10, hV10⟩ : ∃ V, V = w10.setCell ⟨gp, 0, none⟩ (.slice Bp n dp) := ⟨_, rfl⟩
  rw [← hV10] at qm qd qu qq rx qp' sp' B bt zs10
  have HV10 := Lib.hid hV10
  clear hV10
  go_wp2_with fail
  rw [← HV10.out]
  clear km kp up ku0 ku1
  refine (H8.out V10 rx).mono ?_
  rintro e w11 ⟨Bq, dq, rfl, sq, fq, hb11⟩
  obtain ⟨mq, qq', sq', bt2, bl2⟩ := mm_stepC (g := gq) qq hb11 sq fq (oA gq (by omega))
  have kq := mq.c
  have uq := mq.f
  have B := B.trans (bl2.mono (show w.heap.size ≤ gq by omega))
  have qm := row_but qm bt2 (show w.heap.size ≠ gq by omega)
  have qd := row_but qd bt2 (show w.heap.size + 1 ≠ gq by omega)
  have qu := row_but qu bt2 (show w.heap.size + 2 ≠ gq by omega)
  have qp := row_but qp' bt2 (show gp ≠ gq by omega)
  have rx := rdB_but rx bt2 (oA gq (by omega))
  have zs11 := bt2.size
  have offp : 0 < n → Off Bp gq := fun h0 a e => by
    rcases fp with rfl | h
    · exact oA gq (by omega) h0 a e
    · have := h a e; omega
  have rp := rdB_but sp' bt2 offp
  have kp : World.cell? _ _ = _ := BoxAt.c qp
  have kqq := qq'.c
  clear rq qq mq qp' sp' sp bt bl
  obtain ⟨V11, hV11⟩ : ∃ V, V = w11.setCell ⟨gq, 0, none⟩ (.slice Bq n dq) := ⟨_, rfl⟩
  have rq := sq'
  have qq := qq'
  clear sq' qq' sq
  rw [← hV11] at qm qd qu qq rx qp rp rq B bt2 zs11
  have HV11 := Lib.hid hV11
  clear hV11
  go_wp2_with fail
  rw [← HV11.out]
  clear kp kq uq kqq
  refine (memSame_any Bp Bq n dp n dq _ _ V11 rp rq).mono ?_
  rintro e w12 ⟨rfl, hb12⟩
  rw [decide_eq_true rfl]
  have lqw := row_lt qq
  have qm : BoxAt _ _ _ _ := row_up qm hb12
  have qp : BoxAt _ _ _ _ := row_up qp hb12
  have qq : BoxAt _ _ _ _ := row_up qq hb12
  have qd := row_up qd hb12
  have qu := row_up qu hb12
  have rx := rx.below hb12
  have B := below_then B hb12
  have zs12 := hb12.size
  clear qp qq qd qu rp rq bt2 bl2 offp fp fq
  have km := qm.c
  go_wp2_with fail
  refine (H9.out w12 rx).mono ?_
  rintro e w13 ⟨rfl, hb13⟩
  clear km
  have qm : BoxAt _ _ _ _ := row_up qm hb13
  have rx := rx.below hb13
  have B := below_then B hb13
  have zs13 := hb13.size
  have km := qm.c
  go_wp2_with fail
  refine (H10.out w13 rx).mono ?_
  rintro e w14 ⟨rfl, hb14⟩
  clear km
  have qm : BoxAt _ _ _ _ := row_up qm hb14
  have rx := rx.below hb14
  have B := below_then B hb14
  have zs14 := hb14.size
  have km := qm.c
  go_wp2_with fail
  refine (H11.out w14 rx).mono ?_
  rintro e w15 ⟨rfl, hb15⟩
  clear km
  have qm : BoxAt _ _ _ _ := row_up qm hb15
  have rx := rx.below hb15
  have B := below_then B hb15
  have zs15 := hb15.size
  have km := qm.c
  go_wp2_with fail
  refine (H12.out w15 rx).mono ?_
  rintro e w16 ⟨rfl, hb16⟩
  clear km
  have qm : BoxAt _ _ _ _ := row_up qm hb16
  have rx := rx.below hb16
  have B := below_then B hb16
  have zs16 := hb16.size
  have km := qm.c
  go_wp2_with fail
  refine (H13.out w16 rx).mono ?_
  rintro e w17 ⟨rfl, hb17⟩
  clear km
  have qm : BoxAt _ _ _ _ := row_up qm hb17
  have rx := rx.below hb17
  have B := below_then B hb17
  have zs17 := hb17.size
  have km := qm.c
  go_wp2_with fail
  refine (H14.out w17 rx).mono ?_
  rintro e w18 ⟨rfl, hb18⟩
  clear km
  have qm : BoxAt _ _ _ _ := row_up qm hb18
  have rx := rx.below hb18
  have B := below_then B hb18
  have zs18 := hb18.size
  have km := qm.c
  go_wp2_with fail
  refine (H15.out w18 rx).mono ?_
  rintro e w19 ⟨rfl, hb19⟩
  clear km
  have qm : BoxAt _ _ _ _ := row_up qm hb19
  have rx := rx.below hb19
  have B := below_then B hb19
  have zs19 := hb19.size
  have km := (qm.al (.cells #[.int .u32 (x0 : Int), .int .u32 (x1 : Int)] 25)).c
  go_wp2_with fail
  clear km
  refine named ?_
  intro W19 hW19
  have bW19 : Below w19.heap.size w19 W19 := by rw [hW19]; repeat' (first | exact Below.refl _ _ | (refine Below.alloc ?_ ?_ _; rotate_left; (simp <;> omega)) | refine Below.drew ?_)
  have zW19 := bW19.size
  have qa : W19.heap[w19.heap.size]? = some (.cells #[.int .u32 (x0 : Int), .int .u32 (x1 : Int)] 25 (0, 0)) := by rw [hW19]; exact row_at _ rfl
  have HW19 := Lib.hid hW19
  clear hW19
  have qm : BoxAt _ _ _ _ := row_up qm bW19
  have rx := rx.below bW19
  have B := below_then B bW19
  refine (H16.out W19 rx).mono ?_
  rintro e w20 ⟨rfl, hb20⟩
  have qm : BoxAt _ _ _ _ := row_up qm hb20
  have qa := row_up qa hb20
  have rx := rx.below hb20
  have B := below_then B hb20
  have zs20 := hb20.size
  obtain ⟨Z, hZ⟩ : ∃ Z, Z = w20.alloc (.cells #[.int .u32 (x0 : Int), .int .u32 (x1 : Int)] 25) := ⟨_, rfl⟩
  have bZ : Below w20.heap.size w20 Z := by rw [hZ]; exact (below_self _).alloc (Nat.le_refl _) _
  have qb : Z.heap[w20.heap.size]? = some (.cells #[.int .u32 (x0 : Int), .int .u32 (x1 : Int)] 25 (0, 0)) := by rw [hZ]; exact row_at _ rfl
  have lb := row_lt qb
  have qm := qm.up bZ
  have qa := row_up qa bZ
  have lm := row_lt qm
  have la := row_lt qa
  have B := below_then B bZ
  have km := qm.c
  have ka0 := (cell_of_row _ _ 0 _ _ _ qa).trans (show (#[.int .u32 (x0 : Int), .int .u32 (x1 : Int)] : Array Value)[0]? = some (.int .u32 (x0 : Int)) from rfl)
  have ka1 := (cell_of_row _ _ 1 _ _ _ qa).trans (show (#[.int .u32 (x0 : Int), .int .u32 (x1 : Int)] : Array Value)[1]? = some (.int .u32 (x1 : Int)) from rfl)
  have kb0 := (cell_of_row _ _ 0 _ _ _ qb).trans (show (#[.int .u32 (x0 : Int), .int .u32 (x1 : Int)] : Array Value)[0]? = some (.int .u32 (x0 : Int)) from rfl)
  have kb1 := (cell_of_row _ _ 1 _ _ _ qb).trans (show (#[.int .u32 (x0 : Int), .int .u32 (x1 : Int)] : Array Value)[1]? = some (.int .u32 (x1 : Int)) from rfl)
  have HZ := Lib.hid hZ
  clear hZ qm qa qb
  go_wp2_with fail
  rw [← HZ.out]
  refine wp_region_plan (S := fun w' => Below Z.heap.size Z w') [(0, true), (1, true), (2, true), (3, true), (4, true), (5, true), (6, true), (7, true), (8, true), (9, true), (10, true), (11, true), (12, true), (13, true), (14, true), (15, true), (16, true), (17, true), (18, true), (19, true), (21, true), (20, false), (22, false), (23, true), (24, true), (25, true), (26, true), (27, true), (28, true), (30, true), (31, true), (32, true), (29, false), (33, false), (34, true), (35, true), (36, true), (37, false), (38, true), (39, true)] (by kernel_rfl) (by kernel_rfl) (fun _ _ d _ _ h => by cases d <;> exact h) ((Below.refl _ Z).drew) ?_
  iterate 4 (refine plan_take (v := ?_) rfl (Or.inl ⟨by rfl, ?_⟩) ?_; rotate_left; (focus (intro w' hw'; have jm := (hw'.cell (p := ⟨w.heap.size, 0, none⟩) lm).trans km; have ja0 := (hw'.cell (p := ⟨w19.heap.size, 0, none⟩) la).trans ka0; have ja1 := (hw'.cell (p := ⟨w19.heap.size, 1, none⟩) la).trans ka1; have jb0 := (hw'.cell (p := ⟨w20.heap.size, 0, none⟩) lb).trans kb0; have jb1 := (hw'.cell (p := ⟨w20.heap.size, 1, none⟩) lb).trans kb1; go_simp <;> with_reducible rfl)); try simp only [Act.put, List.setIfInBounds_toArray, List.set_cons_zero, List.set_cons_succ])
  iterate 3 ((first | refine plan_take (v := undef) rfl (Or.inr ⟨by rfl, rfl⟩) ?_ | (refine plan_take (v := ?_) rfl (Or.inl ⟨by rfl, ?_⟩) ?_; rotate_left; (focus (intro w' hw'; have jm := (hw'.cell (p := ⟨w.heap.size, 0, none⟩) lm).trans km; have ja0 := (hw'.cell (p := ⟨w19.heap.size, 0, none⟩) la).trans ka0; have ja1 := (hw'.cell (p := ⟨w19.heap.size, 1, none⟩) la).trans ka1; have jb0 := (hw'.cell (p := ⟨w20.heap.size, 0, none⟩) lb).trans kb0; have jb1 := (hw'.cell (p := ⟨w20.heap.size, 1, none⟩) lb).trans kb1; go_simp <;> with_reducible rfl)))); try simp only [Act.put, List.setIfInBounds_toArray, List.set_cons_zero, List.set_cons_succ])
  iterate 2 (refine plan_take (v := ?_) rfl (Or.inl ⟨by rfl, ?_⟩) ?_; rotate_left; (focus (intro w' hw'; have jm := (hw'.cell (p := ⟨w.heap.size, 0, none⟩) lm).trans km; have ja0 := (hw'.cell (p := ⟨w19.heap.size, 0, none⟩) la).trans ka0; have ja1 := (hw'.cell (p := ⟨w19.heap.size, 1, none⟩) la).trans ka1; have jb0 := (hw'.cell (p := ⟨w20.heap.size, 0, none⟩) lb).trans kb0; have jb1 := (hw'.cell (p := ⟨w20.heap.size, 1, none⟩) lb).trans kb1; go_simp <;> with_reducible rfl)); try simp only [Act.put, List.setIfInBounds_toArray, List.set_cons_zero, List.set_cons_succ])
  iterate 3 ((first | refine plan_take (v := undef) rfl (Or.inr ⟨by rfl, rfl⟩) ?_ | (refine plan_take (v := ?_) rfl (Or.inl ⟨by rfl, ?_⟩) ?_; rotate_left; (focus (intro w' hw'; have jm := (hw'.cell (p := ⟨w.heap.size, 0, none⟩) lm).trans km; have ja0 := (hw'.cell (p := ⟨w19.heap.size, 0, none⟩) la).trans ka0; have ja1 := (hw'.cell (p := ⟨w19.heap.size, 1, none⟩) la).trans ka1; have jb0 := (hw'.cell (p := ⟨w20.heap.size, 0, none⟩) lb).trans kb0; have jb1 := (hw'.cell (p := ⟨w20.heap.size, 1, none⟩) lb).trans kb1; go_simp <;> with_reducible rfl)))); try simp only [Act.put, List.setIfInBounds_toArray, List.set_cons_zero, List.set_cons_succ])
  iterate 2 (refine plan_take (v := ?_) rfl (Or.inl ⟨by rfl, ?_⟩) ?_; rotate_left; (focus (intro w' hw'; have jm := (hw'.cell (p := ⟨w.heap.size, 0, none⟩) lm).trans km; have ja0 := (hw'.cell (p := ⟨w19.heap.size, 0, none⟩) la).trans ka0; have ja1 := (hw'.cell (p := ⟨w19.heap.size, 1, none⟩) la).trans ka1; have jb0 := (hw'.cell (p := ⟨w20.heap.size, 0, none⟩) lb).trans kb0; have jb1 := (hw'.cell (p := ⟨w20.heap.size, 1, none⟩) lb).trans kb1; go_simp <;> with_reducible rfl)); try simp only [Act.put, List.setIfInBounds_toArray, List.set_cons_zero, List.set_cons_succ])
  iterate 3 ((first | refine plan_take (v := undef) rfl (Or.inr ⟨by rfl, rfl⟩) ?_ | (refine plan_take (v := ?_) rfl (Or.inl ⟨by rfl, ?_⟩) ?_; rotate_left; (focus (intro w' hw'; have jm := (hw'.cell (p := ⟨w.heap.size, 0, none⟩) lm).trans km; have ja0 := (hw'.cell (p := ⟨w19.heap.size, 0, none⟩) la).trans ka0; have ja1 := (hw'.cell (p := ⟨w19.heap.size, 1, none⟩) la).trans ka1; have jb0 := (hw'.cell (p := ⟨w20.heap.size, 0, none⟩) lb).trans kb0; have jb1 := (hw'.cell (p := ⟨w20.heap.size, 1, none⟩) lb).trans kb1; go_simp <;> with_reducible rfl)))); try simp only [Act.put, List.setIfInBounds_toArray, List.set_cons_zero, List.set_cons_succ])
  iterate 2 (refine plan_take (v := ?_) rfl (Or.inl ⟨by rfl, ?_⟩) ?_; rotate_left; (focus (intro w' hw'; have jm := (hw'.cell (p := ⟨w.heap.size, 0, none⟩) lm).trans km; have ja0 := (hw'.cell (p := ⟨w19.heap.size, 0, none⟩) la).trans ka0; have ja1 := (hw'.cell (p := ⟨w19.heap.size, 1, none⟩) la).trans ka1; have jb0 := (hw'.cell (p := ⟨w20.heap.size, 0, none⟩) lb).trans kb0; have jb1 := (hw'.cell (p := ⟨w20.heap.size, 1, none⟩) lb).trans kb1; go_simp <;> with_reducible rfl)); try simp only [Act.put, List.setIfInBounds_toArray, List.set_cons_zero, List.set_cons_succ])
  iterate 2 ((first | refine plan_take (v := undef) rfl (Or.inr ⟨by rfl, rfl⟩) ?_ | (refine plan_take (v := ?_) rfl (Or.inl ⟨by rfl, ?_⟩) ?_; rotate_left; (focus (intro w' hw'; have jm := (hw'.cell (p := ⟨w.heap.size, 0, none⟩) lm).trans km; have ja0 := (hw'.cell (p := ⟨w19.heap.size, 0, none⟩) la).trans ka0; have ja1 := (hw'.cell (p := ⟨w19.heap.size, 1, none⟩) la).trans ka1; have jb0 := (hw'.cell (p := ⟨w20.heap.size, 0, none⟩) lb).trans kb0; have jb1 := (hw'.cell (p := ⟨w20.heap.size, 1, none⟩) lb).trans kb1; go_simp <;> with_reducible rfl)))); try simp only [Act.put, List.setIfInBounds_toArray, List.set_cons_zero, List.set_cons_succ])
  refine plan_run rfl (fun K hK => ?_)
  go_simp
  refine (H17.out _).mono ?_
  rintro e_ wx ⟨rfl, rfl⟩
  have HX := (Below.refl Z.heap.size Z).drew
  refine hK.out _ _ (HX) ?_
  clear hK
  try simp only [Act.put, List.setIfInBounds_toArray, List.set_cons_zero, List.set_cons_succ]
  refine plan_run rfl (fun K hK => ?_)
  go_simp
  refine (H18.out _).mono ?_
  rintro e_ wx ⟨rfl, rfl⟩
  refine hK.out _ _ (HX) ?_
  clear hK
  try simp only [Act.put, List.setIfInBounds_toArray, List.set_cons_zero, List.set_cons_succ]
  iterate 1 ((first | refine plan_take (v := undef) rfl (Or.inr ⟨by rfl, rfl⟩) ?_ | (refine plan_take (v := ?_) rfl (Or.inl ⟨by rfl, ?_⟩) ?_; rotate_left; (focus (intro w' hw'; have jm := (hw'.cell (p := ⟨w.heap.size, 0, none⟩) lm).trans km; have ja0 := (hw'.cell (p := ⟨w19.heap.size, 0, none⟩) la).trans ka0; have ja1 := (hw'.cell (p := ⟨w19.heap.size, 1, none⟩) la).trans ka1; have jb0 := (hw'.cell (p := ⟨w20.heap.size, 0, none⟩) lb).trans kb0; have jb1 := (hw'.cell (p := ⟨w20.heap.size, 1, none⟩) lb).trans kb1; go_simp <;> with_reducible rfl)))); try simp only [Act.put, List.setIfInBounds_toArray, List.set_cons_zero, List.set_cons_succ])
  iterate 2 (refine plan_take (v := ?_) rfl (Or.inl ⟨by rfl, ?_⟩) ?_; rotate_left; (focus (intro w' hw'; have jm := (hw'.cell (p := ⟨w.heap.size, 0, none⟩) lm).trans km; have ja0 := (hw'.cell (p := ⟨w19.heap.size, 0, none⟩) la).trans ka0; have ja1 := (hw'.cell (p := ⟨w19.heap.size, 1, none⟩) la).trans ka1; have jb0 := (hw'.cell (p := ⟨w20.heap.size, 0, none⟩) lb).trans kb0; have jb1 := (hw'.cell (p := ⟨w20.heap.size, 1, none⟩) lb).trans kb1; go_simp <;> with_reducible rfl)); try simp only [Act.put, List.setIfInBounds_toArray, List.set_cons_zero, List.set_cons_succ])
  iterate 6 ((first | refine plan_take (v := undef) rfl (Or.inr ⟨by rfl, rfl⟩) ?_ | (refine plan_take (v := ?_) rfl (Or.inl ⟨by rfl, ?_⟩) ?_; rotate_left; (focus (intro w' hw'; have jm := (hw'.cell (p := ⟨w.heap.size, 0, none⟩) lm).trans km; have ja0 := (hw'.cell (p := ⟨w19.heap.size, 0, none⟩) la).trans ka0; have ja1 := (hw'.cell (p := ⟨w19.heap.size, 1, none⟩) la).trans ka1; have jb0 := (hw'.cell (p := ⟨w20.heap.size, 0, none⟩) lb).trans kb0; have jb1 := (hw'.cell (p := ⟨w20.heap.size, 1, none⟩) lb).trans kb1; go_simp <;> with_reducible rfl)))); try simp only [Act.put, List.setIfInBounds_toArray, List.set_cons_zero, List.set_cons_succ])
  refine plan_run rfl (fun K hK => ?_)
  go_simp
  refine (H19.out _).mono ?_
  rintro e_ wy ⟨rfl, hby⟩
  have HY := below_then HX hby
  refine hK.out _ _ (HY) ?_
  clear hK
  try simp only [Act.put, List.setIfInBounds_toArray, List.set_cons_zero, List.set_cons_succ]
  refine plan_run rfl (fun K hK => ?_)
  go_simp
  refine (H20.out _).mono ?_
  rintro e_ wz ⟨rfl, hbz⟩
  have HY2 := below_then HY hbz
  refine hK.out _ _ (HY2) ?_
  clear hK
  try simp only [Act.put, List.setIfInBounds_toArray, List.set_cons_zero, List.set_cons_succ]
  iterate 1 ((first | refine plan_take (v := undef) rfl (Or.inr ⟨by rfl, rfl⟩) ?_ | (refine plan_take (v := ?_) rfl (Or.inl ⟨by rfl, ?_⟩) ?_; rotate_left; (focus (intro w' hw'; have jm := (hw'.cell (p := ⟨w.heap.size, 0, none⟩) lm).trans km; have ja0 := (hw'.cell (p := ⟨w19.heap.size, 0, none⟩) la).trans ka0; have ja1 := (hw'.cell (p := ⟨w19.heap.size, 1, none⟩) la).trans ka1; have jb0 := (hw'.cell (p := ⟨w20.heap.size, 0, none⟩) lb).trans kb0; have jb1 := (hw'.cell (p := ⟨w20.heap.size, 1, none⟩) lb).trans kb1; go_simp <;> with_reducible rfl)))); try simp only [Act.put, List.setIfInBounds_toArray, List.set_cons_zero, List.set_cons_succ])
  iterate 2 (refine plan_take (v := ?_) rfl (Or.inl ⟨by rfl, ?_⟩) ?_; rotate_left; (focus (intro w' hw'; have jm := (hw'.cell (p := ⟨w.heap.size, 0, none⟩) lm).trans km; have ja0 := (hw'.cell (p := ⟨w19.heap.size, 0, none⟩) la).trans ka0; have ja1 := (hw'.cell (p := ⟨w19.heap.size, 1, none⟩) la).trans ka1; have jb0 := (hw'.cell (p := ⟨w20.heap.size, 0, none⟩) lb).trans kb0; have jb1 := (hw'.cell (p := ⟨w20.heap.size, 1, none⟩) lb).trans kb1; go_simp <;> with_reducible rfl)); try simp only [Act.put, List.setIfInBounds_toArray, List.set_cons_zero, List.set_cons_succ])
  refine plan_run rfl (fun K hK => ?_)
  go_simp
  refine (heads07 _).mono ?_
  rintro e_ wt ⟨rfl, hbt⟩
  have HY3 := below_then HY2 hbt
  refine hK.out _ _ (HY3) ?_
  clear hK
  try simp only [Act.put, List.setIfInBounds_toArray, List.set_cons_zero, List.set_cons_succ]
  iterate 2 (refine plan_take (v := ?_) rfl (Or.inl ⟨by rfl, ?_⟩) ?_; rotate_left; (focus (intro w' hw'; have jm := (hw'.cell (p := ⟨w.heap.size, 0, none⟩) lm).trans km; have ja0 := (hw'.cell (p := ⟨w19.heap.size, 0, none⟩) la).trans ka0; have ja1 := (hw'.cell (p := ⟨w19.heap.size, 1, none⟩) la).trans ka1; have jb0 := (hw'.cell (p := ⟨w20.heap.size, 0, none⟩) lb).trans kb0; have jb1 := (hw'.cell (p := ⟨w20.heap.size, 1, none⟩) lb).trans kb1; go_simp <;> with_reducible rfl)); try simp only [Act.put, List.setIfInBounds_toArray, List.set_cons_zero, List.set_cons_succ])
  refine plan_done ?_
  go_wp2
  go_ret
  exact ⟨rfl, below_then B HY3⟩
theorem ringTells_law (A : Option Addr) (n c : Nat) (xs : List UInt8) (b k i : Int) (d0 d1 d2 d3 : Nat) (a : Nat) (u v : Nat) (w : World) (hr : RdB w A n c xs) (hb : (-9223372036854775808 ≤ b ∧ b ≤ 9223372036854775807)) (hk : (-9223372036854775808 ≤ k ∧ k ≤ 9223372036854775807)) (hi : (-9223372036854775808 ≤ i ∧ i ≤ 9223372036854775807)) (h0 : d0 < 18446744073709551616) (h1 : d1 < 4294967296) (h2 : d2 < 65536) (h3 : d3 < 65536) (ha : a < 65536) (hu : u < 4294967296) (hv : v < 4294967296) :
    Calls Try.prog 4 #[.agg #[.slice A n c], .int .i64 b, .int .i64 k, .int .i64 i, .agg #[.int .u64 (d0 : Int), .int .u32 (d1 : Int), .int .u16 (d2 : Int), .int .u16 (d3 : Int)], .int .u16 (a : Int), .agg #[.int .u32 (u : Int), .int .u32 (v : Int)]] w (RetV w (.bool true)) := by
  by_cases hF : n ≤ 3000
  · exact ringTells_main A n c xs b k i d0 d1 d2 d3 a u v w hr hb hk hi h0 h1 h2 h3 ha hu hv hF
  · exact ringTells_great A n c xs b k i d0 d1 d2 d3 a u v w hr hb hk hi h0 h1 h2 h3 ha hu hv hF
end Go.Proofs.Ytnfepikgbdeomaa
