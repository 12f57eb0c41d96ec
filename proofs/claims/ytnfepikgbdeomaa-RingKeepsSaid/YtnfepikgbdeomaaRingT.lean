/-
  Layer 7: rings: SetDesc's inner function.
-/
import Derived.Test.YtnfepikgbdeomaaRingH
import Derived.Test.YtnfepikgbdeomaaRingP
namespace Go.Proofs.Ytnfepikgbdeomaa
set_option maxRecDepth 20000
open Go.RowKit
set_option linter.unusedVariables false
set_option linter.unusedSimpArgs false
set_option maxHeartbeats 4000000

theorem ringSetDesc1_any (g gd g5 : Nat) (A : Option Addr) (n c : Nat) (xs : List UInt8) (at_ : Int) (d : Dsc) (m0 : Value) (w : World) (hf : FdAt w g A n c at_) (hr : RdB w A n c xs) (hA : Old A g5) (ha : 0 ≤ at_ ∧ at_ ≤ 90000) (hd : d.ok)
    (qd : w.heap[gd]? = some (.cells d.v 44 (0, 0))) (q5 : BoxAt w g5 28 m0) (ld : gd < g) (l5 : g5 < g) :
    Calls Try.prog 75 #[.pointer (some ⟨g, 0, none⟩), .pointer (some ⟨gd, 0, none⟩), .pointer (some ⟨g5, 0, none⟩)] w fun e w' => e = .returned (.tuple #[]) ∧ MmBox g g5 n A (rgSetD xs at_ d) w w' := by
  obtain ⟨d0, d1, d2, d3⟩ := d
  obtain ⟨h0, h1, h2, h3⟩ : d0 < 18446744073709551616 ∧ d1 < 4294967296 ∧ d2 < 65536 ∧ d3 < 65536 := hd
  have hoff : Off A g := fun a e => by have := hA a e; omega
  have wd0 := w64n (k := d0) (by omega)
  have wd1 := w64n (k := d1) (by omega)
  have wd2 := w64n (k := d2) (by omega)
  have wd3 := w64n (k := d3) (by omega)
  have cu0 := (cell_of_row w gd 0 _ _ _ qd).trans (show (#[.int .u64 (d0 : Int), .int .u32 (d1 : Int), .int .u16 (d2 : Int), .int .u16 (d3 : Int)] : Array Value)[0]? = some (.int .u64 (d0 : Int)) from rfl)
  have cu1 := (cell_of_row w gd 1 _ _ _ qd).trans (show (#[.int .u64 (d0 : Int), .int .u32 (d1 : Int), .int .u16 (d2 : Int), .int .u16 (d3 : Int)] : Array Value)[1]? = some (.int .u32 (d1 : Int)) from rfl)
  have cu2 := (cell_of_row w gd 2 _ _ _ qd).trans (show (#[.int .u64 (d0 : Int), .int .u32 (d1 : Int), .int .u16 (d2 : Int), .int .u16 (d3 : Int)] : Array Value)[2]? = some (.int .u16 (d2 : Int)) from rfl)
  have cu3 := (cell_of_row w gd 3 _ _ _ qd).trans (show (#[.int .u64 (d0 : Int), .int .u32 (d1 : Int), .int .u16 (d2 : Int), .int .u16 (d3 : Int)] : Array Value)[3]? = some (.int .u16 (d3 : Int)) from rfl)
  have gs := hf.lt
  have gs5 : g5 < w.heap.size := by omega
  unfold rgSetD
  dsimp only
  have HPut0 := Lib.hid (fput_any g A n c xs at_ 8 d0 w hf hr hoff (by omega) (by omega) (by omega))
  obtain ⟨ys0, hys0⟩ : ∃ ys, memPutN xs at_ 8 d0 = ys := ⟨_, rfl⟩
  rw [hys0] at HPut0 ⊢
  have HPut1 := Lib.hid (fun A' c' W h1 h2 h3 => fput_any g A' n c' ys0 (at_ + 8) 4 d1 W h1 h2 h3 (by omega) (by omega) (by omega))
  obtain ⟨ys1, hys1⟩ : ∃ ys, memPutN ys0 (at_ + 8) 4 d1 = ys := ⟨_, rfl⟩
  rw [hys1] at HPut1 ⊢
  have HPut2 := Lib.hid (fun A' c' W h1 h2 h3 => fput_any g A' n c' ys1 (at_ + 8 + 4) 2 d2 W h1 h2 h3 (by omega) (by omega) (by omega))
  obtain ⟨ys2, hys2⟩ : ∃ ys, memPutN ys1 (at_ + 8 + 4) 2 d2 = ys := ⟨_, rfl⟩
  rw [hys2] at HPut2 ⊢
  have HPut3 := Lib.hid (fun A' c' W h1 h2 h3 => fput_any g A' n c' ys2 (at_ + 8 + 4 + 2) 2 d3 W h1 h2 h3 (by omega) (by omega) (by omega))
  obtain ⟨ys3, hys3⟩ : ∃ ys, memPutN ys2 (at_ + 8 + 4 + 2) 2 d3 = ys := ⟨_, rfl⟩
  rw [hys3] at HPut3 ⊢
  clear hys0 hys1 hys2 hys3 hf hr qd
  go_enter Try.func75, Try.ntmps75
  go_wp2_with fail
  refine HPut0.out.mono ?_
  rintro e w2 ⟨rfl, A2, c2, f2, r2, o2, far2, b2⟩
  have X2 := b2
  have fa2 : A2 = A ∨ ∀ a, A2 = some a → w.heap.size ≤ a.block := far2
  have cd2 := (X2.cell (p := ⟨gd, 1, none⟩) ld).trans cu1
  clear cu0
  go_wp2_with fail
  refine (HPut1.out A2 c2 _ f2 r2 o2).mono ?_
  rintro e w3 ⟨rfl, A3, c3, f3, r3, o3, far3, b3⟩
  have X3 := X2.trans b3
  have fa3 : A3 = A ∨ ∀ a, A3 = some a → w.heap.size ≤ a.block := by
    rcases far3 with rfl | h
    · exact fa2
    · exact .inr fun a e => by have := h a e; have := X2.size; omega
  have cd3 := (X3.cell (p := ⟨gd, 2, none⟩) ld).trans cu2
  go_wp2_with fail
  refine (HPut2.out A3 c3 _ f3 r3 o3).mono ?_
  rintro e w4 ⟨rfl, A4, c4, f4, r4, o4, far4, b4⟩
  have X4 := X3.trans b4
  have fa4 : A4 = A ∨ ∀ a, A4 = some a → w.heap.size ≤ a.block := by
    rcases far4 with rfl | h
    · exact fa3
    · exact .inr fun a e => by have := h a e; have := X3.size; omega
  have cd4 := (X4.cell (p := ⟨gd, 3, none⟩) ld).trans cu3
  go_wp2_with fail
  refine (HPut3.out A4 c4 _ f4 r4 o4).mono ?_
  rintro e w5 ⟨rfl, A5, c5, f5, r5, o5, far5, b5⟩
  have X5 := X4.trans b5
  have fa5 : A5 = A ∨ ∀ a, A5 = some a → w.heap.size ≤ a.block := by
    rcases far5 with rfl | h
    · exact fa4
    · exact .inr fun a e => by have := h a e; have := X4.size; omega
  have p53 := q5.below X5 l5
  have s0 := f5.c0
  have s5 := p53.c
  have u5 := p53.f
  go_wp2_with fail
  refine bodyPost_end (v := .tuple #[]) (by simp [results, Try.results75]) rfl ?_
  have off5 : Off A5 g5 := fun a e => by
    rcases fa5 with rfl | h
    · have := hA a e; omega
    · have := h a e; omega
  exact ⟨rfl, A5, c5, (setc_rowT p53).trans rfl, rdB_off r5 off5 (by simp [World.setCell]) (fun j hj => Below.heap_setCell _ _ _ _ hj), fa5, (but_of X5).setCell _, (X5.mono (Nat.le_of_lt l5)).setCell (p := ⟨g5, 0, none⟩) (Nat.le_refl _) _⟩
end Go.Proofs.Ytnfepikgbdeomaa
