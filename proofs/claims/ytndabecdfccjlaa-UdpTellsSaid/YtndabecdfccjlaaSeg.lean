/-
  Layer 24: Check of the package and of the document.
-/
import Derived.Test.YtndabecdfccjlaaOps
import Derived.Test.YtndabecdfccjlaaAid
namespace Go.Proofs.Ytndabecdfccjlaa
set_option maxRecDepth 20000
open Go.RowKit
set_option linter.unusedVariables false
set_option linter.unusedSimpArgs false
set_option maxHeartbeats 8000000

/-- A segment in a box. -/
def SgAt (w : World) (g : Nat) (sp dp : Int) (sq ak : Nat) (fl wn : Int) (A : Option Addr) (n c : Nat) : Prop :=
  w.heap[g]? = some (.cells #[.int .i64 sp, .int .i64 dp, .int .u32 sq, .int .u32 ak, .int .i64 fl, .int .i64 wn, .slice A n c] 25 (0, 0))
theorem SgAt.cells {w : World} {g : Nat} {sp dp : Int} {sq ak : Nat} {fl wn : Int} {A : Option Addr} {n c : Nat} (h : SgAt w g sp dp sq ak fl wn A n c) :
    w.cell? ⟨g, 0, none⟩ = some (.int .i64 sp) ∧ w.cell? ⟨g, 1, none⟩ = some (.int .i64 dp) ∧ w.cell? ⟨g, 2, none⟩ = some (.int .u32 sq) ∧ w.cell? ⟨g, 3, none⟩ = some (.int .u32 ak) ∧ w.cell? ⟨g, 4, none⟩ = some (.int .i64 fl) ∧ w.cell? ⟨g, 5, none⟩ = some (.int .i64 wn) ∧ w.cell? ⟨g, 6, none⟩ = some (.slice A n c) ∧ (∀ i, w.frozen? ⟨g, i, none⟩ = false) :=
  ⟨cell_of_row _ _ 0 _ _ _ h, cell_of_row _ _ 1 _ _ _ h, cell_of_row _ _ 2 _ _ _ h, cell_of_row _ _ 3 _ _ _ h, cell_of_row _ _ 4 _ _ _ h, cell_of_row _ _ 5 _ _ _ h, cell_of_row _ _ 6 _ _ _ h, fun i => frozen_of_row _ _ i _ _ h⟩
theorem SgAt.below {W w : World} {B g : Nat} {sp dp : Int} {sq ak : Nat} {fl wn : Int} {A : Option Addr} {n c : Nat} (h : SgAt W g sp dp sq ak fl wn A n c) (hb : Below B W w) (hg : g < B) : SgAt w g sp dp sq ak fl wn A n c := (hb.block g hg).trans h
theorem SgAt.lt {w : World} {g : Nat} {sp dp : Int} {sq ak : Nat} {fl wn : Int} {A : Option Addr} {n c : Nat} (h : SgAt w g sp dp sq ak fl wn A n c) : g < w.heap.size := by
  rcases Nat.lt_or_ge g w.heap.size with hlt | hge
  · exact hlt
  · unfold SgAt at h; rw [Array.getElem?_eq_none hge] at h; cases h

def sgCheck (sp dp fl wn : Int) (n : Nat) : Bool := decide ((1 ≤ sp ∧ sp ≤ 65535) ∧ (1 ≤ dp ∧ dp ≤ 65535) ∧ (0 ≤ wn ∧ wn ≤ 65535) ∧ (0 ≤ fl ∧ fl ≤ 31) ∧ n ≤ 64)
def SgI (w : World) (sp dp : Int) (sq ak : Nat) (fl wn : Int) (A : Option Addr) (n c : Nat) (s : Value) (V : World) : Prop :=
  (s = .int .i64 0 ∨ (s = .int .i64 1 ∧ 1 ≤ sp ∧ sp ≤ 65535) ∨ (s = .int .i64 2 ∧ (1 ≤ sp ∧ sp ≤ 65535) ∧ 1 ≤ dp ∧ dp ≤ 65535) ∨ (s = .int .i64 3 ∧ (1 ≤ sp ∧ sp ≤ 65535) ∧ (1 ≤ dp ∧ dp ≤ 65535) ∧ 0 ≤ wn ∧ wn ≤ 65535)) ∧
    SgAt V w.heap.size sp dp sq ak fl wn A n c ∧ Below w.heap.size w V

theorem sgCheck_any (sp dp : Int) (sq ak : Nat) (fl wn : Int) (A : Option Addr) (n c : Nat) (w : World) (hn : n ≤ 9223372036854775807) :
    Calls Try.prog 46 #[.agg #[.int .i64 sp, .int .i64 dp, .int .u32 sq, .int .u32 ak, .int .i64 fl, .int .i64 wn, .slice A n c]] w (RetV w (.bool (sgCheck sp dp fl wn n))) := by
  obtain ⟨R, hR⟩ : ∃ R, sgCheck sp dp fl wn n = R := ⟨sgCheck sp dp fl wn n, rfl⟩
  rw [hR]
  have HR := Lib.hid hR
  clear hR
  have HI : SgI w sp dp sq ak fl wn A n c (.int .i64 0) (w.alloc (.cells #[.int .i64 sp, .int .i64 dp, .int .u32 sq, .int .u32 ak, .int .i64 fl, .int .i64 wn, .slice A n c] 25)) := ⟨.inl rfl, row1 .., (below_self w).alloc (Nat.le_refl _) _⟩
  go_enter Try.func46, Try.ntmps46
  go_wp2_with fail
  go_loopw [15] (SgI w sp dp sq ak fl wn A n c) (fun s _ => 3 - (intOf s).toNat)
  case atStart => exact HI
  case round =>
    obtain ⟨h1, h2, h3⟩ := hrel
    clear HI
    obtain ⟨a0, a1, a2, a3, a4, a5, a6, af⟩ := h2.cells
    clear af
    rcases h1 with rfl | ⟨rfl, g1, g2⟩ | ⟨rfl, ⟨g1, g2⟩, g3, g4⟩ | ⟨rfl, ⟨g1, g2⟩, ⟨g3, g4⟩, g5, g6⟩
    · have hix : (Instr.index 108 (.agg #[.int .i64 sp, .int .i64 1, .int .i64 65535, .int .i64 dp, .int .i64 1, .int .i64 65535, .int .i64 wn, .int .i64 0, .int .i64 65535]) (.int .i64 0)).run Try.prog wr = .ok (.agg #[.int .i64 sp, .int .i64 1, .int .i64 65535]) wr := by kernel_rfl
      by_cases e1 : sp < 1
      · have d1 : decide (sp < 1) = true := decide_eq_true e1
        have e9 : R = false := by rw [← HR.out]; exact decide_eq_false (by omega)
        subst e9
        go_wp2
        go_ret
        exact ⟨rfl, h3.alloc h3.size _⟩
      · have d1 : decide (sp < 1) = false := decide_eq_false e1
        by_cases e2 : 65535 < sp
        · have d2 : decide (65535 < sp) = true := decide_eq_true e2
          have e9 : R = false := by rw [← HR.out]; exact decide_eq_false (by omega)
          subst e9
          go_wp2
          go_ret
          exact ⟨rfl, h3.alloc h3.size _⟩
        · have d2 : decide (65535 < sp) = false := decide_eq_false e2
          go_wp2
          go_roundw
          case rel => exact ⟨.inr (.inl ⟨rfl, by omega, by omega⟩), h2.below ((below_self wr).alloc (Nat.le_refl _) _) h2.lt, h3.alloc h3.size _⟩
          case measure => simp [intOf]
    · have hix : (Instr.index 108 (.agg #[.int .i64 sp, .int .i64 1, .int .i64 65535, .int .i64 dp, .int .i64 1, .int .i64 65535, .int .i64 wn, .int .i64 0, .int .i64 65535]) (.int .i64 1)).run Try.prog wr = .ok (.agg #[.int .i64 dp, .int .i64 1, .int .i64 65535]) wr := by kernel_rfl
      by_cases e1 : dp < 1
      · have d1 : decide (dp < 1) = true := decide_eq_true e1
        have e9 : R = false := by rw [← HR.out]; exact decide_eq_false (by omega)
        subst e9
        go_wp2
        go_ret
        exact ⟨rfl, h3.alloc h3.size _⟩
      · have d1 : decide (dp < 1) = false := decide_eq_false e1
        by_cases e2 : 65535 < dp
        · have d2 : decide (65535 < dp) = true := decide_eq_true e2
          have e9 : R = false := by rw [← HR.out]; exact decide_eq_false (by omega)
          subst e9
          go_wp2
          go_ret
          exact ⟨rfl, h3.alloc h3.size _⟩
        · have d2 : decide (65535 < dp) = false := decide_eq_false e2
          go_wp2
          go_roundw
          case rel => exact ⟨.inr (.inr (.inl ⟨rfl, ⟨g1, g2⟩, by omega, by omega⟩)), h2.below ((below_self wr).alloc (Nat.le_refl _) _) h2.lt, h3.alloc h3.size _⟩
          case measure => simp [intOf]
    · have hix : (Instr.index 108 (.agg #[.int .i64 sp, .int .i64 1, .int .i64 65535, .int .i64 dp, .int .i64 1, .int .i64 65535, .int .i64 wn, .int .i64 0, .int .i64 65535]) (.int .i64 2)).run Try.prog wr = .ok (.agg #[.int .i64 wn, .int .i64 0, .int .i64 65535]) wr := by kernel_rfl
      by_cases e1 : wn < 0
      · have d1 : decide (wn < 0) = true := decide_eq_true e1
        have e9 : R = false := by rw [← HR.out]; exact decide_eq_false (by omega)
        subst e9
        go_wp2
        go_ret
        exact ⟨rfl, h3.alloc h3.size _⟩
      · have d1 : decide (wn < 0) = false := decide_eq_false e1
        by_cases e2 : 65535 < wn
        · have d2 : decide (65535 < wn) = true := decide_eq_true e2
          have e9 : R = false := by rw [← HR.out]; exact decide_eq_false (by omega)
          subst e9
          go_wp2
          go_ret
          exact ⟨rfl, h3.alloc h3.size _⟩
        · have d2 : decide (65535 < wn) = false := decide_eq_false e2
          go_wp2
          go_roundw
          case rel => exact ⟨.inr (.inr (.inr ⟨rfl, ⟨g1, g2⟩, ⟨g3, g4⟩, by omega, by omega⟩)), h2.below ((below_self wr).alloc (Nat.le_refl _) _) h2.lt, h3.alloc h3.size _⟩
          case measure => simp [intOf]
    · by_cases e1 : 0 ≤ fl ∧ fl ≤ 31
      · have s1 : (fl / 32 == 0) = true := by rw [beq_iff_eq]; omega
        by_cases e2 : n ≤ 64
        · have d2 : decide ((n : Int) ≤ 64) = true := decide_eq_true (by omega)
          have e9 : R = true := by rw [← HR.out]; exact decide_eq_true (by omega)
          subst e9
          go_wp2
          go_ret
          exact ⟨rfl, h3⟩
        · have d2 : decide ((n : Int) ≤ 64) = false := decide_eq_false (by omega)
          have e9 : R = false := by rw [← HR.out]; exact decide_eq_false (by omega)
          subst e9
          go_wp2
          go_ret
          exact ⟨rfl, h3⟩
      · have s1 : (fl / 32 == 0) = false := by rw [beq_eq_false_iff_ne]; omega
        have e9 : R = false := by rw [← HR.out]; exact decide_eq_false (by omega)
        subst e9
        go_wp2
        go_ret
        exact ⟨rfl, h3⟩

def portOk (v : Int) : Bool := decide (1 ≤ v ∧ v ≤ 65535)
theorem port24_any (v : Int) (w : World) : Calls Try.prog 45 #[.int .i64 v] w fun e w' => e = .returned (.bool (portOk v)) ∧ w = w' := by
  by_cases e1 : 1 ≤ v
  · have d1 : decide (1 ≤ v) = true := decide_eq_true e1
    by_cases e2 : v ≤ 65535
    · have d2 : decide (v ≤ 65535) = true := decide_eq_true e2
      have e9 : portOk v = true := decide_eq_true ⟨e1, e2⟩
      rw [e9]
      go_enter Try.func45, Try.ntmps45
      go_wp2
      go_ret
      exact ⟨rfl, rfl⟩
    · have d2 : decide (v ≤ 65535) = false := decide_eq_false e2
      have e9 : portOk v = false := decide_eq_false (by omega)
      rw [e9]
      go_enter Try.func45, Try.ntmps45
      go_wp2
      go_ret
      exact ⟨rfl, rfl⟩
  · have d1 : decide (1 ≤ v) = false := decide_eq_false e1
    have e9 : portOk v = false := decide_eq_false (by omega)
    rw [e9]
    go_enter Try.func45, Try.ntmps45
    go_wp2
    go_ret
    exact ⟨rfl, rfl⟩

theorem refCheck24_any (sp dp : Int) (sq ak : Nat) (fl wn : Int) (A : Option Addr) (n c : Nat) (w : World) (hn : n ≤ 9223372036854775807) :
    Calls Try.prog 13 #[.agg #[.int .i64 sp, .int .i64 dp, .int .u32 sq, .int .u32 ak, .int .i64 fl, .int .i64 wn, .slice A n c]] w (RetV w (.bool (sgCheck sp dp fl wn n))) := by
  obtain ⟨R, hR⟩ : ∃ R, sgCheck sp dp fl wn n = R := ⟨sgCheck sp dp fl wn n, rfl⟩
  rw [hR]
  have HR := Lib.hid hR
  clear hR
  go_enter Try.func13, Try.ntmps13
  go_wp2_with fail
  refine named ?_
  intro W1 hW1
  have bW1 : Below w.heap.size w W1 := by rw [hW1]; repeat' (first | exact Below.refl _ _ | (refine Below.alloc ?_ ?_ _; rotate_left; (simp <;> omega)) | refine Below.drew ?_)
  have zW1 := bW1.size
  have P1 : SgAt W1 w.heap.size sp dp sq ak fl wn A n c := by rw [hW1]; exact row1 ..
  have HW1 := Lib.hid hW1
  clear hW1
  obtain ⟨a0, a1, a2, a3, a4, a5, a6, af⟩ := P1.cells
  clear af
  refine (port24_any sp W1).mono ?_
  rintro e w1 ⟨rfl, rfl⟩
  by_cases g1 : 1 ≤ sp ∧ sp ≤ 65535
  rotate_left
  · rw [show portOk sp = false from decide_eq_false g1]
    have e9 : R = false := by rw [← HR.out]; exact decide_eq_false (by omega)
    subst e9
    go_wp2
    go_ret
    exact ⟨rfl, bW1⟩
  rw [show portOk sp = true from decide_eq_true g1]
  go_wp2_with fail
  refine (port24_any dp W1).mono ?_
  rintro e w1 ⟨rfl, rfl⟩
  by_cases g2 : 1 ≤ dp ∧ dp ≤ 65535
  rotate_left
  · rw [show portOk dp = false from decide_eq_false g2]
    have e9 : R = false := by rw [← HR.out]; exact decide_eq_false (by omega)
    subst e9
    go_wp2
    go_ret
    exact ⟨rfl, bW1⟩
  rw [show portOk dp = true from decide_eq_true g2]
  by_cases g3 : 0 ≤ fl
  rotate_left
  · have d0 : decide (0 ≤ fl) = false := decide_eq_false (by omega)
    have e9 : R = false := by rw [← HR.out]; exact decide_eq_false (by omega)
    subst e9
    go_wp2
    go_ret
    exact ⟨rfl, bW1⟩
  have d0 : decide (0 ≤ fl) = true := decide_eq_true (by omega)
  by_cases g4 : fl ≤ 31
  rotate_left
  · have d1 : decide (fl ≤ 31) = false := decide_eq_false (by omega)
    have e9 : R = false := by rw [← HR.out]; exact decide_eq_false (by omega)
    subst e9
    go_wp2
    go_ret
    exact ⟨rfl, bW1⟩
  have d1 : decide (fl ≤ 31) = true := decide_eq_true (by omega)
  by_cases g5 : 0 ≤ wn
  rotate_left
  · have d2 : decide (0 ≤ wn) = false := decide_eq_false (by omega)
    have e9 : R = false := by rw [← HR.out]; exact decide_eq_false (by omega)
    subst e9
    go_wp2
    go_ret
    exact ⟨rfl, bW1⟩
  have d2 : decide (0 ≤ wn) = true := decide_eq_true (by omega)
  by_cases g6 : wn ≤ 65535
  rotate_left
  · have d3 : decide (wn ≤ 65535) = false := decide_eq_false (by omega)
    have e9 : R = false := by rw [← HR.out]; exact decide_eq_false (by omega)
    subst e9
    go_wp2
    go_ret
    exact ⟨rfl, bW1⟩
  have d3 : decide (wn ≤ 65535) = true := decide_eq_true (by omega)
  by_cases g7 : n ≤ 64
  rotate_left
  · have d4 : decide ((n : Int) ≤ 64) = false := decide_eq_false (by omega)
    have e9 : R = false := by rw [← HR.out]; exact decide_eq_false (by omega)
    subst e9
    go_wp2
    go_ret
    exact ⟨rfl, bW1⟩
  have d4 : decide ((n : Int) ≤ 64) = true := decide_eq_true (by omega)
  have e9 : R = true := by rw [← HR.out]; exact decide_eq_true (by omega)
  subst e9
  go_wp2
  go_ret
  exact ⟨rfl, bW1⟩
end Go.Proofs.Ytndabecdfccjlaa
