/-
  Layer 6: Fill, Draw, Pending, Same of the package and of the document.
-/
import Derived.Test.YtieilgphcfiapaaPortsC
import Derived.Test.YtieilgphcfiapaaPortsP
import Derived.Test.YtieilgphcfiapaaClone
namespace Go.Proofs.Ytieilgphcfiapaa
set_option maxRecDepth 20000
open Go.RowKit
set_option linter.unusedVariables false
set_option linter.unusedSimpArgs false
set_option maxHeartbeats 4000000

def RetPtB (w : World) (l m k : Nat) (zs : List UInt8) (er : Int) (e : Ending) (w' : World) : Prop :=
  ∃ A n c, e = .returned (.tuple #[.agg #[.int .u32 l, .int .u32 m, .int .u64 k, .slice A n c], .int .i64 er]) ∧ RdB w' A n c zs ∧ Below w.heap.size w w'
def fillE (k n j : Nat) : Int := if ptCheck k n = true then (if 64 < n + j then 4 else 0) else 3
def fillL (xs ys : List UInt8) (er : Int) : List UInt8 := if er = 0 then xs ++ ys else xs
theorem fill_cases (k n j : Nat) : (ptCheck k n = false ∧ fillE k n j = 3) ∨ (ptCheck k n = true ∧ n ≤ 64 ∧ 64 < n + j ∧ fillE k n j = 4) ∨ (ptCheck k n = true ∧ n ≤ 64 ∧ n + j ≤ 64 ∧ fillE k n j = 0) := by
  unfold fillE
  cases h : ptCheck k n with
  | false => left; exact ⟨rfl, rfl⟩
  | true =>
    right
    have hn : n ≤ 64 := by unfold ptCheck at h; simp at h; exact h.2
    rw [if_pos rfl]
    by_cases h1 : 64 < n + j
    · left; exact ⟨rfl, hn, h1, if_pos h1⟩
    · right; exact ⟨rfl, hn, by omega, if_neg h1⟩
def RetDr (w : World) (l m k : Nat) (zs ds : List UInt8) (er : Int) (e : Ending) (w' : World) : Prop :=
  ∃ A n c B j d, e = .returned (.tuple #[.agg #[.int .u32 l, .int .u32 m, .int .u64 k, .slice A n c], .slice B j d, .int .i64 er]) ∧ RdB w' A n c zs ∧ RdB w' B j d ds ∧ Below w.heap.size w w'
def drawE (k n : Nat) (q : Int) : Int := if ptCheck k n = true then (if q < 0 then 2 else if (n : Int) < q then 7 else 0) else 3
def drawZ (xs : List UInt8) (q : Int) (er : Int) : List UInt8 := if er = 0 then xs.drop q.toNat else xs
def drawD (xs : List UInt8) (q : Int) (er : Int) : List UInt8 := if er = 0 then xs.take q.toNat else []
theorem draw_cases (k n : Nat) (q : Int) : (ptCheck k n = false ∧ drawE k n q = 3) ∨ (ptCheck k n = true ∧ q < 0 ∧ drawE k n q = 2) ∨ (ptCheck k n = true ∧ 0 ≤ q ∧ (n : Int) < q ∧ drawE k n q = 7) ∨ (ptCheck k n = true ∧ n ≤ 64 ∧ ∃ j : Nat, q = (j : Int) ∧ j ≤ n ∧ drawE k n q = 0) := by
  unfold drawE
  cases h : ptCheck k n with
  | false => left; exact ⟨rfl, rfl⟩
  | true =>
    right
    have hn : n ≤ 64 := by unfold ptCheck at h; simp at h; exact h.2
    rw [if_pos rfl]
    by_cases h1 : q < 0
    · left; exact ⟨rfl, h1, if_pos h1⟩
    · right; rw [if_neg h1]
      by_cases h2 : (n : Int) < q
      · left; exact ⟨rfl, by omega, h2, if_pos h2⟩
      · right; exact ⟨rfl, hn, q.toNat, by omega, by omega, if_neg h2⟩

theorem far_drop {w : World} {A D : Option Addr} {n c j : Nat} {xs : List UInt8} (hr : RdB w A n c xs) (hD : (if c = j then A else A.map (·.add j)) = D) (h : 0 < n - j) : ∀ a, D = some a → a.block < w.heap.size := by
  intro a ha
  have hc := hr.2.2.1
  rw [if_neg (by omega)] at hD
  obtain ⟨b, o, u, rfl, hb, _⟩ := hr.at_ 0 (by omega)
  rw [← hD] at ha
  simp only [Option.map_some, Addr.add_lit] at ha
  injection ha with ha
  rw [← ha]
  exact hb
theorem own_lo {w : World} {base : Nat} {A : Option Addr} {n c : Nat} {xs : List UInt8} (h : OwnB w base A n c xs) : ∀ a, A = some a → base ≤ a.block := by
  intro a ha
  rcases h.2 with ⟨e1, _⟩ | ⟨g', cap, cur, hv, hb, _⟩
  · injection e1 with e1; rw [ha] at e1; cases e1
  · injection hv with hv; rw [ha] at hv; injection hv with hv; subst hv; exact hb

theorem ptFill_any (l m k : Nat) (A : Option Addr) (n c : Nat) (xs : List UInt8) (B : Option Addr) (j d : Nat) (ys : List UInt8) (w : World) (hr : RdB w A n c xs) (hs : RdB w B j d ys) (hk : k < 18446744073709551616) :
    Calls Try.prog 52 #[(.agg #[.int .u32 l, .int .u32 m, .int .u64 k, .slice A n c]), .slice B j d] w (RetPtB w l m k (fillL xs ys (fillE k n j)) (fillE k n j)) := by
  have hn := hr.n63
  have hj := hs.n63
  have hl := hr.2.1
  rcases fill_cases k n j with ⟨h1, h2⟩ | ⟨h1, h2, h3, h4⟩ | ⟨h1, h2, h3, h4⟩
  · rw [h2, show fillL xs ys 3 = xs from rfl]
    clear h2
    go_enter Try.func52, Try.ntmps52
    go_wp2_with fail
    refine named ?_
    intro W1 hW1
    have bW1 : Below w.heap.size w W1 := by rw [hW1]; repeat' (first | exact Below.refl _ _ | (refine Below.alloc ?_ ?_ _; rotate_left; (simp <;> omega)) | refine Below.drew ?_)
    have zW1 := bW1.size
    have p1 : PtAt W1 w.heap.size l m k A n c := by rw [hW1]; exact row2a ..
    have r1 : W1.heap[w.heap.size + 1]? = some (.cells #[.int .u32 0, .int .u32 0, .int .u64 0, .slice none 0 0] 63 (0, 0)) := by rw [hW1]; exact row2b ..
    have s1 : w.heap.size + 2 ≤ W1.heap.size := by rw [hW1]; simp
    have HW1 := Lib.hid hW1
    clear hW1
    refine (ptCheck_any l m k A n c W1 hn hk).mono ?_
    rintro e w2 ⟨rfl, hb2⟩
    have p2 := p1.below hb2 (by omega)
    have R2 := Lib.hid ((hb2.block (w.heap.size + 1) (by omega)).trans r1)
    have B2 := below_then bW1 hb2
    have z2 := hb2.size
    obtain ⟨c0, c1, c2, c3, cf⟩ := p2.cells
    have f3 := cf 3
    clear cf r1
    rw [h1]
    go_wp2_with (refine wpList_store_row rfl _ _ _ rfl (w.heap.size + 1) #[.int .u32 l, .int .u32 m, .int .u64 k, .slice A n c] rfl rfl _ _ R2.out (by kernel_rfl : (Try.prog.info? 63).map (·.size) = some 4) rfl (by simp [Value.oneCell']) ?_)
    have cs := fun q_ => cell_setRow_same w2 (w.heap.size + 1) q_ _ #[.int .u32 l, .int .u32 m, .int .u64 k, .slice A n c] _ _ R2.out
    exact bodyPost_ret (v := .tuple #[.agg #[.int .u32 l, .int .u32 m, .int .u64 k, .slice A n c], .int .i64 3]) (by simp [results, Try.results52, go_sem, cs]) rfl ⟨A, n, c, rfl, rd_row (hr.below B2) _ _ (fun h a ha => Nat.ne_of_lt (Nat.lt_succ_of_lt (hr.lt h a ha))), below_setRow B2 (by omega) _⟩
  · rw [h4, show fillL xs ys 4 = xs from rfl]
    clear h4
    have d1 : decide ((64 : Int) - (n : Int) < (j : Int)) = true := decide_eq_true (by omega)
    go_enter Try.func52, Try.ntmps52
    go_wp2_with fail
    refine named ?_
    intro W1 hW1
    have bW1 : Below w.heap.size w W1 := by rw [hW1]; repeat' (first | exact Below.refl _ _ | (refine Below.alloc ?_ ?_ _; rotate_left; (simp <;> omega)) | refine Below.drew ?_)
    have zW1 := bW1.size
    have p1 : PtAt W1 w.heap.size l m k A n c := by rw [hW1]; exact row2a ..
    have r1 : W1.heap[w.heap.size + 1]? = some (.cells #[.int .u32 0, .int .u32 0, .int .u64 0, .slice none 0 0] 63 (0, 0)) := by rw [hW1]; exact row2b ..
    have s1 : w.heap.size + 2 ≤ W1.heap.size := by rw [hW1]; simp
    have HW1 := Lib.hid hW1
    clear hW1
    refine (ptCheck_any l m k A n c W1 hn hk).mono ?_
    rintro e w2 ⟨rfl, hb2⟩
    have p2 := p1.below hb2 (by omega)
    have R2 := Lib.hid ((hb2.block (w.heap.size + 1) (by omega)).trans r1)
    have B2 := below_then bW1 hb2
    have z2 := hb2.size
    obtain ⟨c0, c1, c2, c3, cf⟩ := p2.cells
    have f3 := cf 3
    clear cf r1
    rw [h1]
    go_wp2_with (refine wpList_store_row rfl _ _ _ rfl (w.heap.size + 1) #[.int .u32 l, .int .u32 m, .int .u64 k, .slice A n c] rfl rfl _ _ R2.out (by kernel_rfl : (Try.prog.info? 63).map (·.size) = some 4) rfl (by simp [Value.oneCell']) ?_)
    have cs := fun q_ => cell_setRow_same w2 (w.heap.size + 1) q_ _ #[.int .u32 l, .int .u32 m, .int .u64 k, .slice A n c] _ _ R2.out
    exact bodyPost_ret (v := .tuple #[.agg #[.int .u32 l, .int .u32 m, .int .u64 k, .slice A n c], .int .i64 4]) (by simp [results, Try.results52, go_sem, cs]) rfl ⟨A, n, c, rfl, rd_row (hr.below B2) _ _ (fun h a ha => Nat.ne_of_lt (Nat.lt_succ_of_lt (hr.lt h a ha))), below_setRow B2 (by omega) _⟩
  · rw [h4, show fillL xs ys 0 = xs ++ ys from rfl]
    clear h4
    have d1 : decide ((64 : Int) - (n : Int) < (j : Int)) = false := decide_eq_false (by omega)
    go_enter Try.func52, Try.ntmps52
    go_wp2_with fail
    refine named ?_
    intro W1 hW1
    have bW1 : Below w.heap.size w W1 := by rw [hW1]; repeat' (first | exact Below.refl _ _ | (refine Below.alloc ?_ ?_ _; rotate_left; (simp <;> omega)) | refine Below.drew ?_)
    have zW1 := bW1.size
    have p1 : PtAt W1 w.heap.size l m k A n c := by rw [hW1]; exact row2a ..
    have r1 : W1.heap[w.heap.size + 1]? = some (.cells #[.int .u32 0, .int .u32 0, .int .u64 0, .slice none 0 0] 63 (0, 0)) := by rw [hW1]; exact row2b ..
    have s1 : w.heap.size + 2 ≤ W1.heap.size := by rw [hW1]; simp
    have HW1 := Lib.hid hW1
    clear hW1
    refine (ptCheck_any l m k A n c W1 hn hk).mono ?_
    rintro e w2 ⟨rfl, hb2⟩
    have p2 := p1.below hb2 (by omega)
    have R2 := Lib.hid ((hb2.block (w.heap.size + 1) (by omega)).trans r1)
    have B2 := below_then bW1 hb2
    have z2 := hb2.size
    obtain ⟨c0, c1, c2, c3, cf⟩ := p2.cells
    have f3 := cf 3
    clear cf r1
    rw [h1]
    go_wp2_with fail
    refine named ?_
    intro W3 hW3
    have bW3 : Below w2.heap.size w2 W3 := by rw [hW3]; repeat' (first | exact Below.refl _ _ | (refine Below.alloc ?_ ?_ _; rotate_left; (simp <;> omega)) | refine Below.drew ?_)
    have zW3 := bW3.size
    have HW3 := Lib.hid hW3
    clear hW3
    have hlen : ([xs, ys] : List (List UInt8)).flatten.length ≤ 70368744177664 := by simp [hl, hs.2.1]; omega
    refine (concat_any (some ⟨w2.heap.size, 0, none⟩) 2 2 [.slice A n c, .slice B j d] [xs, ys] W3 (by rw [HW3.out]; exact Rd.new w2 #[.slice A n c, .slice B j d] _) rfl (by omega) ⟨⟨_, _, _, rfl, (hr.below B2).below bW3⟩, ⟨_, _, _, rfl, (hs.below B2).below bW3⟩, trivial⟩ hlen).mono ?_
    rintro e w4 ⟨A4, n4, c4, rfl, ho4, hb4⟩
    rw [show [xs, ys].flatten = xs ++ ys by simp] at ho4
    have hb24 := below_then bW3 hb4
    have z24 := hb24.size
    have q2 := p2.below hb24 p2.lt
    obtain ⟨e0, e1, e2, e3, ef⟩ := q2.cells
    have f4 := ef 3
    clear ef c0 c1 c2 c3 f3
    have R4 := Lib.hid ((setc_row_other (g := w.heap.size) (i := 3) (v := .slice A4 n4 c4) (by omega)).trans ((hb24.block (w.heap.size + 1) (by omega)).trans R2.out))
    have B3 := below_then B2 hb24
    have B4 := B3.setCell (p := ⟨w.heap.size, 3, none⟩) (Nat.le_refl _) (.slice A4 n4 c4)
    go_wp2_with (refine wpList_store_row rfl _ _ _ rfl (w.heap.size + 1) #[.int .u32 l, .int .u32 m, .int .u64 k, .slice A4 n4 c4] rfl rfl _ _ R4.out (by kernel_rfl : (Try.prog.info? 63).map (·.size) = some 4) rfl (by simp [Value.oneCell']) ?_)
    have cs := fun q_ => cell_setRow_same _ (w.heap.size + 1) q_ _ #[.int .u32 l, .int .u32 m, .int .u64 k, .slice A4 n4 c4] _ _ R4.out
    exact bodyPost_ret (v := .tuple #[.agg #[.int .u32 l, .int .u32 m, .int .u64 k, .slice A4 n4 c4], .int .i64 0]) (by simp [results, Try.results52, go_sem, cs]) rfl ⟨A4, n4, c4, rfl, rd_row (rd_far ho4.rd ⟨w.heap.size, 3, none⟩ _ (fun h a ha => by have := own_lo ho4 a ha; show a.block ≠ w.heap.size; omega)) _ _ (fun h a ha => by have := own_lo ho4 a ha; omega), below_setRow B4 (by omega) _⟩

theorem refPtFill_any (l m k : Nat) (A : Option Addr) (n c : Nat) (xs : List UInt8) (B : Option Addr) (j d : Nat) (ys : List UInt8) (w : World) (hr : RdB w A n c xs) (hs : RdB w B j d ys) (hk : k < 18446744073709551616) :
    Calls Try.prog 53 #[(.agg #[.int .u32 l, .int .u32 m, .int .u64 k, .slice A n c]), .slice B j d] w (RetPtB w l m k (fillL xs ys (fillE k n j)) (fillE k n j)) := by
  have hn := hr.n63
  have hj := hs.n63
  have hl := hr.2.1
  rcases fill_cases k n j with ⟨h1, h2⟩ | ⟨h1, h2, h3, h4⟩ | ⟨h1, h2, h3, h4⟩
  · rw [h2, show fillL xs ys 3 = xs from rfl]
    clear h2
    go_enter Try.func53, Try.ntmps53
    go_wp2_with fail
    refine named ?_
    intro W1 hW1
    have bW1 : Below w.heap.size w W1 := by rw [hW1]; repeat' (first | exact Below.refl _ _ | (refine Below.alloc ?_ ?_ _; rotate_left; (simp <;> omega)) | refine Below.drew ?_)
    have zW1 := bW1.size
    have p1 : PtAt W1 w.heap.size l m k A n c := by rw [hW1]; exact row2a ..
    have r1 : W1.heap[w.heap.size + 1]? = some (.cells #[.int .u32 0, .int .u32 0, .int .u64 0, .slice none 0 0] 63 (0, 0)) := by rw [hW1]; exact row2b ..
    have s1 : w.heap.size + 2 ≤ W1.heap.size := by rw [hW1]; simp
    have HW1 := Lib.hid hW1
    clear hW1
    refine (refCheck06_any l m k A n c W1 hn hk).mono ?_
    rintro e w2 ⟨rfl, hb2⟩
    have p2 := p1.below hb2 (by omega)
    have R2 := Lib.hid ((hb2.block (w.heap.size + 1) (by omega)).trans r1)
    have B2 := below_then bW1 hb2
    have z2 := hb2.size
    obtain ⟨c0, c1, c2, c3, cf⟩ := p2.cells
    have f3 := cf 3
    clear cf r1
    rw [h1]
    go_wp2_with (refine wpList_store_row rfl _ _ _ rfl (w.heap.size + 1) #[.int .u32 l, .int .u32 m, .int .u64 k, .slice A n c] rfl rfl _ _ R2.out (by kernel_rfl : (Try.prog.info? 63).map (·.size) = some 4) rfl (by simp [Value.oneCell']) ?_)
    have cs := fun q_ => cell_setRow_same w2 (w.heap.size + 1) q_ _ #[.int .u32 l, .int .u32 m, .int .u64 k, .slice A n c] _ _ R2.out
    exact bodyPost_ret (v := .tuple #[.agg #[.int .u32 l, .int .u32 m, .int .u64 k, .slice A n c], .int .i64 3]) (by simp [results, Try.results53, go_sem, cs]) rfl ⟨A, n, c, rfl, rd_row (hr.below B2) _ _ (fun h a ha => Nat.ne_of_lt (Nat.lt_succ_of_lt (hr.lt h a ha))), below_setRow B2 (by omega) _⟩
  · rw [h4, show fillL xs ys 4 = xs from rfl]
    clear h4
    have d1 : decide ((64 : Int) - (n : Int) < (j : Int)) = true := decide_eq_true (by omega)
    go_enter Try.func53, Try.ntmps53
    go_wp2_with fail
    refine named ?_
    intro W1 hW1
    have bW1 : Below w.heap.size w W1 := by rw [hW1]; repeat' (first | exact Below.refl _ _ | (refine Below.alloc ?_ ?_ _; rotate_left; (simp <;> omega)) | refine Below.drew ?_)
    have zW1 := bW1.size
    have p1 : PtAt W1 w.heap.size l m k A n c := by rw [hW1]; exact row2a ..
    have r1 : W1.heap[w.heap.size + 1]? = some (.cells #[.int .u32 0, .int .u32 0, .int .u64 0, .slice none 0 0] 63 (0, 0)) := by rw [hW1]; exact row2b ..
    have s1 : w.heap.size + 2 ≤ W1.heap.size := by rw [hW1]; simp
    have HW1 := Lib.hid hW1
    clear hW1
    refine (refCheck06_any l m k A n c W1 hn hk).mono ?_
    rintro e w2 ⟨rfl, hb2⟩
    have p2 := p1.below hb2 (by omega)
    have R2 := Lib.hid ((hb2.block (w.heap.size + 1) (by omega)).trans r1)
    have B2 := below_then bW1 hb2
    have z2 := hb2.size
    obtain ⟨c0, c1, c2, c3, cf⟩ := p2.cells
    have f3 := cf 3
    clear cf r1
    rw [h1]
    go_wp2_with (refine wpList_store_row rfl _ _ _ rfl (w.heap.size + 1) #[.int .u32 l, .int .u32 m, .int .u64 k, .slice A n c] rfl rfl _ _ R2.out (by kernel_rfl : (Try.prog.info? 63).map (·.size) = some 4) rfl (by simp [Value.oneCell']) ?_)
    have cs := fun q_ => cell_setRow_same w2 (w.heap.size + 1) q_ _ #[.int .u32 l, .int .u32 m, .int .u64 k, .slice A n c] _ _ R2.out
    exact bodyPost_ret (v := .tuple #[.agg #[.int .u32 l, .int .u32 m, .int .u64 k, .slice A n c], .int .i64 4]) (by simp [results, Try.results53, go_sem, cs]) rfl ⟨A, n, c, rfl, rd_row (hr.below B2) _ _ (fun h a ha => Nat.ne_of_lt (Nat.lt_succ_of_lt (hr.lt h a ha))), below_setRow B2 (by omega) _⟩
  · rw [h4, show fillL xs ys 0 = xs ++ ys from rfl]
    clear h4
    have d1 : decide ((64 : Int) - (n : Int) < (j : Int)) = false := decide_eq_false (by omega)
    go_enter Try.func53, Try.ntmps53
    go_wp2_with fail
    refine named ?_
    intro W1 hW1
    have bW1 : Below w.heap.size w W1 := by rw [hW1]; repeat' (first | exact Below.refl _ _ | (refine Below.alloc ?_ ?_ _; rotate_left; (simp <;> omega)) | refine Below.drew ?_)
    have zW1 := bW1.size
    have p1 : PtAt W1 w.heap.size l m k A n c := by rw [hW1]; exact row2a ..
    have r1 : W1.heap[w.heap.size + 1]? = some (.cells #[.int .u32 0, .int .u32 0, .int .u64 0, .slice none 0 0] 63 (0, 0)) := by rw [hW1]; exact row2b ..
    have s1 : w.heap.size + 2 ≤ W1.heap.size := by rw [hW1]; simp
    have HW1 := Lib.hid hW1
    clear hW1
    refine (refCheck06_any l m k A n c W1 hn hk).mono ?_
    rintro e w2 ⟨rfl, hb2⟩
    have p2 := p1.below hb2 (by omega)
    have R2 := Lib.hid ((hb2.block (w.heap.size + 1) (by omega)).trans r1)
    have B2 := below_then bW1 hb2
    have z2 := hb2.size
    obtain ⟨c0, c1, c2, c3, cf⟩ := p2.cells
    have f3 := cf 3
    clear cf r1
    rw [h1]
    have a3 := (p2.below ((below_self w2).alloc (Nat.le_refl _) (.cells #[] 5)) p2.lt).cells.2.2.2.1
    go_wp2_with (first
      | (at_builtin; refine wp_appB rfl _ _ rfl ((below_self w2).alloc (Nat.le_refl _) _) (Nat.le_refl _) (by simp) _ _ _ _ rfl (own0 w2) A n c xs rfl ((hr.below B2).alloc _) (by omega) n xs (by omega) (by simp) ?_; intro A3 c3' w3 ho3 hb3 hg3)
      | (at_builtin; refine wp_appB rfl _ _ rfl hb3 (Nat.le_refl _) hb3.size A3 n c3' xs rfl ho3 B j d ys rfl ((hs.below B2).below hb3) (by omega) (n + j) (xs ++ ys) rfl rfl ?_; intro A4 c4 w4 ho4 hb24 hg4; have z24 := hb24.size; have q2 := p2.below hb24 p2.lt; obtain ⟨e0, e1, e2, e3, ef⟩ := q2.cells; have f4 := ef 3; clear ef hg4 hg3; have R4 := Lib.hid ((setc_row_other (g := w.heap.size) (i := 3) (v := .slice A4 (n + j) c4) (by omega)).trans ((hb24.block (w.heap.size + 1) (by omega)).trans R2.out)); have B3 := below_then B2 hb24; have B4 := B3.setCell (p := ⟨w.heap.size, 3, none⟩) (Nat.le_refl _) (.slice A4 (n + j) c4))
      | (refine wpList_store_row rfl _ _ _ rfl (w.heap.size + 1) #[.int .u32 l, .int .u32 m, .int .u64 k, .slice A4 (n + j) c4] rfl rfl _ _ R4.out (by kernel_rfl : (Try.prog.info? 63).map (·.size) = some 4) rfl (by simp [Value.oneCell']) ?_))
    have cs := fun q_ => cell_setRow_same _ (w.heap.size + 1) q_ _ #[.int .u32 l, .int .u32 m, .int .u64 k, .slice A4 (n + j) c4] _ _ R4.out
    exact bodyPost_ret (v := .tuple #[.agg #[.int .u32 l, .int .u32 m, .int .u64 k, .slice A4 (n + j) c4], .int .i64 0]) (by simp [results, Try.results53, go_sem, cs]) rfl ⟨A4, (n + j), c4, rfl, rd_row (rd_far ho4.rd ⟨w.heap.size, 3, none⟩ _ (fun h a ha => by have := own_lo ho4 a ha; show a.block ≠ w.heap.size; omega)) _ _ (fun h a ha => by have := own_lo ho4 a ha; omega), below_setRow B4 (by omega) _⟩

theorem ptDraw_any (l m k : Nat) (A : Option Addr) (n c : Nat) (xs : List UInt8) (q : Int) (w : World) (hr : RdB w A n c xs) (hk : k < 18446744073709551616) :
    Calls Try.prog 54 #[(.agg #[.int .u32 l, .int .u32 m, .int .u64 k, .slice A n c]), .int .i64 q] w (RetDr w l m k (drawZ xs q (drawE k n q)) (drawD xs q (drawE k n q)) (drawE k n q)) := by
  have hn := hr.n63
  have hl := hr.2.1
  have hc := hr.2.2.1
  have hc63 := hr.c63
  rcases draw_cases k n q with ⟨h1, h2⟩ | ⟨h1, h2, h4⟩ | ⟨h1, h2, h3, h4⟩ | ⟨h1, h2, j, rfl, h3, h4⟩
  · rw [h2, show drawZ xs q 3 = xs from rfl, show drawD xs q 3 = [] from rfl]
    clear h2
    go_enter Try.func54, Try.ntmps54
    go_wp2_with fail
    refine named ?_
    intro W1 hW1
    have bW1 : Below w.heap.size w W1 := by rw [hW1]; repeat' (first | exact Below.refl _ _ | (refine Below.alloc ?_ ?_ _; rotate_left; (simp <;> omega)) | refine Below.drew ?_)
    have zW1 := bW1.size
    have p1 : PtAt W1 w.heap.size l m k A n c := by rw [hW1]; exact row2a ..
    have r1 : W1.heap[w.heap.size + 1]? = some (.cells #[.int .u32 0, .int .u32 0, .int .u64 0, .slice none 0 0] 63 (0, 0)) := by rw [hW1]; exact row2b ..
    have s1 : w.heap.size + 2 ≤ W1.heap.size := by rw [hW1]; simp
    have HW1 := Lib.hid hW1
    clear hW1
    refine (ptCheck_any l m k A n c W1 hn hk).mono ?_
    rintro e w2 ⟨rfl, hb2⟩
    have p2 := p1.below hb2 (by omega)
    have R2 := Lib.hid ((hb2.block (w.heap.size + 1) (by omega)).trans r1)
    have B2 := below_then bW1 hb2
    have z2 := hb2.size
    obtain ⟨c0, c1, c2, c3, cf⟩ := p2.cells
    have f3 := cf 3
    clear cf r1
    rw [h1]
    go_wp2_with (refine wpList_store_row rfl _ _ _ rfl (w.heap.size + 1) #[.int .u32 l, .int .u32 m, .int .u64 k, .slice A n c] rfl rfl _ _ R2.out (by kernel_rfl : (Try.prog.info? 63).map (·.size) = some 4) rfl (by simp [Value.oneCell']) ?_)
    have cs := fun q_ => cell_setRow_same w2 (w.heap.size + 1) q_ _ #[.int .u32 l, .int .u32 m, .int .u64 k, .slice A n c] _ _ R2.out
    exact bodyPost_ret (v := .tuple #[.agg #[.int .u32 l, .int .u32 m, .int .u64 k, .slice A n c], .slice none 0 0, .int .i64 3]) (by simp [results, Try.results54, go_sem, cs]) rfl ⟨A, n, c, none, 0, 0, rfl, rd_row (hr.below B2) _ _ (fun h a ha => Nat.ne_of_lt (Nat.lt_succ_of_lt (hr.lt h a ha))), RdB.nilB _, below_setRow B2 (by omega) _⟩
  · rw [h4, show drawZ xs q 2 = xs from rfl, show drawD xs q 2 = [] from rfl]
    clear h4
    have d1 : decide (q < 0) = true := decide_eq_true h2
    go_enter Try.func54, Try.ntmps54
    go_wp2_with fail
    refine named ?_
    intro W1 hW1
    have bW1 : Below w.heap.size w W1 := by rw [hW1]; repeat' (first | exact Below.refl _ _ | (refine Below.alloc ?_ ?_ _; rotate_left; (simp <;> omega)) | refine Below.drew ?_)
    have zW1 := bW1.size
    have p1 : PtAt W1 w.heap.size l m k A n c := by rw [hW1]; exact row2a ..
    have r1 : W1.heap[w.heap.size + 1]? = some (.cells #[.int .u32 0, .int .u32 0, .int .u64 0, .slice none 0 0] 63 (0, 0)) := by rw [hW1]; exact row2b ..
    have s1 : w.heap.size + 2 ≤ W1.heap.size := by rw [hW1]; simp
    have HW1 := Lib.hid hW1
    clear hW1
    refine (ptCheck_any l m k A n c W1 hn hk).mono ?_
    rintro e w2 ⟨rfl, hb2⟩
    have p2 := p1.below hb2 (by omega)
    have R2 := Lib.hid ((hb2.block (w.heap.size + 1) (by omega)).trans r1)
    have B2 := below_then bW1 hb2
    have z2 := hb2.size
    obtain ⟨c0, c1, c2, c3, cf⟩ := p2.cells
    have f3 := cf 3
    clear cf r1
    rw [h1]
    go_wp2_with (refine wpList_store_row rfl _ _ _ rfl (w.heap.size + 1) #[.int .u32 l, .int .u32 m, .int .u64 k, .slice A n c] rfl rfl _ _ R2.out (by kernel_rfl : (Try.prog.info? 63).map (·.size) = some 4) rfl (by simp [Value.oneCell']) ?_)
    have cs := fun q_ => cell_setRow_same w2 (w.heap.size + 1) q_ _ #[.int .u32 l, .int .u32 m, .int .u64 k, .slice A n c] _ _ R2.out
    exact bodyPost_ret (v := .tuple #[.agg #[.int .u32 l, .int .u32 m, .int .u64 k, .slice A n c], .slice none 0 0, .int .i64 2]) (by simp [results, Try.results54, go_sem, cs]) rfl ⟨A, n, c, none, 0, 0, rfl, rd_row (hr.below B2) _ _ (fun h a ha => Nat.ne_of_lt (Nat.lt_succ_of_lt (hr.lt h a ha))), RdB.nilB _, below_setRow B2 (by omega) _⟩
  · rw [h4, show drawZ xs q 7 = xs from rfl, show drawD xs q 7 = [] from rfl]
    clear h4
    have d1 : decide (q < 0) = false := decide_eq_false (by omega)
    have d2 : decide ((n : Int) < q) = true := decide_eq_true h3
    go_enter Try.func54, Try.ntmps54
    go_wp2_with fail
    refine named ?_
    intro W1 hW1
    have bW1 : Below w.heap.size w W1 := by rw [hW1]; repeat' (first | exact Below.refl _ _ | (refine Below.alloc ?_ ?_ _; rotate_left; (simp <;> omega)) | refine Below.drew ?_)
    have zW1 := bW1.size
    have p1 : PtAt W1 w.heap.size l m k A n c := by rw [hW1]; exact row2a ..
    have r1 : W1.heap[w.heap.size + 1]? = some (.cells #[.int .u32 0, .int .u32 0, .int .u64 0, .slice none 0 0] 63 (0, 0)) := by rw [hW1]; exact row2b ..
    have s1 : w.heap.size + 2 ≤ W1.heap.size := by rw [hW1]; simp
    have HW1 := Lib.hid hW1
    clear hW1
    refine (ptCheck_any l m k A n c W1 hn hk).mono ?_
    rintro e w2 ⟨rfl, hb2⟩
    have p2 := p1.below hb2 (by omega)
    have R2 := Lib.hid ((hb2.block (w.heap.size + 1) (by omega)).trans r1)
    have B2 := below_then bW1 hb2
    have z2 := hb2.size
    obtain ⟨c0, c1, c2, c3, cf⟩ := p2.cells
    have f3 := cf 3
    clear cf r1
    rw [h1]
    go_wp2_with (refine wpList_store_row rfl _ _ _ rfl (w.heap.size + 1) #[.int .u32 l, .int .u32 m, .int .u64 k, .slice A n c] rfl rfl _ _ R2.out (by kernel_rfl : (Try.prog.info? 63).map (·.size) = some 4) rfl (by simp [Value.oneCell']) ?_)
    have cs := fun q_ => cell_setRow_same w2 (w.heap.size + 1) q_ _ #[.int .u32 l, .int .u32 m, .int .u64 k, .slice A n c] _ _ R2.out
    exact bodyPost_ret (v := .tuple #[.agg #[.int .u32 l, .int .u32 m, .int .u64 k, .slice A n c], .slice none 0 0, .int .i64 7]) (by simp [results, Try.results54, go_sem, cs]) rfl ⟨A, n, c, none, 0, 0, rfl, rd_row (hr.below B2) _ _ (fun h a ha => Nat.ne_of_lt (Nat.lt_succ_of_lt (hr.lt h a ha))), RdB.nilB _, below_setRow B2 (by omega) _⟩
  · rw [h4, show drawZ xs (j : Int) 0 = xs.drop j from rfl, show drawD xs (j : Int) 0 = xs.take j from rfl]
    clear h4
    have d1 : decide ((j : Int) < 0) = false := decide_eq_false (by omega)
    have d2 : decide ((n : Int) < (j : Int)) = false := decide_eq_false (by omega)
    have k1 : (0 : Int) ≤ (j : Int) := by omega
    have k2 : (j : Int) ≤ (c : Int) := by omega
    have k3 : (j : Int) ≤ (n : Int) := by omega
    go_enter Try.func54, Try.ntmps54
    go_wp2_with fail
    refine named ?_
    intro W1 hW1
    have bW1 : Below w.heap.size w W1 := by rw [hW1]; repeat' (first | exact Below.refl _ _ | (refine Below.alloc ?_ ?_ _; rotate_left; (simp <;> omega)) | refine Below.drew ?_)
    have zW1 := bW1.size
    have p1 : PtAt W1 w.heap.size l m k A n c := by rw [hW1]; exact row2a ..
    have r1 : W1.heap[w.heap.size + 1]? = some (.cells #[.int .u32 0, .int .u32 0, .int .u64 0, .slice none 0 0] 63 (0, 0)) := by rw [hW1]; exact row2b ..
    have s1 : w.heap.size + 2 ≤ W1.heap.size := by rw [hW1]; simp
    have HW1 := Lib.hid hW1
    clear hW1
    refine (ptCheck_any l m k A n c W1 hn hk).mono ?_
    rintro e w2 ⟨rfl, hb2⟩
    have p2 := p1.below hb2 (by omega)
    have R2 := Lib.hid ((hb2.block (w.heap.size + 1) (by omega)).trans r1)
    have B2 := below_then bW1 hb2
    have z2 := hb2.size
    obtain ⟨c0, c1, c2, c3, cf⟩ := p2.cells
    have f3 := cf 3
    clear cf r1
    rw [h1]
    have hd := (hr.below B2).drop j h3
    obtain ⟨D, hD⟩ : ∃ D, (if c = j then A else A.map (·.add j)) = D := ⟨_, rfl⟩
    rw [hD] at hd
    go_wp2_with fail
    refine (clone18_any A j c (xs.take j) w2 ((hr.below B2).take j h3) (by omega)).mono ?_
    rintro e w3 ⟨A7, n7, c7, rfl, ho7, hb3⟩
    have hn7 : j = n7 := by rw [← ho7.len, List.length_take]; omega
    subst hn7
    have q3 := p2.below hb3 p2.lt
    have z3 := hb3.size
    obtain ⟨e0, e1, e2, e3, ef⟩ := q3.cells
    clear ef c0 c1 c2 c3 f3
    go_wp2_with fail
    refine (clone18_any D (n - j) (c - j) (xs.drop j) w3 (hd.below hb3) (by omega)).mono ?_
    rintro e w4 ⟨A8, n8, c8, rfl, ho8, hb4⟩
    have q4 := q3.below hb4 q3.lt
    have z4 := hb4.size
    clear e0 e1 e2 e3
    obtain ⟨e0, e1, e2, e3, ef⟩ := q4.cells
    have f4 := ef 3
    clear ef
    have R4 := Lib.hid ((setc_row_other (g := w.heap.size) (i := 3) (v := .slice A8 n8 c8) (by omega)).trans ((hb4.block (w.heap.size + 1) (by omega)).trans ((hb3.block (w.heap.size + 1) (by omega)).trans R2.out)))
    have B3 := below_then B2 (below_then hb3 hb4)
    have B4 := B3.setCell (p := ⟨w.heap.size, 3, none⟩) (Nat.le_refl _) (.slice A8 n8 c8)
    go_wp2_with (refine wpList_store_row rfl _ _ _ rfl (w.heap.size + 1) #[.int .u32 l, .int .u32 m, .int .u64 k, .slice A8 n8 c8] rfl rfl _ _ R4.out (by kernel_rfl : (Try.prog.info? 63).map (·.size) = some 4) rfl (by simp [Value.oneCell']) ?_)
    have cs := fun q_ => cell_setRow_same _ (w.heap.size + 1) q_ _ #[.int .u32 l, .int .u32 m, .int .u64 k, .slice A8 n8 c8] _ _ R4.out
    exact bodyPost_ret (v := .tuple #[.agg #[.int .u32 l, .int .u32 m, .int .u64 k, .slice A8 n8 c8],   .slice A7 j c7, .int .i64 0]) (by simp [results, Try.results54, go_sem, cs]) rfl ⟨A8, n8, c8, A7, j, c7, rfl, rd_row (rd_far ho8.rd ⟨w.heap.size, 3, none⟩ _ (fun h a ha => by have := own_lo ho8 a ha; show a.block ≠ w.heap.size; omega)) _ _ (fun h a ha => by have := own_lo ho8 a ha; omega), rd_row (rd_far (ho7.rd.below hb4) ⟨w.heap.size, 3, none⟩ _ (fun h a ha => by have := own_lo ho7 a ha; show a.block ≠ w.heap.size; omega)) _ _ (fun h a ha => by have := own_lo ho7 a ha; omega), below_setRow B4 (by omega) _⟩

theorem refPtDraw_any (l m k : Nat) (A : Option Addr) (n c : Nat) (xs : List UInt8) (q : Int) (w : World) (hr : RdB w A n c xs) (hk : k < 18446744073709551616) :
    Calls Try.prog 55 #[(.agg #[.int .u32 l, .int .u32 m, .int .u64 k, .slice A n c]), .int .i64 q] w (RetDr w l m k (drawZ xs q (drawE k n q)) (drawD xs q (drawE k n q)) (drawE k n q)) := by
  have hn := hr.n63
  have hl := hr.2.1
  have hc := hr.2.2.1
  have hc63 := hr.c63
  rcases draw_cases k n q with ⟨h1, h2⟩ | ⟨h1, h2, h4⟩ | ⟨h1, h2, h3, h4⟩ | ⟨h1, h2, j, rfl, h3, h4⟩
  · rw [h2, show drawZ xs q 3 = xs from rfl, show drawD xs q 3 = [] from rfl]
    clear h2
    go_enter Try.func55, Try.ntmps55
    go_wp2_with fail
    refine named ?_
    intro W1 hW1
    have bW1 : Below w.heap.size w W1 := by rw [hW1]; repeat' (first | exact Below.refl _ _ | (refine Below.alloc ?_ ?_ _; rotate_left; (simp <;> omega)) | refine Below.drew ?_)
    have zW1 := bW1.size
    have p1 : PtAt W1 w.heap.size l m k A n c := by rw [hW1]; exact row2a ..
    have r1 : W1.heap[w.heap.size + 1]? = some (.cells #[.int .u32 0, .int .u32 0, .int .u64 0, .slice none 0 0] 63 (0, 0)) := by rw [hW1]; exact row2b ..
    have s1 : w.heap.size + 2 ≤ W1.heap.size := by rw [hW1]; simp
    have HW1 := Lib.hid hW1
    clear hW1
    refine (refCheck06_any l m k A n c W1 hn hk).mono ?_
    rintro e w2 ⟨rfl, hb2⟩
    have p2 := p1.below hb2 (by omega)
    have R2 := Lib.hid ((hb2.block (w.heap.size + 1) (by omega)).trans r1)
    have B2 := below_then bW1 hb2
    have z2 := hb2.size
    obtain ⟨c0, c1, c2, c3, cf⟩ := p2.cells
    have f3 := cf 3
    clear cf r1
    rw [h1]
    go_wp2_with (refine wpList_store_row rfl _ _ _ rfl (w.heap.size + 1) #[.int .u32 l, .int .u32 m, .int .u64 k, .slice A n c] rfl rfl _ _ R2.out (by kernel_rfl : (Try.prog.info? 63).map (·.size) = some 4) rfl (by simp [Value.oneCell']) ?_)
    have cs := fun q_ => cell_setRow_same w2 (w.heap.size + 1) q_ _ #[.int .u32 l, .int .u32 m, .int .u64 k, .slice A n c] _ _ R2.out
    exact bodyPost_ret (v := .tuple #[.agg #[.int .u32 l, .int .u32 m, .int .u64 k, .slice A n c], .slice none 0 0, .int .i64 3]) (by simp [results, Try.results55, go_sem, cs]) rfl ⟨A, n, c, none, 0, 0, rfl, rd_row (hr.below B2) _ _ (fun h a ha => Nat.ne_of_lt (Nat.lt_succ_of_lt (hr.lt h a ha))), RdB.nilB _, below_setRow B2 (by omega) _⟩
  · rw [h4, show drawZ xs q 2 = xs from rfl, show drawD xs q 2 = [] from rfl]
    clear h4
    have d1 : decide (q < 0) = true := decide_eq_true h2
    go_enter Try.func55, Try.ntmps55
    go_wp2_with fail
    refine named ?_
    intro W1 hW1
    have bW1 : Below w.heap.size w W1 := by rw [hW1]; repeat' (first | exact Below.refl _ _ | (refine Below.alloc ?_ ?_ _; rotate_left; (simp <;> omega)) | refine Below.drew ?_)
    have zW1 := bW1.size
    have p1 : PtAt W1 w.heap.size l m k A n c := by rw [hW1]; exact row2a ..
    have r1 : W1.heap[w.heap.size + 1]? = some (.cells #[.int .u32 0, .int .u32 0, .int .u64 0, .slice none 0 0] 63 (0, 0)) := by rw [hW1]; exact row2b ..
    have s1 : w.heap.size + 2 ≤ W1.heap.size := by rw [hW1]; simp
    have HW1 := Lib.hid hW1
    clear hW1
    refine (refCheck06_any l m k A n c W1 hn hk).mono ?_
    rintro e w2 ⟨rfl, hb2⟩
    have p2 := p1.below hb2 (by omega)
    have R2 := Lib.hid ((hb2.block (w.heap.size + 1) (by omega)).trans r1)
    have B2 := below_then bW1 hb2
    have z2 := hb2.size
    obtain ⟨c0, c1, c2, c3, cf⟩ := p2.cells
    have f3 := cf 3
    clear cf r1
    rw [h1]
    go_wp2_with (refine wpList_store_row rfl _ _ _ rfl (w.heap.size + 1) #[.int .u32 l, .int .u32 m, .int .u64 k, .slice A n c] rfl rfl _ _ R2.out (by kernel_rfl : (Try.prog.info? 63).map (·.size) = some 4) rfl (by simp [Value.oneCell']) ?_)
    have cs := fun q_ => cell_setRow_same w2 (w.heap.size + 1) q_ _ #[.int .u32 l, .int .u32 m, .int .u64 k, .slice A n c] _ _ R2.out
    exact bodyPost_ret (v := .tuple #[.agg #[.int .u32 l, .int .u32 m, .int .u64 k, .slice A n c], .slice none 0 0, .int .i64 2]) (by simp [results, Try.results55, go_sem, cs]) rfl ⟨A, n, c, none, 0, 0, rfl, rd_row (hr.below B2) _ _ (fun h a ha => Nat.ne_of_lt (Nat.lt_succ_of_lt (hr.lt h a ha))), RdB.nilB _, below_setRow B2 (by omega) _⟩
  · rw [h4, show drawZ xs q 7 = xs from rfl, show drawD xs q 7 = [] from rfl]
    clear h4
    have d1 : decide (q < 0) = false := decide_eq_false (by omega)
    have d2 : decide ((n : Int) < q) = true := decide_eq_true h3
    go_enter Try.func55, Try.ntmps55
    go_wp2_with fail
    refine named ?_
    intro W1 hW1
    have bW1 : Below w.heap.size w W1 := by rw [hW1]; repeat' (first | exact Below.refl _ _ | (refine Below.alloc ?_ ?_ _; rotate_left; (simp <;> omega)) | refine Below.drew ?_)
    have zW1 := bW1.size
    have p1 : PtAt W1 w.heap.size l m k A n c := by rw [hW1]; exact row2a ..
    have r1 : W1.heap[w.heap.size + 1]? = some (.cells #[.int .u32 0, .int .u32 0, .int .u64 0, .slice none 0 0] 63 (0, 0)) := by rw [hW1]; exact row2b ..
    have s1 : w.heap.size + 2 ≤ W1.heap.size := by rw [hW1]; simp
    have HW1 := Lib.hid hW1
    clear hW1
    refine (refCheck06_any l m k A n c W1 hn hk).mono ?_
    rintro e w2 ⟨rfl, hb2⟩
    have p2 := p1.below hb2 (by omega)
    have R2 := Lib.hid ((hb2.block (w.heap.size + 1) (by omega)).trans r1)
    have B2 := below_then bW1 hb2
    have z2 := hb2.size
    obtain ⟨c0, c1, c2, c3, cf⟩ := p2.cells
    have f3 := cf 3
    clear cf r1
    rw [h1]
    go_wp2_with (refine wpList_store_row rfl _ _ _ rfl (w.heap.size + 1) #[.int .u32 l, .int .u32 m, .int .u64 k, .slice A n c] rfl rfl _ _ R2.out (by kernel_rfl : (Try.prog.info? 63).map (·.size) = some 4) rfl (by simp [Value.oneCell']) ?_)
    have cs := fun q_ => cell_setRow_same w2 (w.heap.size + 1) q_ _ #[.int .u32 l, .int .u32 m, .int .u64 k, .slice A n c] _ _ R2.out
    exact bodyPost_ret (v := .tuple #[.agg #[.int .u32 l, .int .u32 m, .int .u64 k, .slice A n c], .slice none 0 0, .int .i64 7]) (by simp [results, Try.results55, go_sem, cs]) rfl ⟨A, n, c, none, 0, 0, rfl, rd_row (hr.below B2) _ _ (fun h a ha => Nat.ne_of_lt (Nat.lt_succ_of_lt (hr.lt h a ha))), RdB.nilB _, below_setRow B2 (by omega) _⟩
  · rw [h4, show drawZ xs (j : Int) 0 = xs.drop j from rfl, show drawD xs (j : Int) 0 = xs.take j from rfl]
    clear h4
    have d1 : decide ((j : Int) < 0) = false := decide_eq_false (by omega)
    have d2 : decide ((n : Int) < (j : Int)) = false := decide_eq_false (by omega)
    have k1 : (0 : Int) ≤ (j : Int) := by omega
    have k2 : (j : Int) ≤ (c : Int) := by omega
    have k3 : (j : Int) ≤ (n : Int) := by omega
    go_enter Try.func55, Try.ntmps55
    go_wp2_with fail
    refine named ?_
    intro W1 hW1
    have bW1 : Below w.heap.size w W1 := by rw [hW1]; repeat' (first | exact Below.refl _ _ | (refine Below.alloc ?_ ?_ _; rotate_left; (simp <;> omega)) | refine Below.drew ?_)
    have zW1 := bW1.size
    have p1 : PtAt W1 w.heap.size l m k A n c := by rw [hW1]; exact row2a ..
    have r1 : W1.heap[w.heap.size + 1]? = some (.cells #[.int .u32 0, .int .u32 0, .int .u64 0, .slice none 0 0] 63 (0, 0)) := by rw [hW1]; exact row2b ..
    have s1 : w.heap.size + 2 ≤ W1.heap.size := by rw [hW1]; simp
    have HW1 := Lib.hid hW1
    clear hW1
    refine (refCheck06_any l m k A n c W1 hn hk).mono ?_
    rintro e w2 ⟨rfl, hb2⟩
    have p2 := p1.below hb2 (by omega)
    have R2 := Lib.hid ((hb2.block (w.heap.size + 1) (by omega)).trans r1)
    have B2 := below_then bW1 hb2
    have z2 := hb2.size
    obtain ⟨c0, c1, c2, c3, cf⟩ := p2.cells
    have f3 := cf 3
    clear cf r1
    rw [h1]
    have hd := (hr.below B2).drop j h3
    obtain ⟨D, hD⟩ : ∃ D, (if c = j then A else A.map (·.add j)) = D := ⟨_, rfl⟩
    rw [hD] at hd
    rw [← hD] at hd
    have R4 := Lib.hid ((setc_row_other (g := w.heap.size) (i := 3) (v := .slice D (n - j) (c - j)) (by omega)).trans R2.out)
    have B4 := B2.setCell (p := ⟨w.heap.size, 3, none⟩) (Nat.le_refl _) (.slice D (n - j) (c - j))
    rw [hD] at hd
    go_wp2_with (refine wpList_store_row rfl _ _ _ rfl (w.heap.size + 1) #[.int .u32 l, .int .u32 m, .int .u64 k, .slice D (n - j) (c - j)] rfl rfl _ _ R4.out (by kernel_rfl : (Try.prog.info? 63).map (·.size) = some 4) rfl (by simp [Value.oneCell']) ?_)
    have cs := fun q_ => cell_setRow_same _ (w.heap.size + 1) q_ _ #[.int .u32 l, .int .u32 m, .int .u64 k, .slice D (n - j) (c - j)] _ _ R4.out
    exact bodyPost_ret (v := .tuple #[.agg #[.int .u32 l, .int .u32 m, .int .u64 k, .slice D (n - j) (c - j)], .slice A j c, .int .i64 0]) (by simp [results, Try.results55, go_sem, cs]) rfl ⟨D, n - j, c - j, A, j, c, rfl, rd_row (rd_far hd ⟨w.heap.size, 3, none⟩ _ (fun h a ha => Nat.ne_of_lt (far_drop hr hD h a ha))) _ _ (fun h a ha => Nat.ne_of_lt (Nat.lt_succ_of_lt (far_drop hr hD h a ha))), rd_row (rd_far ((hr.below B2).take j h3) ⟨w.heap.size, 3, none⟩ _ (fun h a ha => Nat.ne_of_lt (hr.lt (by omega) a ha))) _ _ (fun h a ha => Nat.ne_of_lt (Nat.lt_succ_of_lt (hr.lt (by omega) a ha))), below_setRow B4 (by omega) _⟩

end Go.Proofs.Ytieilgphcfiapaa
