/-
  Layer 6: lines that are changed.
-/
import Derived.Test.YtieilgphcfiapaaPorts
import Derived.Test.YtieilgphcfiapaaAid
-- facts: PtAt
namespace Go.Proofs.Ytieilgphcfiapaa
set_option maxRecDepth 20000
open Go.RowKit
set_option linter.unusedVariables false
set_option linter.unusedSimpArgs false
set_option maxHeartbeats 4000000

/-- Ports in a box. -/
def PtAt (w : World) (g : Nat) (l m k : Nat) (A : Option Addr) (n c : Nat) : Prop :=
  w.heap[g]? = some (.cells #[.int .u32 l, .int .u32 m, .int .u64 k, .slice A n c] 63 (0, 0))
theorem PtAt.cells {w : World} {g l m k : Nat} {A : Option Addr} {n c : Nat} (h : PtAt w g l m k A n c) :
    w.cell? ⟨g, 0, none⟩ = some (.int .u32 l) ∧ w.cell? ⟨g, 1, none⟩ = some (.int .u32 m) ∧ w.cell? ⟨g, 2, none⟩ = some (.int .u64 k) ∧ w.cell? ⟨g, 3, none⟩ = some (.slice A n c) ∧ (∀ i, w.frozen? ⟨g, i, none⟩ = false) :=
  ⟨cell_of_row _ _ 0 _ _ _ h, cell_of_row _ _ 1 _ _ _ h, cell_of_row _ _ 2 _ _ _ h, cell_of_row _ _ 3 _ _ _ h, fun i => frozen_of_row _ _ i _ _ h⟩
theorem PtAt.below {W w : World} {B g l m k : Nat} {A : Option Addr} {n c : Nat} (h : PtAt W g l m k A n c) (hb : Below B W w) (hg : g < B) : PtAt w g l m k A n c := (hb.block g hg).trans h
theorem PtAt.lt {w : World} {g l m k : Nat} {A : Option Addr} {n c : Nat} (h : PtAt w g l m k A n c) : g < w.heap.size := by
  rcases Nat.lt_or_ge g w.heap.size with hlt | hge
  · exact hlt
  · unfold PtAt at h; rw [Array.getElem?_eq_none hge] at h; cases h

/-- Ports and an error. -/
def RetPt (w : World) (l m k : Nat) (A : Option Addr) (n c : Nat) (er : Int) (e : Ending) (w' : World) : Prop :=
  e = .returned (.tuple #[.agg #[.int .u32 l, .int .u32 m, .int .u64 k, .slice A n c], .int .i64 er]) ∧ Below w.heap.size w w'
/-- What a closure does to ports in a box. -/
def RetHow (w W : World) (g l m k : Nat) (A : Option Addr) (n c : Nat) (e : Ending) (W' : World) : Prop :=
  e = .returned (.tuple #[]) ∧ PtAt W' g l m k A n c ∧ Below w.heap.size w W' ∧ W'.heap[g + 1]? = W.heap[g + 1]? ∧ W'.heap.size = W.heap.size

theorem setc_row {w : World} {g i : Nat} {cs : Array Value} {T : TypeId} {v : Value} (h : w.heap[g]? = some (.cells cs T (0, 0))) :
    (w.setCell ⟨g, i, none⟩ v).heap[g]? = some (.cells (cs.setIfInBounds i v) T (0, 0)) := by
  have e : (w.setCell ⟨g, i, none⟩ v).heap[g]? = (w.heap.modify g fun x => match x with | Obj.cells c elem frozen => Obj.cells (c.setIfInBounds i v) elem frozen | o => o)[g]? := rfl
  rw [e, Array.getElem?_modify, if_pos rfl, h]; rfl
theorem setc_row_other {w : World} {g h i : Nat} {v : Value} (hne : g ≠ h) : (w.setCell ⟨g, i, none⟩ v).heap[h]? = w.heap[h]? := by
  simp [World.setCell, Array.getElem?_modify, hne]

theorem how_end {w W : World} {g l m k l' m' : Nat} {A : Option Addr} {n c i : Nat} {v : Value} (hb : Below w.heap.size w W) (hg : w.heap.size ≤ g) (h : PtAt W g l m k A n c)
    (hv : (#[.int .u32 l, .int .u32 m, .int .u64 k, .slice A n c] : Array Value).setIfInBounds i v = #[.int .u32 l', .int .u32 m', .int .u64 k, .slice A n c]) :
    PtAt (W.setCell ⟨g, i, none⟩ v) g l' m' k A n c ∧ Below w.heap.size w (W.setCell ⟨g, i, none⟩ v) ∧ (W.setCell ⟨g, i, none⟩ v).heap[g + 1]? = W.heap[g + 1]? ∧ (W.setCell ⟨g, i, none⟩ v).heap.size = W.heap.size := by
  refine ⟨?_, hb.setCell hg v, setc_row_other (by omega), by simp⟩
  have := setc_row (i := i) (v := v) h
  rw [hv] at this
  exact this

theorem raise1_any (l m k : Nat) (A : Option Addr) (n c : Nat) (g i p : Nat) (w W : World) (hb : Below w.heap.size w W) (hg : w.heap.size ≤ g) (hl : l < 4294967296) (hm : m < 4294967296) (hi : i < 32) (hp : 2 ^ i = p) (h : PtAt W g l m k A n c) :
    Calls Try.prog 75 #[.pointer (some ⟨g, 0, none⟩), .int .u32 p] W (RetHow w W g (withN l i true) m k A n c) := by
  have e2 := or32 l p hl (by rw [← hp]; exact pow32 i hi)
  obtain ⟨c0, c1, c2, c3, cf⟩ := h.cells
  have f0 := cf 0
  obtain ⟨V, hV⟩ : ∃ V, withN l i true = V := ⟨_, rfl⟩
  rw [show l ||| p = V by rw [← hV, ← hp]; rfl] at e2
  rw [hV]
  clear hV cf hp
  go_enter Try.func75, Try.ntmps75
  go_wp2_with fail
  go_end0
  exact ⟨rfl, how_end hb hg h rfl⟩
theorem done1_any (l m k : Nat) (A : Option Addr) (n c : Nat) (g i p : Nat) (w W : World) (hb : Below w.heap.size w W) (hg : w.heap.size ≤ g) (hl : l < 4294967296) (hm : m < 4294967296) (hi : i < 32) (hp : 2 ^ i = p) (h : PtAt W g l m k A n c) :
    Calls Try.prog 74 #[.pointer (some ⟨g, 0, none⟩), .int .u32 p] W (RetHow w W g (withN l i false) m k A n c) := by
  have e2 := clr32 l i hl hi
  obtain ⟨c0, c1, c2, c3, cf⟩ := h.cells
  have f0 := cf 0
  obtain ⟨V, hV⟩ : ∃ V, withN l i false = V := ⟨_, rfl⟩
  rw [show clrN l i = V by rw [← hV]; rfl, hp] at e2
  rw [hV]
  clear hV cf hp
  go_enter Try.func74, Try.ntmps74
  go_wp2_with fail
  go_end0
  exact ⟨rfl, how_end hb hg h rfl⟩
theorem clr_or (x i : Nat) : clrN x i ||| 2 ^ i = x ||| 2 ^ i := by
  apply Nat.eq_of_testBit_eq
  intro j
  rw [Nat.testBit_or, Nat.testBit_or, clrN_test, Nat.testBit_two_pow]
  cases x.testBit j <;> cases decide (i = j) <;> rfl
theorem hear1_any (l m k : Nat) (A : Option Addr) (n c : Nat) (g i p h0 : Nat) (on : Bool) (w W : World) (hb : Below w.heap.size w W) (hg : w.heap.size ≤ g) (hl : l < 4294967296) (hm : m < 4294967296) (hi : i < 32) (hp : 2 ^ i = p) (h : PtAt W g l m k A n c) (hne : h0 ≠ g) (hon : W.cell? ⟨h0, 0, none⟩ = some (.bool on)) :
    Calls Try.prog 78 #[.pointer (some ⟨g, 0, none⟩), .int .u32 p, .pointer (some ⟨h0, 0, none⟩)] W (RetHow w W g l (withN m i on) k A n c) := by
  have e1 := clr32 m i hm hi
  obtain ⟨c0, c1, c2, c3, cf⟩ := h.cells
  have f1 := cf 1
  obtain ⟨U, hU⟩ : ∃ U, clrN m i = U := ⟨_, rfl⟩
  have hU2 : U < 4294967296 := by rw [← hU]; exact clrN_lt m i hm
  have e2 := or32 U p hU2 (by rw [← hp]; exact pow32 i hi)
  obtain ⟨V, hV⟩ : ∃ V, withN m i on = V := ⟨_, rfl⟩
  have e3 : on = true → U ||| p = V := fun e => by rw [← hV, e, ← hU, ← hp, clr_or]; rfl
  have e4 : on = false → U = V := fun e => by rw [← hV, e, ← hU]; rfl
  rw [hU, hp] at e1
  rw [hV]
  have on' := scell (j := 1) (v := .int .u32 (U : Nat)) hne hon
  have E3 := Lib.hid e3
  have E4 := Lib.hid e4
  have hs := how_end (l' := l) (m' := U) (i := 1) (v := .int .u32 (U : Nat)) hb hg h rfl
  obtain ⟨hs1, hs2, hs3, hs4⟩ := hs
  clear hV cf hp hU e3 e4
  go_enter Try.func78, Try.ntmps78
  cases on with
  | false =>
    have := E4.out rfl
    subst this
    go_wp2_with fail
    go_end0
    exact ⟨rfl, hs1, hs2, hs3, hs4⟩
  | true =>
    rw [E3.out rfl] at e2
    go_wp2_with fail
    have hs := how_end (l' := l) (m' := V) (i := 1) (v := .int .u32 (V : Nat)) hs2 hg hs1 rfl
    obtain ⟨q1, q2, q3, q4⟩ := hs
    go_end0
    exact ⟨rfl, q1, q2, q3.trans hs3, q4.trans hs4⟩

theorem shl1 (i : Nat) (hi : i < 32) : ((2 : Int) ^ i % 4294967296) = ((2 ^ i : Nat) : Int) := powm i hi
def chL (line : Int) (on : Bool) (er : Int) (l : Nat) : Nat := if er = 0 then withN l line.toNat on else l
theorem asked_cases (line : Int) (k n : Nat) : (ptCheck k n = false ∧ askedE line k n = 3) ∨ (ptCheck k n = true ∧ (line < 0 ∨ 31 < line) ∧ askedE line k n = 2) ∨ (ptCheck k n = true ∧ ∃ i : Nat, i < 32 ∧ line = (i : Int) ∧ askedE line k n = 0) := by
  unfold askedE
  cases h : ptCheck k n with
  | false => exact .inl ⟨rfl, by rw [if_neg (by decide)]⟩
  | true =>
    right
    rw [if_pos rfl]
    by_cases h1 : line < 0 ∨ 31 < line
    · exact .inl ⟨rfl, h1, if_pos h1⟩
    · exact .inr ⟨rfl, line.toNat, by omega, by omega, if_neg h1⟩

theorem changed_raise (line : Int) (l m k : Nat) (A : Option Addr) (n c : Nat) (w : World) (hn : n ≤ 9223372036854775807) (hl : l < 4294967296) (hm : m < 4294967296) (hk : k < 18446744073709551616) :
    Calls Try.prog 73 #[.agg #[.int .u32 l, .int .u32 m, .int .u64 k, .slice A n c], .int .i64 line, .func (.func 75) #[] #[]] w (RetPt w (chL line true (askedE line k n) l) m k A n c (askedE line k n)) := by
  rcases asked_cases line k n with ⟨h1, h2⟩ | ⟨h1, h2, h3⟩ | ⟨h1, i, h2, rfl, h4⟩
  · rw [h2, show chL line true 3 l = l from rfl]
    go_enter Try.func73, Try.ntmps73
    go_wp2_with fail
    refine named ?_
    intro W1 hW1
    have bW1 : Below w.heap.size w W1 := by rw [hW1]; repeat' (first | exact Below.refl _ _ | (refine Below.alloc ?_ ?_ _; rotate_left; (simp <;> omega)) | refine Below.drew ?_)
    have zW1 := bW1.size
    have p1 : PtAt W1 w.heap.size l m k A n c := by rw [hW1]; exact row2a ..
    have r1 : W1.heap[w.heap.size + 1]? = some (.cells #[.int .u32 0, .int .u32 0, .int .u64 0, .slice none 0 0] 63 (0, 0)) := by rw [hW1]; exact row2b ..
    have s1 : w.heap.size + 2 ≤ W1.heap.size := by rw [hW1]; simp
    have HW1 := Lib.hid hW1
    clear hW1
    refine (ptCheck_any l m k A n c W1 hn hk).mono ?_
    rintro e w2 ⟨rfl, hb2⟩
    rw [h1]
    have p2 := p1.below hb2 (by omega)
    have R2 := Lib.hid ((hb2.block (w.heap.size + 1) (by omega)).trans r1)
    have B2 := below_then bW1 hb2
    have z2 := hb2.size
    obtain ⟨c0, c1, c2, c3, cf⟩ := p2.cells
    clear cf r1
    go_wp2_with (refine wpList_store_row rfl _ _ _ rfl (w.heap.size + 1) #[.int .u32 l, .int .u32 m, .int .u64 k, .slice A n c] rfl rfl _ _ R2.out (by kernel_rfl : (Try.prog.info? 63).map (·.size) = some 4) rfl (by simp [Value.oneCell']) ?_)
    have cs := fun j => cell_setRow_same w2 (w.heap.size + 1) j _ #[.int .u32 l, .int .u32 m, .int .u64 k, .slice A n c] _ _ R2.out
    exact bodyPost_ret (v := .tuple #[.agg #[.int .u32 l, .int .u32 m, .int .u64 k, .slice A n c], .int .i64 3]) (by simp [results, Try.results73, go_sem, cs]) rfl ⟨rfl, below_setRow B2 (by omega) _⟩
  · rw [h3, show chL line true 2 l = l from rfl]
    clear h3
    have d1 : (decide (line < 0) = true ∨ (decide (line < 0) = false ∧ decide (32 ≤ line) = true)) := by
      rcases h2 with h | h
      · exact .inl (decide_eq_true h)
      · exact .inr ⟨decide_eq_false (by omega), decide_eq_true (by omega)⟩
    clear h2
    go_enter Try.func73, Try.ntmps73
    go_wp2_with fail
    refine named ?_
    intro W1 hW1
    have bW1 : Below w.heap.size w W1 := by rw [hW1]; repeat' (first | exact Below.refl _ _ | (refine Below.alloc ?_ ?_ _; rotate_left; (simp <;> omega)) | refine Below.drew ?_)
    have zW1 := bW1.size
    have p1 : PtAt W1 w.heap.size l m k A n c := by rw [hW1]; exact row2a ..
    have r1 : W1.heap[w.heap.size + 1]? = some (.cells #[.int .u32 0, .int .u32 0, .int .u64 0, .slice none 0 0] 63 (0, 0)) := by rw [hW1]; exact row2b ..
    have s1 : w.heap.size + 2 ≤ W1.heap.size := by rw [hW1]; simp
    have HW1 := Lib.hid hW1
    clear hW1
    refine (ptCheck_any l m k A n c W1 hn hk).mono ?_
    rintro e w2 ⟨rfl, hb2⟩
    rw [h1]
    have p2 := p1.below hb2 (by omega)
    have R2 := Lib.hid ((hb2.block (w.heap.size + 1) (by omega)).trans r1)
    have B2 := below_then bW1 hb2
    have z2 := hb2.size
    obtain ⟨c0, c1, c2, c3, cf⟩ := p2.cells
    clear cf r1
    rcases d1 with d1 | ⟨d1, d2⟩
    · go_wp2_with (refine wpList_store_row rfl _ _ _ rfl (w.heap.size + 1) #[.int .u32 l, .int .u32 m, .int .u64 k, .slice A n c] rfl rfl _ _ R2.out (by kernel_rfl : (Try.prog.info? 63).map (·.size) = some 4) rfl (by simp [Value.oneCell']) ?_)
      have cs := fun j => cell_setRow_same w2 (w.heap.size + 1) j _ #[.int .u32 l, .int .u32 m, .int .u64 k, .slice A n c] _ _ R2.out
      exact bodyPost_ret (v := .tuple #[.agg #[.int .u32 l, .int .u32 m, .int .u64 k, .slice A n c], .int .i64 2]) (by simp [results, Try.results73, go_sem, cs]) rfl ⟨rfl, below_setRow B2 (by omega) _⟩
    · go_wp2_with (refine wpList_store_row rfl _ _ _ rfl (w.heap.size + 1) #[.int .u32 l, .int .u32 m, .int .u64 k, .slice A n c] rfl rfl _ _ R2.out (by kernel_rfl : (Try.prog.info? 63).map (·.size) = some 4) rfl (by simp [Value.oneCell']) ?_)
      have cs := fun j => cell_setRow_same w2 (w.heap.size + 1) j _ #[.int .u32 l, .int .u32 m, .int .u64 k, .slice A n c] _ _ R2.out
      exact bodyPost_ret (v := .tuple #[.agg #[.int .u32 l, .int .u32 m, .int .u64 k, .slice A n c], .int .i64 2]) (by simp [results, Try.results73, go_sem, cs]) rfl ⟨rfl, below_setRow B2 (by omega) _⟩
  · rw [h4, show chL (i : Int) true 0 l = withN l i true from rfl]
    clear h4
    have d1 : decide ((i : Int) < 0) = false := decide_eq_false (by omega)
    have d2 : decide ((32 : Int) ≤ (i : Int)) = false := decide_eq_false (by omega)
    have hpw := powm i h2
    obtain ⟨p, hp⟩ : ∃ p, 2 ^ i = p := ⟨_, rfl⟩
    rw [hp] at hpw
    have HP := Lib.hid hp
    obtain ⟨V, hV⟩ : ∃ V, withN l i true = V := ⟨withN l i true, rfl⟩
    rw [hV]
    have HV := Lib.hid hV
    clear hp hV
    go_enter Try.func73, Try.ntmps73
    go_wp2_with fail
    refine named ?_
    intro W1 hW1
    have bW1 : Below w.heap.size w W1 := by rw [hW1]; repeat' (first | exact Below.refl _ _ | (refine Below.alloc ?_ ?_ _; rotate_left; (simp <;> omega)) | refine Below.drew ?_)
    have zW1 := bW1.size
    have p1 : PtAt W1 w.heap.size l m k A n c := by rw [hW1]; exact row2a ..
    have r1 : W1.heap[w.heap.size + 1]? = some (.cells #[.int .u32 0, .int .u32 0, .int .u64 0, .slice none 0 0] 63 (0, 0)) := by rw [hW1]; exact row2b ..
    have s1 : w.heap.size + 2 ≤ W1.heap.size := by rw [hW1]; simp
    have HW1 := Lib.hid hW1
    clear hW1
    refine (ptCheck_any l m k A n c W1 hn hk).mono ?_
    rintro e w2 ⟨rfl, hb2⟩
    rw [h1]
    have p2 := p1.below hb2 (by omega)
    have R2 := Lib.hid ((hb2.block (w.heap.size + 1) (by omega)).trans r1)
    have B2 := below_then bW1 hb2
    have z2 := hb2.size
    obtain ⟨c0, c1, c2, c3, cf⟩ := p2.cells
    clear cf r1
    go_wp2_with fail
    have hh := raise1_any l m k A n c w.heap.size i p w w2 B2 (Nat.le_refl _) hl hm h2 HP.out p2
    rw [HV.out] at hh
    refine hh.mono ?_
    clear hh
    rintro e w3 ⟨rfl, p3, hb3, hr3, hz3⟩
    have R3 := Lib.hid (hr3.trans R2.out)
    clear c0 c1 c2 c3 hr3
    obtain ⟨c0, c1, c2, c3, cf⟩ := p3.cells
    clear cf
    go_wp2_with (refine wpList_store_row rfl _ _ _ rfl (w.heap.size + 1) #[.int .u32 V, .int .u32 m, .int .u64 k, .slice A n c] rfl rfl _ _ R3.out (by kernel_rfl : (Try.prog.info? 63).map (·.size) = some 4) rfl (by simp [Value.oneCell']) ?_)
    have cs := fun j => cell_setRow_same w3 (w.heap.size + 1) j _ #[.int .u32 V, .int .u32 m, .int .u64 k, .slice A n c] _ _ R3.out
    exact bodyPost_ret (v := .tuple #[.agg #[.int .u32 V, .int .u32 m, .int .u64 k, .slice A n c], .int .i64 0]) (by simp [results, Try.results73, go_sem, cs]) rfl ⟨rfl, below_setRow hb3 (by omega) _⟩
theorem changed_done (line : Int) (l m k : Nat) (A : Option Addr) (n c : Nat) (w : World) (hn : n ≤ 9223372036854775807) (hl : l < 4294967296) (hm : m < 4294967296) (hk : k < 18446744073709551616) :
    Calls Try.prog 73 #[.agg #[.int .u32 l, .int .u32 m, .int .u64 k, .slice A n c], .int .i64 line, .func (.func 74) #[] #[]] w (RetPt w (chL line false (askedE line k n) l) m k A n c (askedE line k n)) := by
  rcases asked_cases line k n with ⟨h1, h2⟩ | ⟨h1, h2, h3⟩ | ⟨h1, i, h2, rfl, h4⟩
  · rw [h2, show chL line false 3 l = l from rfl]
    go_enter Try.func73, Try.ntmps73
    go_wp2_with fail
    refine named ?_
    intro W1 hW1
    have bW1 : Below w.heap.size w W1 := by rw [hW1]; repeat' (first | exact Below.refl _ _ | (refine Below.alloc ?_ ?_ _; rotate_left; (simp <;> omega)) | refine Below.drew ?_)
    have zW1 := bW1.size
    have p1 : PtAt W1 w.heap.size l m k A n c := by rw [hW1]; exact row2a ..
    have r1 : W1.heap[w.heap.size + 1]? = some (.cells #[.int .u32 0, .int .u32 0, .int .u64 0, .slice none 0 0] 63 (0, 0)) := by rw [hW1]; exact row2b ..
    have s1 : w.heap.size + 2 ≤ W1.heap.size := by rw [hW1]; simp
    have HW1 := Lib.hid hW1
    clear hW1
    refine (ptCheck_any l m k A n c W1 hn hk).mono ?_
    rintro e w2 ⟨rfl, hb2⟩
    rw [h1]
    have p2 := p1.below hb2 (by omega)
    have R2 := Lib.hid ((hb2.block (w.heap.size + 1) (by omega)).trans r1)
    have B2 := below_then bW1 hb2
    have z2 := hb2.size
    obtain ⟨c0, c1, c2, c3, cf⟩ := p2.cells
    clear cf r1
    go_wp2_with (refine wpList_store_row rfl _ _ _ rfl (w.heap.size + 1) #[.int .u32 l, .int .u32 m, .int .u64 k, .slice A n c] rfl rfl _ _ R2.out (by kernel_rfl : (Try.prog.info? 63).map (·.size) = some 4) rfl (by simp [Value.oneCell']) ?_)
    have cs := fun j => cell_setRow_same w2 (w.heap.size + 1) j _ #[.int .u32 l, .int .u32 m, .int .u64 k, .slice A n c] _ _ R2.out
    exact bodyPost_ret (v := .tuple #[.agg #[.int .u32 l, .int .u32 m, .int .u64 k, .slice A n c], .int .i64 3]) (by simp [results, Try.results73, go_sem, cs]) rfl ⟨rfl, below_setRow B2 (by omega) _⟩
  · rw [h3, show chL line false 2 l = l from rfl]
    clear h3
    have d1 : (decide (line < 0) = true ∨ (decide (line < 0) = false ∧ decide (32 ≤ line) = true)) := by
      rcases h2 with h | h
      · exact .inl (decide_eq_true h)
      · exact .inr ⟨decide_eq_false (by omega), decide_eq_true (by omega)⟩
    clear h2
    go_enter Try.func73, Try.ntmps73
    go_wp2_with fail
    refine named ?_
    intro W1 hW1
    have bW1 : Below w.heap.size w W1 := by rw [hW1]; repeat' (first | exact Below.refl _ _ | (refine Below.alloc ?_ ?_ _; rotate_left; (simp <;> omega)) | refine Below.drew ?_)
    have zW1 := bW1.size
    have p1 : PtAt W1 w.heap.size l m k A n c := by rw [hW1]; exact row2a ..
    have r1 : W1.heap[w.heap.size + 1]? = some (.cells #[.int .u32 0, .int .u32 0, .int .u64 0, .slice none 0 0] 63 (0, 0)) := by rw [hW1]; exact row2b ..
    have s1 : w.heap.size + 2 ≤ W1.heap.size := by rw [hW1]; simp
    have HW1 := Lib.hid hW1
    clear hW1
    refine (ptCheck_any l m k A n c W1 hn hk).mono ?_
    rintro e w2 ⟨rfl, hb2⟩
    rw [h1]
    have p2 := p1.below hb2 (by omega)
    have R2 := Lib.hid ((hb2.block (w.heap.size + 1) (by omega)).trans r1)
    have B2 := below_then bW1 hb2
    have z2 := hb2.size
    obtain ⟨c0, c1, c2, c3, cf⟩ := p2.cells
    clear cf r1
    rcases d1 with d1 | ⟨d1, d2⟩
    · go_wp2_with (refine wpList_store_row rfl _ _ _ rfl (w.heap.size + 1) #[.int .u32 l, .int .u32 m, .int .u64 k, .slice A n c] rfl rfl _ _ R2.out (by kernel_rfl : (Try.prog.info? 63).map (·.size) = some 4) rfl (by simp [Value.oneCell']) ?_)
      have cs := fun j => cell_setRow_same w2 (w.heap.size + 1) j _ #[.int .u32 l, .int .u32 m, .int .u64 k, .slice A n c] _ _ R2.out
      exact bodyPost_ret (v := .tuple #[.agg #[.int .u32 l, .int .u32 m, .int .u64 k, .slice A n c], .int .i64 2]) (by simp [results, Try.results73, go_sem, cs]) rfl ⟨rfl, below_setRow B2 (by omega) _⟩
    · go_wp2_with (refine wpList_store_row rfl _ _ _ rfl (w.heap.size + 1) #[.int .u32 l, .int .u32 m, .int .u64 k, .slice A n c] rfl rfl _ _ R2.out (by kernel_rfl : (Try.prog.info? 63).map (·.size) = some 4) rfl (by simp [Value.oneCell']) ?_)
      have cs := fun j => cell_setRow_same w2 (w.heap.size + 1) j _ #[.int .u32 l, .int .u32 m, .int .u64 k, .slice A n c] _ _ R2.out
      exact bodyPost_ret (v := .tuple #[.agg #[.int .u32 l, .int .u32 m, .int .u64 k, .slice A n c], .int .i64 2]) (by simp [results, Try.results73, go_sem, cs]) rfl ⟨rfl, below_setRow B2 (by omega) _⟩
  · rw [h4, show chL (i : Int) false 0 l = withN l i false from rfl]
    clear h4
    have d1 : decide ((i : Int) < 0) = false := decide_eq_false (by omega)
    have d2 : decide ((32 : Int) ≤ (i : Int)) = false := decide_eq_false (by omega)
    have hpw := powm i h2
    obtain ⟨p, hp⟩ : ∃ p, 2 ^ i = p := ⟨_, rfl⟩
    rw [hp] at hpw
    have HP := Lib.hid hp
    obtain ⟨V, hV⟩ : ∃ V, withN l i false = V := ⟨withN l i false, rfl⟩
    rw [hV]
    have HV := Lib.hid hV
    clear hp hV
    go_enter Try.func73, Try.ntmps73
    go_wp2_with fail
    refine named ?_
    intro W1 hW1
    have bW1 : Below w.heap.size w W1 := by rw [hW1]; repeat' (first | exact Below.refl _ _ | (refine Below.alloc ?_ ?_ _; rotate_left; (simp <;> omega)) | refine Below.drew ?_)
    have zW1 := bW1.size
    have p1 : PtAt W1 w.heap.size l m k A n c := by rw [hW1]; exact row2a ..
    have r1 : W1.heap[w.heap.size + 1]? = some (.cells #[.int .u32 0, .int .u32 0, .int .u64 0, .slice none 0 0] 63 (0, 0)) := by rw [hW1]; exact row2b ..
    have s1 : w.heap.size + 2 ≤ W1.heap.size := by rw [hW1]; simp
    have HW1 := Lib.hid hW1
    clear hW1
    refine (ptCheck_any l m k A n c W1 hn hk).mono ?_
    rintro e w2 ⟨rfl, hb2⟩
    rw [h1]
    have p2 := p1.below hb2 (by omega)
    have R2 := Lib.hid ((hb2.block (w.heap.size + 1) (by omega)).trans r1)
    have B2 := below_then bW1 hb2
    have z2 := hb2.size
    obtain ⟨c0, c1, c2, c3, cf⟩ := p2.cells
    clear cf r1
    go_wp2_with fail
    have hh := done1_any l m k A n c w.heap.size i p w w2 B2 (Nat.le_refl _) hl hm h2 HP.out p2
    rw [HV.out] at hh
    refine hh.mono ?_
    clear hh
    rintro e w3 ⟨rfl, p3, hb3, hr3, hz3⟩
    have R3 := Lib.hid (hr3.trans R2.out)
    clear c0 c1 c2 c3 hr3
    obtain ⟨c0, c1, c2, c3, cf⟩ := p3.cells
    clear cf
    go_wp2_with (refine wpList_store_row rfl _ _ _ rfl (w.heap.size + 1) #[.int .u32 V, .int .u32 m, .int .u64 k, .slice A n c] rfl rfl _ _ R3.out (by kernel_rfl : (Try.prog.info? 63).map (·.size) = some 4) rfl (by simp [Value.oneCell']) ?_)
    have cs := fun j => cell_setRow_same w3 (w.heap.size + 1) j _ #[.int .u32 V, .int .u32 m, .int .u64 k, .slice A n c] _ _ R3.out
    exact bodyPost_ret (v := .tuple #[.agg #[.int .u32 V, .int .u32 m, .int .u64 k, .slice A n c], .int .i64 0]) (by simp [results, Try.results73, go_sem, cs]) rfl ⟨rfl, below_setRow hb3 (by omega) _⟩
theorem changed_hear (line : Int) (l m k : Nat) (A : Option Addr) (n c : Nat) (h0 : Nat) (on : Bool) (w : World) (hn : n ≤ 9223372036854775807) (hl : l < 4294967296) (hm : m < 4294967296) (hk : k < 18446744073709551616) (hh0 : h0 < w.heap.size) (hon : w.cell? ⟨h0, 0, none⟩ = some (.bool on)) :
    Calls Try.prog 73 #[.agg #[.int .u32 l, .int .u32 m, .int .u64 k, .slice A n c], .int .i64 line, .func (.func 78) #[] #[.pointer (some ⟨h0, 0, none⟩)]] w (RetPt w l (chL line on (askedE line k n) m) k A n c (askedE line k n)) := by
  rcases asked_cases line k n with ⟨h1, h2⟩ | ⟨h1, h2, h3⟩ | ⟨h1, i, h2, rfl, h4⟩
  · rw [h2, show chL line on 3 m = m from rfl]
    go_enter Try.func73, Try.ntmps73
    go_wp2_with fail
    refine named ?_
    intro W1 hW1
    have bW1 : Below w.heap.size w W1 := by rw [hW1]; repeat' (first | exact Below.refl _ _ | (refine Below.alloc ?_ ?_ _; rotate_left; (simp <;> omega)) | refine Below.drew ?_)
    have zW1 := bW1.size
    have p1 : PtAt W1 w.heap.size l m k A n c := by rw [hW1]; exact row2a ..
    have r1 : W1.heap[w.heap.size + 1]? = some (.cells #[.int .u32 0, .int .u32 0, .int .u64 0, .slice none 0 0] 63 (0, 0)) := by rw [hW1]; exact row2b ..
    have s1 : w.heap.size + 2 ≤ W1.heap.size := by rw [hW1]; simp
    have HW1 := Lib.hid hW1
    clear hW1
    refine (ptCheck_any l m k A n c W1 hn hk).mono ?_
    rintro e w2 ⟨rfl, hb2⟩
    rw [h1]
    have p2 := p1.below hb2 (by omega)
    have R2 := Lib.hid ((hb2.block (w.heap.size + 1) (by omega)).trans r1)
    have B2 := below_then bW1 hb2
    have z2 := hb2.size
    obtain ⟨c0, c1, c2, c3, cf⟩ := p2.cells
    clear cf r1
    go_wp2_with (refine wpList_store_row rfl _ _ _ rfl (w.heap.size + 1) #[.int .u32 l, .int .u32 m, .int .u64 k, .slice A n c] rfl rfl _ _ R2.out (by kernel_rfl : (Try.prog.info? 63).map (·.size) = some 4) rfl (by simp [Value.oneCell']) ?_)
    have cs := fun j => cell_setRow_same w2 (w.heap.size + 1) j _ #[.int .u32 l, .int .u32 m, .int .u64 k, .slice A n c] _ _ R2.out
    exact bodyPost_ret (v := .tuple #[.agg #[.int .u32 l, .int .u32 m, .int .u64 k, .slice A n c], .int .i64 3]) (by simp [results, Try.results73, go_sem, cs]) rfl ⟨rfl, below_setRow B2 (by omega) _⟩
  · rw [h3, show chL line on 2 m = m from rfl]
    clear h3
    have d1 : (decide (line < 0) = true ∨ (decide (line < 0) = false ∧ decide (32 ≤ line) = true)) := by
      rcases h2 with h | h
      · exact .inl (decide_eq_true h)
      · exact .inr ⟨decide_eq_false (by omega), decide_eq_true (by omega)⟩
    clear h2
    go_enter Try.func73, Try.ntmps73
    go_wp2_with fail
    refine named ?_
    intro W1 hW1
    have bW1 : Below w.heap.size w W1 := by rw [hW1]; repeat' (first | exact Below.refl _ _ | (refine Below.alloc ?_ ?_ _; rotate_left; (simp <;> omega)) | refine Below.drew ?_)
    have zW1 := bW1.size
    have p1 : PtAt W1 w.heap.size l m k A n c := by rw [hW1]; exact row2a ..
    have r1 : W1.heap[w.heap.size + 1]? = some (.cells #[.int .u32 0, .int .u32 0, .int .u64 0, .slice none 0 0] 63 (0, 0)) := by rw [hW1]; exact row2b ..
    have s1 : w.heap.size + 2 ≤ W1.heap.size := by rw [hW1]; simp
    have HW1 := Lib.hid hW1
    clear hW1
    refine (ptCheck_any l m k A n c W1 hn hk).mono ?_
    rintro e w2 ⟨rfl, hb2⟩
    rw [h1]
    have p2 := p1.below hb2 (by omega)
    have R2 := Lib.hid ((hb2.block (w.heap.size + 1) (by omega)).trans r1)
    have B2 := below_then bW1 hb2
    have z2 := hb2.size
    obtain ⟨c0, c1, c2, c3, cf⟩ := p2.cells
    clear cf r1
    rcases d1 with d1 | ⟨d1, d2⟩
    · go_wp2_with (refine wpList_store_row rfl _ _ _ rfl (w.heap.size + 1) #[.int .u32 l, .int .u32 m, .int .u64 k, .slice A n c] rfl rfl _ _ R2.out (by kernel_rfl : (Try.prog.info? 63).map (·.size) = some 4) rfl (by simp [Value.oneCell']) ?_)
      have cs := fun j => cell_setRow_same w2 (w.heap.size + 1) j _ #[.int .u32 l, .int .u32 m, .int .u64 k, .slice A n c] _ _ R2.out
      exact bodyPost_ret (v := .tuple #[.agg #[.int .u32 l, .int .u32 m, .int .u64 k, .slice A n c], .int .i64 2]) (by simp [results, Try.results73, go_sem, cs]) rfl ⟨rfl, below_setRow B2 (by omega) _⟩
    · go_wp2_with (refine wpList_store_row rfl _ _ _ rfl (w.heap.size + 1) #[.int .u32 l, .int .u32 m, .int .u64 k, .slice A n c] rfl rfl _ _ R2.out (by kernel_rfl : (Try.prog.info? 63).map (·.size) = some 4) rfl (by simp [Value.oneCell']) ?_)
      have cs := fun j => cell_setRow_same w2 (w.heap.size + 1) j _ #[.int .u32 l, .int .u32 m, .int .u64 k, .slice A n c] _ _ R2.out
      exact bodyPost_ret (v := .tuple #[.agg #[.int .u32 l, .int .u32 m, .int .u64 k, .slice A n c], .int .i64 2]) (by simp [results, Try.results73, go_sem, cs]) rfl ⟨rfl, below_setRow B2 (by omega) _⟩
  · rw [h4, show chL (i : Int) on 0 m = withN m i on from rfl]
    clear h4
    have d1 : decide ((i : Int) < 0) = false := decide_eq_false (by omega)
    have d2 : decide ((32 : Int) ≤ (i : Int)) = false := decide_eq_false (by omega)
    have hpw := powm i h2
    obtain ⟨p, hp⟩ : ∃ p, 2 ^ i = p := ⟨_, rfl⟩
    rw [hp] at hpw
    have HP := Lib.hid hp
    obtain ⟨V, hV⟩ : ∃ V, withN m i on = V := ⟨withN m i on, rfl⟩
    rw [hV]
    have HV := Lib.hid hV
    clear hp hV
    go_enter Try.func73, Try.ntmps73
    go_wp2_with fail
    refine named ?_
    intro W1 hW1
    have bW1 : Below w.heap.size w W1 := by rw [hW1]; repeat' (first | exact Below.refl _ _ | (refine Below.alloc ?_ ?_ _; rotate_left; (simp <;> omega)) | refine Below.drew ?_)
    have zW1 := bW1.size
    have p1 : PtAt W1 w.heap.size l m k A n c := by rw [hW1]; exact row2a ..
    have r1 : W1.heap[w.heap.size + 1]? = some (.cells #[.int .u32 0, .int .u32 0, .int .u64 0, .slice none 0 0] 63 (0, 0)) := by rw [hW1]; exact row2b ..
    have s1 : w.heap.size + 2 ≤ W1.heap.size := by rw [hW1]; simp
    have HW1 := Lib.hid hW1
    clear hW1
    refine (ptCheck_any l m k A n c W1 hn hk).mono ?_
    rintro e w2 ⟨rfl, hb2⟩
    rw [h1]
    have p2 := p1.below hb2 (by omega)
    have R2 := Lib.hid ((hb2.block (w.heap.size + 1) (by omega)).trans r1)
    have B2 := below_then bW1 hb2
    have z2 := hb2.size
    obtain ⟨c0, c1, c2, c3, cf⟩ := p2.cells
    clear cf r1
    go_wp2_with fail
    have hh := hear1_any l m k A n c w.heap.size i p h0 on w w2 B2 (Nat.le_refl _) hl hm h2 HP.out p2 (by omega) (((bW1.cell (p := ⟨h0, 0, none⟩) hh0).trans hon) |> fun q => (hb2.cell (p := ⟨h0, 0, none⟩) (by show h0 < _; omega)).trans q)
    rw [HV.out] at hh
    refine hh.mono ?_
    clear hh
    rintro e w3 ⟨rfl, p3, hb3, hr3, hz3⟩
    have R3 := Lib.hid (hr3.trans R2.out)
    clear c0 c1 c2 c3 hr3
    obtain ⟨c0, c1, c2, c3, cf⟩ := p3.cells
    clear cf
    go_wp2_with (refine wpList_store_row rfl _ _ _ rfl (w.heap.size + 1) #[.int .u32 l, .int .u32 V, .int .u64 k, .slice A n c] rfl rfl _ _ R3.out (by kernel_rfl : (Try.prog.info? 63).map (·.size) = some 4) rfl (by simp [Value.oneCell']) ?_)
    have cs := fun j => cell_setRow_same w3 (w.heap.size + 1) j _ #[.int .u32 l, .int .u32 V, .int .u64 k, .slice A n c] _ _ R3.out
    exact bodyPost_ret (v := .tuple #[.agg #[.int .u32 l, .int .u32 V, .int .u64 k, .slice A n c], .int .i64 0]) (by simp [results, Try.results73, go_sem, cs]) rfl ⟨rfl, below_setRow hb3 (by omega) _⟩
end Go.Proofs.Ytieilgphcfiapaa
