/-
  Layer 6: Raise, Hear, Done, Tick of the package and of the document.
-/
import Derived.Test.YtieilgphcfiapaaPortsB
namespace Go.Proofs.Ytieilgphcfiapaa
set_option maxRecDepth 20000
open Go.RowKit
set_option linter.unusedVariables false
set_option linter.unusedSimpArgs false
set_option maxHeartbeats 4000000

theorem ptRaise_any (line : Int) (l m k : Nat) (A : Option Addr) (n c : Nat) (w : World) (hn : n ≤ 9223372036854775807) (hl : l < 4294967296) (hm : m < 4294967296) (hk : k < 18446744073709551616) :
    Calls Try.prog 44 #[(.agg #[.int .u32 l, .int .u32 m, .int .u64 k, .slice A n c]), .int .i64 line] w (RetPt w (chL line true (askedE line k n) l) m k A n c (askedE line k n)) := by
  obtain ⟨er, her⟩ : ∃ er, askedE line k n = er := ⟨askedE line k n, rfl⟩
  obtain ⟨V, hV⟩ : ∃ V, chL line true er l = V := ⟨chL line true er l, rfl⟩
  rw [her, hV]
  have HE := Lib.hid her
  have HV := Lib.hid hV
  clear her hV
  go_enter Try.func44, Try.ntmps44
  go_wp2_with fail
  refine named ?_
  intro W1 hW1
  have bW1 : Below w.heap.size w W1 := by rw [hW1]; repeat' (first | exact Below.refl _ _ | (refine Below.alloc ?_ ?_ _; rotate_left; (simp <;> omega)) | refine Below.drew ?_)
  have zW1 := bW1.size
  have p1 : PtAt W1 w.heap.size l m k A n c := by rw [hW1]; exact row2a ..
  have r1 : W1.heap[w.heap.size + 1]? = some (.cells #[.int .u32 0, .int .u32 0, .int .u64 0, .slice none 0 0] 63 (0, 0)) := by rw [hW1]; exact row2b ..
  have s1 : w.heap.size + 2 ≤ W1.heap.size := by rw [hW1]; simp
  have HW1 := Lib.hid hW1
  clear hW1
  have hh := changed_raise line l m k A n c W1 hn hl hm hk
  rw [HE.out, HV.out] at hh
  refine hh.mono ?_
  clear hh
  rintro e w2 ⟨rfl, hb2⟩
  have R2 := Lib.hid ((hb2.block (w.heap.size + 1) (by omega)).trans r1)
  have B2 := below_then bW1 hb2
  have z2 := hb2.size
  clear r1
  go_wp2_with (refine wpList_store_row rfl _ _ _ rfl (w.heap.size + 1) #[.int .u32 V, .int .u32 m, .int .u64 k, (.slice A n c)] rfl rfl _ _ R2.out (by kernel_rfl : (Try.prog.info? 63).map (·.size) = some 4) rfl (by simp [Value.oneCell']) ?_)
  have cs := fun j => cell_setRow_same w2 (w.heap.size + 1) j _ #[.int .u32 V, .int .u32 m, .int .u64 k, (.slice A n c)] _ _ R2.out
  exact bodyPost_ret (v := .tuple #[.agg #[.int .u32 V, .int .u32 m, .int .u64 k, (.slice A n c)], .int .i64 er]) (by simp [results, Try.results44, go_sem, cs]) rfl ⟨rfl, below_setRow B2 (by omega) _⟩

theorem ptDone_any (line : Int) (l m k : Nat) (A : Option Addr) (n c : Nat) (w : World) (hn : n ≤ 9223372036854775807) (hl : l < 4294967296) (hm : m < 4294967296) (hk : k < 18446744073709551616) :
    Calls Try.prog 43 #[(.agg #[.int .u32 l, .int .u32 m, .int .u64 k, .slice A n c]), .int .i64 line] w (RetPt w (chL line false (askedE line k n) l) m k A n c (askedE line k n)) := by
  obtain ⟨er, her⟩ : ∃ er, askedE line k n = er := ⟨askedE line k n, rfl⟩
  obtain ⟨V, hV⟩ : ∃ V, chL line false er l = V := ⟨chL line false er l, rfl⟩
  rw [her, hV]
  have HE := Lib.hid her
  have HV := Lib.hid hV
  clear her hV
  go_enter Try.func43, Try.ntmps43
  go_wp2_with fail
  refine named ?_
  intro W1 hW1
  have bW1 : Below w.heap.size w W1 := by rw [hW1]; repeat' (first | exact Below.refl _ _ | (refine Below.alloc ?_ ?_ _; rotate_left; (simp <;> omega)) | refine Below.drew ?_)
  have zW1 := bW1.size
  have p1 : PtAt W1 w.heap.size l m k A n c := by rw [hW1]; exact row2a ..
  have r1 : W1.heap[w.heap.size + 1]? = some (.cells #[.int .u32 0, .int .u32 0, .int .u64 0, .slice none 0 0] 63 (0, 0)) := by rw [hW1]; exact row2b ..
  have s1 : w.heap.size + 2 ≤ W1.heap.size := by rw [hW1]; simp
  have HW1 := Lib.hid hW1
  clear hW1
  have hh := changed_done line l m k A n c W1 hn hl hm hk
  rw [HE.out, HV.out] at hh
  refine hh.mono ?_
  clear hh
  rintro e w2 ⟨rfl, hb2⟩
  have R2 := Lib.hid ((hb2.block (w.heap.size + 1) (by omega)).trans r1)
  have B2 := below_then bW1 hb2
  have z2 := hb2.size
  clear r1
  go_wp2_with (refine wpList_store_row rfl _ _ _ rfl (w.heap.size + 1) #[.int .u32 V, .int .u32 m, .int .u64 k, (.slice A n c)] rfl rfl _ _ R2.out (by kernel_rfl : (Try.prog.info? 63).map (·.size) = some 4) rfl (by simp [Value.oneCell']) ?_)
  have cs := fun j => cell_setRow_same w2 (w.heap.size + 1) j _ #[.int .u32 V, .int .u32 m, .int .u64 k, (.slice A n c)] _ _ R2.out
  exact bodyPost_ret (v := .tuple #[.agg #[.int .u32 V, .int .u32 m, .int .u64 k, (.slice A n c)], .int .i64 er]) (by simp [results, Try.results43, go_sem, cs]) rfl ⟨rfl, below_setRow B2 (by omega) _⟩

theorem row3a (w : World) (cs ds es : Array Value) (T U Z : TypeId) : (((w.alloc (.cells cs T)).alloc (.cells ds U)).alloc (.cells es Z)).heap[w.heap.size]? = some (.cells cs T (0, 0)) := by
  rw [Below.heap_alloc _ _ _ (by simp; omega)]; exact row2a ..
theorem row3b (w : World) (cs ds es : Array Value) (T U Z : TypeId) : (((w.alloc (.cells cs T)).alloc (.cells ds U)).alloc (.cells es Z)).heap[w.heap.size + 1]? = some (.cells ds U (0, 0)) := by
  rw [Below.heap_alloc _ _ _ (by simp)]; exact row2b ..
theorem row3c (w : World) (cs ds es : Array Value) (T U Z : TypeId) : (((w.alloc (.cells cs T)).alloc (.cells ds U)).alloc (.cells es Z)).heap[w.heap.size + 2]? = some (.cells es Z (0, 0)) := by
  have := heap_alloc_new ((w.alloc (.cells cs T)).alloc (.cells ds U)) (.cells es Z)
  simpa using this
theorem ptHear_any (line : Int) (on : Bool) (l m k : Nat) (A : Option Addr) (n c : Nat) (w : World) (hn : n ≤ 9223372036854775807) (hl : l < 4294967296) (hm : m < 4294967296) (hk : k < 18446744073709551616) :
    Calls Try.prog 47 #[(.agg #[.int .u32 l, .int .u32 m, .int .u64 k, .slice A n c]), .int .i64 line, .bool on] w (RetPt w l (chL line on (askedE line k n) m) k A n c (askedE line k n)) := by
  obtain ⟨er, her⟩ : ∃ er, askedE line k n = er := ⟨askedE line k n, rfl⟩
  obtain ⟨V, hV⟩ : ∃ V, chL line on er m = V := ⟨chL line on er m, rfl⟩
  rw [her, hV]
  have HE := Lib.hid her
  have HV := Lib.hid hV
  clear her hV
  go_enter Try.func47, Try.ntmps47
  go_wp2_with fail
  refine named ?_
  intro W1 hW1
  have bW1 : Below w.heap.size w W1 := by rw [hW1]; repeat' (first | exact Below.refl _ _ | (refine Below.alloc ?_ ?_ _; rotate_left; (simp <;> omega)) | refine Below.drew ?_)
  have zW1 := bW1.size
  have p1 : PtAt W1 w.heap.size l m k A n c := by rw [hW1]; exact row3a ..
  have o1 : W1.cell? ⟨w.heap.size + 1, 0, none⟩ = some (.bool on) := by rw [hW1]; exact cell_of_row _ _ 0 _ _ _ (row3b ..)
  have r1 : W1.heap[w.heap.size + 2]? = some (.cells #[.int .u32 0, .int .u32 0, .int .u64 0, .slice none 0 0] 63 (0, 0)) := by rw [hW1]; exact row3c ..
  have s1 : w.heap.size + 3 ≤ W1.heap.size := by rw [hW1]; simp
  have HW1 := Lib.hid hW1
  clear hW1
  have hh := changed_hear line l m k A n c (w.heap.size + 1) on W1 hn hl hm hk (by omega) o1
  rw [HE.out, HV.out] at hh
  refine hh.mono ?_
  clear hh
  rintro e w2 ⟨rfl, hb2⟩
  have R2 := Lib.hid ((hb2.block (w.heap.size + 2) (by omega)).trans r1)
  have B2 := below_then bW1 hb2
  have z2 := hb2.size
  clear r1
  go_wp2_with (refine wpList_store_row rfl _ _ _ rfl (w.heap.size + 2) #[.int .u32 l, .int .u32 V, .int .u64 k, (.slice A n c)] rfl rfl _ _ R2.out (by kernel_rfl : (Try.prog.info? 63).map (·.size) = some 4) rfl (by simp [Value.oneCell']) ?_)
  have cs := fun j => cell_setRow_same w2 (w.heap.size + 2) j _ #[.int .u32 l, .int .u32 V, .int .u64 k, (.slice A n c)] _ _ R2.out
  exact bodyPost_ret (v := .tuple #[.agg #[.int .u32 l, .int .u32 V, .int .u64 k, (.slice A n c)], .int .i64 er]) (by simp [results, Try.results47, go_sem, cs]) rfl ⟨rfl, below_setRow B2 (by omega) _⟩

theorem refPtRaise_any (line : Int) (l m k : Nat) (A : Option Addr) (n c : Nat) (w : World) (hn : n ≤ 9223372036854775807) (hl : l < 4294967296) (hm : m < 4294967296) (hk : k < 18446744073709551616) :
    Calls Try.prog 45 #[(.agg #[.int .u32 l, .int .u32 m, .int .u64 k, .slice A n c]), .int .i64 line] w (RetPt w (chL line true (askedE line k n) l) m k A n c (askedE line k n)) := by
  rcases asked_cases line k n with h | h | ⟨h1, i, h2, rfl, h4⟩
  · have he : askedE line k n = 3 := h.2
    rw [he, show chL line true 3 l = l from rfl]
    clear h
    go_enter Try.func45, Try.ntmps45
    go_wp2_with fail
    refine named ?_
    intro W1 hW1
    have bW1 : Below w.heap.size w W1 := by rw [hW1]; repeat' (first | exact Below.refl _ _ | (refine Below.alloc ?_ ?_ _; rotate_left; (simp <;> omega)) | refine Below.drew ?_)
    have zW1 := bW1.size
    have p1 : PtAt W1 w.heap.size l m k A n c := by rw [hW1]; exact row2a ..
    have r1 : W1.heap[w.heap.size + 1]? = some (.cells #[.int .u32 0, .int .u32 0, .int .u64 0, .slice none 0 0] 63 (0, 0)) := by rw [hW1]; exact row2b ..
    have s1 : w.heap.size + 2 ≤ W1.heap.size := by rw [hW1]; simp
    have HW1 := Lib.hid hW1
    clear hW1
    have hh := asked06_any l m k A n c line W1 hn hk
    rw [he] at hh
    refine hh.mono ?_
    clear hh he
    rintro e w2 ⟨rfl, hb2⟩
    have p2 := p1.below hb2 (by omega)
    have R2 := Lib.hid ((hb2.block (w.heap.size + 1) (by omega)).trans r1)
    have B2 := below_then bW1 hb2
    have z2 := hb2.size
    obtain ⟨c0, c1, c2, c3, cf⟩ := p2.cells
    clear cf r1
    go_wp2_with (refine wpList_store_row rfl _ _ _ rfl (w.heap.size + 1) #[.int .u32 l, .int .u32 m, .int .u64 k, (.slice A n c)] rfl rfl _ _ R2.out (by kernel_rfl : (Try.prog.info? 63).map (·.size) = some 4) rfl (by simp [Value.oneCell']) ?_)
    have cs := fun j => cell_setRow_same w2 (w.heap.size + 1) j _ #[.int .u32 l, .int .u32 m, .int .u64 k, (.slice A n c)] _ _ R2.out
    exact bodyPost_ret (v := .tuple #[.agg #[.int .u32 l, .int .u32 m, .int .u64 k, (.slice A n c)], .int .i64 3]) (by simp [results, Try.results45, go_sem, cs]) rfl ⟨rfl, below_setRow B2 (by omega) _⟩
  · have he : askedE line k n = 2 := h.2.2
    rw [he, show chL line true 2 l = l from rfl]
    clear h
    go_enter Try.func45, Try.ntmps45
    go_wp2_with fail
    refine named ?_
    intro W1 hW1
    have bW1 : Below w.heap.size w W1 := by rw [hW1]; repeat' (first | exact Below.refl _ _ | (refine Below.alloc ?_ ?_ _; rotate_left; (simp <;> omega)) | refine Below.drew ?_)
    have zW1 := bW1.size
    have p1 : PtAt W1 w.heap.size l m k A n c := by rw [hW1]; exact row2a ..
    have r1 : W1.heap[w.heap.size + 1]? = some (.cells #[.int .u32 0, .int .u32 0, .int .u64 0, .slice none 0 0] 63 (0, 0)) := by rw [hW1]; exact row2b ..
    have s1 : w.heap.size + 2 ≤ W1.heap.size := by rw [hW1]; simp
    have HW1 := Lib.hid hW1
    clear hW1
    have hh := asked06_any l m k A n c line W1 hn hk
    rw [he] at hh
    refine hh.mono ?_
    clear hh he
    rintro e w2 ⟨rfl, hb2⟩
    have p2 := p1.below hb2 (by omega)
    have R2 := Lib.hid ((hb2.block (w.heap.size + 1) (by omega)).trans r1)
    have B2 := below_then bW1 hb2
    have z2 := hb2.size
    obtain ⟨c0, c1, c2, c3, cf⟩ := p2.cells
    clear cf r1
    go_wp2_with (refine wpList_store_row rfl _ _ _ rfl (w.heap.size + 1) #[.int .u32 l, .int .u32 m, .int .u64 k, (.slice A n c)] rfl rfl _ _ R2.out (by kernel_rfl : (Try.prog.info? 63).map (·.size) = some 4) rfl (by simp [Value.oneCell']) ?_)
    have cs := fun j => cell_setRow_same w2 (w.heap.size + 1) j _ #[.int .u32 l, .int .u32 m, .int .u64 k, (.slice A n c)] _ _ R2.out
    exact bodyPost_ret (v := .tuple #[.agg #[.int .u32 l, .int .u32 m, .int .u64 k, (.slice A n c)], .int .i64 2]) (by simp [results, Try.results45, go_sem, cs]) rfl ⟨rfl, below_setRow B2 (by omega) _⟩
  · rw [h4, show chL (i : Int) true 0 l = withN l i true from rfl]
    go_enter Try.func45, Try.ntmps45
    go_wp2_with fail
    refine named ?_
    intro W1 hW1
    have bW1 : Below w.heap.size w W1 := by rw [hW1]; repeat' (first | exact Below.refl _ _ | (refine Below.alloc ?_ ?_ _; rotate_left; (simp <;> omega)) | refine Below.drew ?_)
    have zW1 := bW1.size
    have p1 : PtAt W1 w.heap.size l m k A n c := by rw [hW1]; exact row2a ..
    have r1 : W1.heap[w.heap.size + 1]? = some (.cells #[.int .u32 0, .int .u32 0, .int .u64 0, .slice none 0 0] 63 (0, 0)) := by rw [hW1]; exact row2b ..
    have s1 : w.heap.size + 2 ≤ W1.heap.size := by rw [hW1]; simp
    have HW1 := Lib.hid hW1
    clear hW1
    have hh := asked06_any l m k A n c (i : Int) W1 hn hk
    rw [h4] at hh
    refine hh.mono ?_
    clear hh h4
    rintro e w2 ⟨rfl, hb2⟩
    have p2 := p1.below hb2 (by omega)
    have R2 := (hb2.block (w.heap.size + 1) (by omega)).trans r1
    have B2 := below_then bW1 hb2
    have z2 := hb2.size
    obtain ⟨c0, c1, c2, c3, cf⟩ := p2.cells
    clear cf r1
    go_wp2_with fail
    refine (ref06with_any l i true w2 hl h2).mono ?_
    rintro e w3 ⟨rfl, hb3⟩
    obtain ⟨V, hV⟩ : ∃ V, withN l i true = V := ⟨withN l i true, rfl⟩
    rw [hV]
    have HV := Lib.hid hV
    clear hV
    have p3 := p2.below hb3 p2.lt
    have z3 := hb3.size
    have B3 := below_then B2 hb3
    have hs := setc_row (i := 0) (v := .int .u32 (V : Nat)) p3
    have R3 := Lib.hid ((setc_row_other (g := w.heap.size) (i := 0) (v := .int .u32 (V : Nat)) (by omega)).trans ((hb3.block (w.heap.size + 1) (by omega)).trans R2))
    have B4 := B3.setCell (p := ⟨w.heap.size, 0, none⟩) (Nat.le_refl _) (.int .u32 (V : Nat))
    clear c0 c1 c2 c3 R2
    obtain ⟨c0, c1, c2, c3, cf⟩ := p3.cells
    have f0 := cf 0
    clear cf
    go_wp2_with (refine wpList_store_row rfl _ _ _ rfl (w.heap.size + 1) #[.int .u32 V, .int .u32 m, .int .u64 k, (.slice A n c)] rfl rfl _ _ R3.out (by kernel_rfl : (Try.prog.info? 63).map (·.size) = some 4) rfl (by simp [Value.oneCell']) ?_)
    have cs := fun j => cell_setRow_same _ (w.heap.size + 1) j _ #[.int .u32 V, .int .u32 m, .int .u64 k, (.slice A n c)] _ _ R3.out
    exact bodyPost_ret (v := .tuple #[.agg #[.int .u32 V, .int .u32 m, .int .u64 k, (.slice A n c)], .int .i64 0]) (by simp [results, Try.results45, go_sem, cs]) rfl ⟨by rw [HV.out], below_setRow B4 (by omega) _⟩

theorem refPtDone_any (line : Int) (l m k : Nat) (A : Option Addr) (n c : Nat) (w : World) (hn : n ≤ 9223372036854775807) (hl : l < 4294967296) (hm : m < 4294967296) (hk : k < 18446744073709551616) :
    Calls Try.prog 49 #[(.agg #[.int .u32 l, .int .u32 m, .int .u64 k, .slice A n c]), .int .i64 line] w (RetPt w (chL line false (askedE line k n) l) m k A n c (askedE line k n)) := by
  rcases asked_cases line k n with h | h | ⟨h1, i, h2, rfl, h4⟩
  · have he : askedE line k n = 3 := h.2
    rw [he, show chL line false 3 l = l from rfl]
    clear h
    go_enter Try.func49, Try.ntmps49
    go_wp2_with fail
    refine named ?_
    intro W1 hW1
    have bW1 : Below w.heap.size w W1 := by rw [hW1]; repeat' (first | exact Below.refl _ _ | (refine Below.alloc ?_ ?_ _; rotate_left; (simp <;> omega)) | refine Below.drew ?_)
    have zW1 := bW1.size
    have p1 : PtAt W1 w.heap.size l m k A n c := by rw [hW1]; exact row2a ..
    have r1 : W1.heap[w.heap.size + 1]? = some (.cells #[.int .u32 0, .int .u32 0, .int .u64 0, .slice none 0 0] 63 (0, 0)) := by rw [hW1]; exact row2b ..
    have s1 : w.heap.size + 2 ≤ W1.heap.size := by rw [hW1]; simp
    have HW1 := Lib.hid hW1
    clear hW1
    have hh := asked06_any l m k A n c line W1 hn hk
    rw [he] at hh
    refine hh.mono ?_
    clear hh he
    rintro e w2 ⟨rfl, hb2⟩
    have p2 := p1.below hb2 (by omega)
    have R2 := Lib.hid ((hb2.block (w.heap.size + 1) (by omega)).trans r1)
    have B2 := below_then bW1 hb2
    have z2 := hb2.size
    obtain ⟨c0, c1, c2, c3, cf⟩ := p2.cells
    clear cf r1
    go_wp2_with (refine wpList_store_row rfl _ _ _ rfl (w.heap.size + 1) #[.int .u32 l, .int .u32 m, .int .u64 k, (.slice A n c)] rfl rfl _ _ R2.out (by kernel_rfl : (Try.prog.info? 63).map (·.size) = some 4) rfl (by simp [Value.oneCell']) ?_)
    have cs := fun j => cell_setRow_same w2 (w.heap.size + 1) j _ #[.int .u32 l, .int .u32 m, .int .u64 k, (.slice A n c)] _ _ R2.out
    exact bodyPost_ret (v := .tuple #[.agg #[.int .u32 l, .int .u32 m, .int .u64 k, (.slice A n c)], .int .i64 3]) (by simp [results, Try.results49, go_sem, cs]) rfl ⟨rfl, below_setRow B2 (by omega) _⟩
  · have he : askedE line k n = 2 := h.2.2
    rw [he, show chL line false 2 l = l from rfl]
    clear h
    go_enter Try.func49, Try.ntmps49
    go_wp2_with fail
    refine named ?_
    intro W1 hW1
    have bW1 : Below w.heap.size w W1 := by rw [hW1]; repeat' (first | exact Below.refl _ _ | (refine Below.alloc ?_ ?_ _; rotate_left; (simp <;> omega)) | refine Below.drew ?_)
    have zW1 := bW1.size
    have p1 : PtAt W1 w.heap.size l m k A n c := by rw [hW1]; exact row2a ..
    have r1 : W1.heap[w.heap.size + 1]? = some (.cells #[.int .u32 0, .int .u32 0, .int .u64 0, .slice none 0 0] 63 (0, 0)) := by rw [hW1]; exact row2b ..
    have s1 : w.heap.size + 2 ≤ W1.heap.size := by rw [hW1]; simp
    have HW1 := Lib.hid hW1
    clear hW1
    have hh := asked06_any l m k A n c line W1 hn hk
    rw [he] at hh
    refine hh.mono ?_
    clear hh he
    rintro e w2 ⟨rfl, hb2⟩
    have p2 := p1.below hb2 (by omega)
    have R2 := Lib.hid ((hb2.block (w.heap.size + 1) (by omega)).trans r1)
    have B2 := below_then bW1 hb2
    have z2 := hb2.size
    obtain ⟨c0, c1, c2, c3, cf⟩ := p2.cells
    clear cf r1
    go_wp2_with (refine wpList_store_row rfl _ _ _ rfl (w.heap.size + 1) #[.int .u32 l, .int .u32 m, .int .u64 k, (.slice A n c)] rfl rfl _ _ R2.out (by kernel_rfl : (Try.prog.info? 63).map (·.size) = some 4) rfl (by simp [Value.oneCell']) ?_)
    have cs := fun j => cell_setRow_same w2 (w.heap.size + 1) j _ #[.int .u32 l, .int .u32 m, .int .u64 k, (.slice A n c)] _ _ R2.out
    exact bodyPost_ret (v := .tuple #[.agg #[.int .u32 l, .int .u32 m, .int .u64 k, (.slice A n c)], .int .i64 2]) (by simp [results, Try.results49, go_sem, cs]) rfl ⟨rfl, below_setRow B2 (by omega) _⟩
  · rw [h4, show chL (i : Int) false 0 l = withN l i false from rfl]
    go_enter Try.func49, Try.ntmps49
    go_wp2_with fail
    refine named ?_
    intro W1 hW1
    have bW1 : Below w.heap.size w W1 := by rw [hW1]; repeat' (first | exact Below.refl _ _ | (refine Below.alloc ?_ ?_ _; rotate_left; (simp <;> omega)) | refine Below.drew ?_)
    have zW1 := bW1.size
    have p1 : PtAt W1 w.heap.size l m k A n c := by rw [hW1]; exact row2a ..
    have r1 : W1.heap[w.heap.size + 1]? = some (.cells #[.int .u32 0, .int .u32 0, .int .u64 0, .slice none 0 0] 63 (0, 0)) := by rw [hW1]; exact row2b ..
    have s1 : w.heap.size + 2 ≤ W1.heap.size := by rw [hW1]; simp
    have HW1 := Lib.hid hW1
    clear hW1
    have hh := asked06_any l m k A n c (i : Int) W1 hn hk
    rw [h4] at hh
    refine hh.mono ?_
    clear hh h4
    rintro e w2 ⟨rfl, hb2⟩
    have p2 := p1.below hb2 (by omega)
    have R2 := (hb2.block (w.heap.size + 1) (by omega)).trans r1
    have B2 := below_then bW1 hb2
    have z2 := hb2.size
    obtain ⟨c0, c1, c2, c3, cf⟩ := p2.cells
    clear cf r1
    go_wp2_with fail
    refine (ref06with_any l i false w2 hl h2).mono ?_
    rintro e w3 ⟨rfl, hb3⟩
    obtain ⟨V, hV⟩ : ∃ V, withN l i false = V := ⟨withN l i false, rfl⟩
    rw [hV]
    have HV := Lib.hid hV
    clear hV
    have p3 := p2.below hb3 p2.lt
    have z3 := hb3.size
    have B3 := below_then B2 hb3
    have hs := setc_row (i := 0) (v := .int .u32 (V : Nat)) p3
    have R3 := Lib.hid ((setc_row_other (g := w.heap.size) (i := 0) (v := .int .u32 (V : Nat)) (by omega)).trans ((hb3.block (w.heap.size + 1) (by omega)).trans R2))
    have B4 := B3.setCell (p := ⟨w.heap.size, 0, none⟩) (Nat.le_refl _) (.int .u32 (V : Nat))
    clear c0 c1 c2 c3 R2
    obtain ⟨c0, c1, c2, c3, cf⟩ := p3.cells
    have f0 := cf 0
    clear cf
    go_wp2_with (refine wpList_store_row rfl _ _ _ rfl (w.heap.size + 1) #[.int .u32 V, .int .u32 m, .int .u64 k, (.slice A n c)] rfl rfl _ _ R3.out (by kernel_rfl : (Try.prog.info? 63).map (·.size) = some 4) rfl (by simp [Value.oneCell']) ?_)
    have cs := fun j => cell_setRow_same _ (w.heap.size + 1) j _ #[.int .u32 V, .int .u32 m, .int .u64 k, (.slice A n c)] _ _ R3.out
    exact bodyPost_ret (v := .tuple #[.agg #[.int .u32 V, .int .u32 m, .int .u64 k, (.slice A n c)], .int .i64 0]) (by simp [results, Try.results49, go_sem, cs]) rfl ⟨by rw [HV.out], below_setRow B4 (by omega) _⟩

theorem refPtHear_any (line : Int) (on : Bool) (l m k : Nat) (A : Option Addr) (n c : Nat) (w : World) (hn : n ≤ 9223372036854775807) (hl : l < 4294967296) (hm : m < 4294967296) (hk : k < 18446744073709551616) :
    Calls Try.prog 48 #[(.agg #[.int .u32 l, .int .u32 m, .int .u64 k, .slice A n c]), .int .i64 line, .bool on] w (RetPt w l (chL line on (askedE line k n) m) k A n c (askedE line k n)) := by
  rcases asked_cases line k n with h | h | ⟨h1, i, h2, rfl, h4⟩
  · have he : askedE line k n = 3 := h.2
    rw [he, show chL line on 3 m = m from rfl]
    clear h
    go_enter Try.func48, Try.ntmps48
    go_wp2_with fail
    refine named ?_
    intro W1 hW1
    have bW1 : Below w.heap.size w W1 := by rw [hW1]; repeat' (first | exact Below.refl _ _ | (refine Below.alloc ?_ ?_ _; rotate_left; (simp <;> omega)) | refine Below.drew ?_)
    have zW1 := bW1.size
    have p1 : PtAt W1 w.heap.size l m k A n c := by rw [hW1]; exact row2a ..
    have r1 : W1.heap[w.heap.size + 1]? = some (.cells #[.int .u32 0, .int .u32 0, .int .u64 0, .slice none 0 0] 63 (0, 0)) := by rw [hW1]; exact row2b ..
    have s1 : w.heap.size + 2 ≤ W1.heap.size := by rw [hW1]; simp
    have HW1 := Lib.hid hW1
    clear hW1
    have hh := asked06_any l m k A n c line W1 hn hk
    rw [he] at hh
    refine hh.mono ?_
    clear hh he
    rintro e w2 ⟨rfl, hb2⟩
    have p2 := p1.below hb2 (by omega)
    have R2 := Lib.hid ((hb2.block (w.heap.size + 1) (by omega)).trans r1)
    have B2 := below_then bW1 hb2
    have z2 := hb2.size
    obtain ⟨c0, c1, c2, c3, cf⟩ := p2.cells
    clear cf r1
    go_wp2_with (refine wpList_store_row rfl _ _ _ rfl (w.heap.size + 1) #[.int .u32 l, .int .u32 m, .int .u64 k, (.slice A n c)] rfl rfl _ _ R2.out (by kernel_rfl : (Try.prog.info? 63).map (·.size) = some 4) rfl (by simp [Value.oneCell']) ?_)
    have cs := fun j => cell_setRow_same w2 (w.heap.size + 1) j _ #[.int .u32 l, .int .u32 m, .int .u64 k, (.slice A n c)] _ _ R2.out
    exact bodyPost_ret (v := .tuple #[.agg #[.int .u32 l, .int .u32 m, .int .u64 k, (.slice A n c)], .int .i64 3]) (by simp [results, Try.results48, go_sem, cs]) rfl ⟨rfl, below_setRow B2 (by omega) _⟩
  · have he : askedE line k n = 2 := h.2.2
    rw [he, show chL line on 2 m = m from rfl]
    clear h
    go_enter Try.func48, Try.ntmps48
    go_wp2_with fail
    refine named ?_
    intro W1 hW1
    have bW1 : Below w.heap.size w W1 := by rw [hW1]; repeat' (first | exact Below.refl _ _ | (refine Below.alloc ?_ ?_ _; rotate_left; (simp <;> omega)) | refine Below.drew ?_)
    have zW1 := bW1.size
    have p1 : PtAt W1 w.heap.size l m k A n c := by rw [hW1]; exact row2a ..
    have r1 : W1.heap[w.heap.size + 1]? = some (.cells #[.int .u32 0, .int .u32 0, .int .u64 0, .slice none 0 0] 63 (0, 0)) := by rw [hW1]; exact row2b ..
    have s1 : w.heap.size + 2 ≤ W1.heap.size := by rw [hW1]; simp
    have HW1 := Lib.hid hW1
    clear hW1
    have hh := asked06_any l m k A n c line W1 hn hk
    rw [he] at hh
    refine hh.mono ?_
    clear hh he
    rintro e w2 ⟨rfl, hb2⟩
    have p2 := p1.below hb2 (by omega)
    have R2 := Lib.hid ((hb2.block (w.heap.size + 1) (by omega)).trans r1)
    have B2 := below_then bW1 hb2
    have z2 := hb2.size
    obtain ⟨c0, c1, c2, c3, cf⟩ := p2.cells
    clear cf r1
    go_wp2_with (refine wpList_store_row rfl _ _ _ rfl (w.heap.size + 1) #[.int .u32 l, .int .u32 m, .int .u64 k, (.slice A n c)] rfl rfl _ _ R2.out (by kernel_rfl : (Try.prog.info? 63).map (·.size) = some 4) rfl (by simp [Value.oneCell']) ?_)
    have cs := fun j => cell_setRow_same w2 (w.heap.size + 1) j _ #[.int .u32 l, .int .u32 m, .int .u64 k, (.slice A n c)] _ _ R2.out
    exact bodyPost_ret (v := .tuple #[.agg #[.int .u32 l, .int .u32 m, .int .u64 k, (.slice A n c)], .int .i64 2]) (by simp [results, Try.results48, go_sem, cs]) rfl ⟨rfl, below_setRow B2 (by omega) _⟩
  · rw [h4, show chL (i : Int) on 0 m = withN m i on from rfl]
    go_enter Try.func48, Try.ntmps48
    go_wp2_with fail
    refine named ?_
    intro W1 hW1
    have bW1 : Below w.heap.size w W1 := by rw [hW1]; repeat' (first | exact Below.refl _ _ | (refine Below.alloc ?_ ?_ _; rotate_left; (simp <;> omega)) | refine Below.drew ?_)
    have zW1 := bW1.size
    have p1 : PtAt W1 w.heap.size l m k A n c := by rw [hW1]; exact row2a ..
    have r1 : W1.heap[w.heap.size + 1]? = some (.cells #[.int .u32 0, .int .u32 0, .int .u64 0, .slice none 0 0] 63 (0, 0)) := by rw [hW1]; exact row2b ..
    have s1 : w.heap.size + 2 ≤ W1.heap.size := by rw [hW1]; simp
    have HW1 := Lib.hid hW1
    clear hW1
    have hh := asked06_any l m k A n c (i : Int) W1 hn hk
    rw [h4] at hh
    refine hh.mono ?_
    clear hh h4
    rintro e w2 ⟨rfl, hb2⟩
    have p2 := p1.below hb2 (by omega)
    have R2 := (hb2.block (w.heap.size + 1) (by omega)).trans r1
    have B2 := below_then bW1 hb2
    have z2 := hb2.size
    obtain ⟨c0, c1, c2, c3, cf⟩ := p2.cells
    clear cf r1
    go_wp2_with fail
    refine (ref06with_any m i on w2 hm h2).mono ?_
    rintro e w3 ⟨rfl, hb3⟩
    obtain ⟨V, hV⟩ : ∃ V, withN m i on = V := ⟨withN m i on, rfl⟩
    rw [hV]
    have HV := Lib.hid hV
    clear hV
    have p3 := p2.below hb3 p2.lt
    have z3 := hb3.size
    have B3 := below_then B2 hb3
    have hs := setc_row (i := 1) (v := .int .u32 (V : Nat)) p3
    have R3 := Lib.hid ((setc_row_other (g := w.heap.size) (i := 1) (v := .int .u32 (V : Nat)) (by omega)).trans ((hb3.block (w.heap.size + 1) (by omega)).trans R2))
    have B4 := B3.setCell (p := ⟨w.heap.size, 1, none⟩) (Nat.le_refl _) (.int .u32 (V : Nat))
    clear c0 c1 c2 c3 R2
    obtain ⟨c0, c1, c2, c3, cf⟩ := p3.cells
    have f0 := cf 1
    clear cf
    go_wp2_with (refine wpList_store_row rfl _ _ _ rfl (w.heap.size + 1) #[.int .u32 l, .int .u32 V, .int .u64 k, (.slice A n c)] rfl rfl _ _ R3.out (by kernel_rfl : (Try.prog.info? 63).map (·.size) = some 4) rfl (by simp [Value.oneCell']) ?_)
    have cs := fun j => cell_setRow_same _ (w.heap.size + 1) j _ #[.int .u32 l, .int .u32 V, .int .u64 k, (.slice A n c)] _ _ R3.out
    exact bodyPost_ret (v := .tuple #[.agg #[.int .u32 l, .int .u32 V, .int .u64 k, (.slice A n c)], .int .i64 0]) (by simp [results, Try.results48, go_sem, cs]) rfl ⟨by rw [HV.out], below_setRow B4 (by omega) _⟩

def tickE (t k n : Nat) : Int := if ptCheck k n = true then (if 1099511627776 < t then 2 else if t < k then 8 else 0) else 3
def tickK (t k : Nat) (er : Int) : Nat := if er = 0 then t else k
theorem ptTick_any (t : Nat) (l m k : Nat) (A : Option Addr) (n c : Nat) (w : World) (hn : n ≤ 9223372036854775807) (hl : l < 4294967296) (hm : m < 4294967296) (hk : k < 18446744073709551616) (ht : t < 18446744073709551616) :
    Calls Try.prog 50 #[(.agg #[.int .u32 l, .int .u32 m, .int .u64 k, .slice A n c]), .int .u64 t] w (RetPt w l m (tickK t k (tickE t k n)) A n c (tickE t k n)) := by
  have key : ∀ (er : Int) (V : Nat), ((ptCheck k n = false ∧ er = 3 ∧ V = k) ∨ (ptCheck k n = true ∧ 1099511627776 < t ∧ er = 2 ∧ V = k) ∨ (ptCheck k n = true ∧ t ≤ 1099511627776 ∧ t < k ∧ er = 8 ∧ V = k) ∨ (ptCheck k n = true ∧ t ≤ 1099511627776 ∧ k ≤ t ∧ er = 0 ∧ V = t)) → Calls Try.prog 50 #[(.agg #[.int .u32 l, .int .u32 m, .int .u64 k, .slice A n c]), .int .u64 t] w (RetPt w l m V A n c er) := by
    intro er V hcase
    have HC := Lib.hid hcase
    clear hcase
    go_enter Try.func50, Try.ntmps50
    go_wp2_with fail
    refine named ?_
    intro W1 hW1
    have bW1 : Below w.heap.size w W1 := by rw [hW1]; repeat' (first | exact Below.refl _ _ | (refine Below.alloc ?_ ?_ _; rotate_left; (simp <;> omega)) | refine Below.drew ?_)
    have zW1 := bW1.size
    have p1 : PtAt W1 w.heap.size l m k A n c := by rw [hW1]; exact row2a ..
    have r1 : W1.heap[w.heap.size + 1]? = some (.cells #[.int .u32 0, .int .u32 0, .int .u64 0, .slice none 0 0] 63 (0, 0)) := by rw [hW1]; exact row2b ..
    have s1 : w.heap.size + 2 ≤ W1.heap.size := by rw [hW1]; simp
    have HW1 := Lib.hid hW1
    clear hW1
    refine (ptCheck_any l m k A n c W1 hn hk).mono ?_
    rintro e w2 ⟨rfl, hb2⟩
    have p2 := p1.below hb2 (by omega)
    have R2 := Lib.hid ((hb2.block (w.heap.size + 1) (by omega)).trans r1)
    have B2 := below_then bW1 hb2
    have z2 := hb2.size
    obtain ⟨c0, c1, c2, c3, cf⟩ := p2.cells
    have f2 := cf 2
    clear cf r1
    rcases HC.out with ⟨h1, rfl, rfl⟩ | ⟨h1, h2, rfl, rfl⟩ | ⟨h1, h2, h3, rfl, rfl⟩ | ⟨h1, h2, h3, rfl, rfl⟩
    · rw [h1]
      clear HC
      go_wp2_with (refine wpList_store_row rfl _ _ _ rfl (w.heap.size + 1) #[.int .u32 l, .int .u32 m, .int .u64 V, (.slice A n c)] rfl rfl _ _ R2.out (by kernel_rfl : (Try.prog.info? 63).map (·.size) = some 4) rfl (by simp [Value.oneCell']) ?_)
      have cs := fun j => cell_setRow_same w2 (w.heap.size + 1) j _ #[.int .u32 l, .int .u32 m, .int .u64 V, (.slice A n c)] _ _ R2.out
      exact bodyPost_ret (v := .tuple #[.agg #[.int .u32 l, .int .u32 m, .int .u64 V, (.slice A n c)], .int .i64 3]) (by simp [results, Try.results50, go_sem, cs]) rfl ⟨rfl, below_setRow B2 (by omega) _⟩
    · rw [h1]
      clear HC
      have d1 : decide ((1099511627776 : Int) < (t : Int)) = true := decide_eq_true (by omega)
      go_wp2_with (refine wpList_store_row rfl _ _ _ rfl (w.heap.size + 1) #[.int .u32 l, .int .u32 m, .int .u64 V, (.slice A n c)] rfl rfl _ _ R2.out (by kernel_rfl : (Try.prog.info? 63).map (·.size) = some 4) rfl (by simp [Value.oneCell']) ?_)
      have cs := fun j => cell_setRow_same w2 (w.heap.size + 1) j _ #[.int .u32 l, .int .u32 m, .int .u64 V, (.slice A n c)] _ _ R2.out
      exact bodyPost_ret (v := .tuple #[.agg #[.int .u32 l, .int .u32 m, .int .u64 V, (.slice A n c)], .int .i64 2]) (by simp [results, Try.results50, go_sem, cs]) rfl ⟨rfl, below_setRow B2 (by omega) _⟩
    · rw [h1]
      clear HC
      have d1 : decide ((1099511627776 : Int) < (t : Int)) = false := decide_eq_false (by omega)
      have d2 : decide ((t : Int) < (V : Int)) = true := decide_eq_true (by omega)
      go_wp2_with (refine wpList_store_row rfl _ _ _ rfl (w.heap.size + 1) #[.int .u32 l, .int .u32 m, .int .u64 V, (.slice A n c)] rfl rfl _ _ R2.out (by kernel_rfl : (Try.prog.info? 63).map (·.size) = some 4) rfl (by simp [Value.oneCell']) ?_)
      have cs := fun j => cell_setRow_same w2 (w.heap.size + 1) j _ #[.int .u32 l, .int .u32 m, .int .u64 V, (.slice A n c)] _ _ R2.out
      exact bodyPost_ret (v := .tuple #[.agg #[.int .u32 l, .int .u32 m, .int .u64 V, (.slice A n c)], .int .i64 8]) (by simp [results, Try.results50, go_sem, cs]) rfl ⟨rfl, below_setRow B2 (by omega) _⟩
    · rw [h1]
      clear HC
      have d1 : decide ((1099511627776 : Int) < (V : Int)) = false := decide_eq_false (by omega)
      have d2 : decide ((V : Int) < (k : Int)) = false := decide_eq_false (by omega)
      have R3 := Lib.hid ((setc_row_other (g := w.heap.size) (i := 2) (v := .int .u64 (V : Nat)) (by omega)).trans R2.out)
      have B4 := B2.setCell (p := ⟨w.heap.size, 2, none⟩) (Nat.le_refl _) (.int .u64 (V : Nat))
      go_wp2_with (refine wpList_store_row rfl _ _ _ rfl (w.heap.size + 1) #[.int .u32 l, .int .u32 m, .int .u64 V, (.slice A n c)] rfl rfl _ _ R3.out (by kernel_rfl : (Try.prog.info? 63).map (·.size) = some 4) rfl (by simp [Value.oneCell']) ?_)
      have cs := fun j => cell_setRow_same _ (w.heap.size + 1) j _ #[.int .u32 l, .int .u32 m, .int .u64 V, (.slice A n c)] _ _ R3.out
      exact bodyPost_ret (v := .tuple #[.agg #[.int .u32 l, .int .u32 m, .int .u64 V, (.slice A n c)], .int .i64 0]) (by simp [results, Try.results50, go_sem, cs]) rfl ⟨rfl, below_setRow B4 (by omega) _⟩
  refine key _ _ ?_
  unfold tickE tickK
  cases h : ptCheck k n with
  | false => left; exact ⟨rfl, rfl, rfl⟩
  | true =>
    right
    rw [if_pos rfl]
    by_cases h1 : 1099511627776 < t
    · left; rw [if_pos h1]; exact ⟨rfl, h1, rfl, rfl⟩
    · right; rw [if_neg h1]
      by_cases h2 : t < k
      · left; rw [if_pos h2]; exact ⟨rfl, by omega, h2, rfl, rfl⟩
      · right; rw [if_neg h2]; exact ⟨rfl, by omega, by omega, rfl, rfl⟩

theorem refPtTick_any (t : Nat) (l m k : Nat) (A : Option Addr) (n c : Nat) (w : World) (hn : n ≤ 9223372036854775807) (hl : l < 4294967296) (hm : m < 4294967296) (hk : k < 18446744073709551616) (ht : t < 18446744073709551616) :
    Calls Try.prog 51 #[(.agg #[.int .u32 l, .int .u32 m, .int .u64 k, .slice A n c]), .int .u64 t] w (RetPt w l m (tickK t k (tickE t k n)) A n c (tickE t k n)) := by
  have key : ∀ (er : Int) (V : Nat), ((ptCheck k n = false ∧ er = 3 ∧ V = k) ∨ (ptCheck k n = true ∧ 1099511627776 < t ∧ er = 2 ∧ V = k) ∨ (ptCheck k n = true ∧ t ≤ 1099511627776 ∧ t < k ∧ er = 8 ∧ V = k) ∨ (ptCheck k n = true ∧ t ≤ 1099511627776 ∧ k ≤ t ∧ er = 0 ∧ V = t)) → Calls Try.prog 51 #[(.agg #[.int .u32 l, .int .u32 m, .int .u64 k, .slice A n c]), .int .u64 t] w (RetPt w l m V A n c er) := by
    intro er V hcase
    have HC := Lib.hid hcase
    clear hcase
    go_enter Try.func51, Try.ntmps51
    go_wp2_with fail
    refine named ?_
    intro W1 hW1
    have bW1 : Below w.heap.size w W1 := by rw [hW1]; repeat' (first | exact Below.refl _ _ | (refine Below.alloc ?_ ?_ _; rotate_left; (simp <;> omega)) | refine Below.drew ?_)
    have zW1 := bW1.size
    have p1 : PtAt W1 w.heap.size l m k A n c := by rw [hW1]; exact row2a ..
    have r1 : W1.heap[w.heap.size + 1]? = some (.cells #[.int .u32 0, .int .u32 0, .int .u64 0, .slice none 0 0] 63 (0, 0)) := by rw [hW1]; exact row2b ..
    have s1 : w.heap.size + 2 ≤ W1.heap.size := by rw [hW1]; simp
    have HW1 := Lib.hid hW1
    clear hW1
    refine (refCheck06_any l m k A n c W1 hn hk).mono ?_
    rintro e w2 ⟨rfl, hb2⟩
    have p2 := p1.below hb2 (by omega)
    have R2 := Lib.hid ((hb2.block (w.heap.size + 1) (by omega)).trans r1)
    have B2 := below_then bW1 hb2
    have z2 := hb2.size
    obtain ⟨c0, c1, c2, c3, cf⟩ := p2.cells
    have f2 := cf 2
    clear cf r1
    rcases HC.out with ⟨h1, rfl, rfl⟩ | ⟨h1, h2, rfl, rfl⟩ | ⟨h1, h2, h3, rfl, rfl⟩ | ⟨h1, h2, h3, rfl, rfl⟩
    · rw [h1]
      clear HC
      go_wp2_with (refine wpList_store_row rfl _ _ _ rfl (w.heap.size + 1) #[.int .u32 l, .int .u32 m, .int .u64 V, (.slice A n c)] rfl rfl _ _ R2.out (by kernel_rfl : (Try.prog.info? 63).map (·.size) = some 4) rfl (by simp [Value.oneCell']) ?_)
      have cs := fun j => cell_setRow_same w2 (w.heap.size + 1) j _ #[.int .u32 l, .int .u32 m, .int .u64 V, (.slice A n c)] _ _ R2.out
      exact bodyPost_ret (v := .tuple #[.agg #[.int .u32 l, .int .u32 m, .int .u64 V, (.slice A n c)], .int .i64 3]) (by simp [results, Try.results51, go_sem, cs]) rfl ⟨rfl, below_setRow B2 (by omega) _⟩
    · rw [h1]
      clear HC
      have d1 : decide ((1099511627776 : Int) < (t : Int)) = true := decide_eq_true (by omega)
      go_wp2_with (refine wpList_store_row rfl _ _ _ rfl (w.heap.size + 1) #[.int .u32 l, .int .u32 m, .int .u64 V, (.slice A n c)] rfl rfl _ _ R2.out (by kernel_rfl : (Try.prog.info? 63).map (·.size) = some 4) rfl (by simp [Value.oneCell']) ?_)
      have cs := fun j => cell_setRow_same w2 (w.heap.size + 1) j _ #[.int .u32 l, .int .u32 m, .int .u64 V, (.slice A n c)] _ _ R2.out
      exact bodyPost_ret (v := .tuple #[.agg #[.int .u32 l, .int .u32 m, .int .u64 V, (.slice A n c)], .int .i64 2]) (by simp [results, Try.results51, go_sem, cs]) rfl ⟨rfl, below_setRow B2 (by omega) _⟩
    · rw [h1]
      clear HC
      have d1 : decide ((1099511627776 : Int) < (t : Int)) = false := decide_eq_false (by omega)
      have d2 : decide ((t : Int) < (V : Int)) = true := decide_eq_true (by omega)
      go_wp2_with (refine wpList_store_row rfl _ _ _ rfl (w.heap.size + 1) #[.int .u32 l, .int .u32 m, .int .u64 V, (.slice A n c)] rfl rfl _ _ R2.out (by kernel_rfl : (Try.prog.info? 63).map (·.size) = some 4) rfl (by simp [Value.oneCell']) ?_)
      have cs := fun j => cell_setRow_same w2 (w.heap.size + 1) j _ #[.int .u32 l, .int .u32 m, .int .u64 V, (.slice A n c)] _ _ R2.out
      exact bodyPost_ret (v := .tuple #[.agg #[.int .u32 l, .int .u32 m, .int .u64 V, (.slice A n c)], .int .i64 8]) (by simp [results, Try.results51, go_sem, cs]) rfl ⟨rfl, below_setRow B2 (by omega) _⟩
    · rw [h1]
      clear HC
      have d1 : decide ((1099511627776 : Int) < (V : Int)) = false := decide_eq_false (by omega)
      have d2 : decide ((V : Int) < (k : Int)) = false := decide_eq_false (by omega)
      have R3 := Lib.hid ((setc_row_other (g := w.heap.size) (i := 2) (v := .int .u64 (V : Nat)) (by omega)).trans R2.out)
      have B4 := B2.setCell (p := ⟨w.heap.size, 2, none⟩) (Nat.le_refl _) (.int .u64 (V : Nat))
      go_wp2_with (refine wpList_store_row rfl _ _ _ rfl (w.heap.size + 1) #[.int .u32 l, .int .u32 m, .int .u64 V, (.slice A n c)] rfl rfl _ _ R3.out (by kernel_rfl : (Try.prog.info? 63).map (·.size) = some 4) rfl (by simp [Value.oneCell']) ?_)
      have cs := fun j => cell_setRow_same _ (w.heap.size + 1) j _ #[.int .u32 l, .int .u32 m, .int .u64 V, (.slice A n c)] _ _ R3.out
      exact bodyPost_ret (v := .tuple #[.agg #[.int .u32 l, .int .u32 m, .int .u64 V, (.slice A n c)], .int .i64 0]) (by simp [results, Try.results51, go_sem, cs]) rfl ⟨rfl, below_setRow B4 (by omega) _⟩
  refine key _ _ ?_
  unfold tickE tickK
  cases h : ptCheck k n with
  | false => left; exact ⟨rfl, rfl, rfl⟩
  | true =>
    right
    rw [if_pos rfl]
    by_cases h1 : 1099511627776 < t
    · left; rw [if_pos h1]; exact ⟨rfl, h1, rfl, rfl⟩
    · right; rw [if_neg h1]
      by_cases h2 : t < k
      · left; rw [if_pos h2]; exact ⟨rfl, by omega, h2, rfl, rfl⟩
      · right; rw [if_neg h2]; exact ⟨rfl, by omega, by omega, rfl, rfl⟩

end Go.Proofs.Ytieilgphcfiapaa
