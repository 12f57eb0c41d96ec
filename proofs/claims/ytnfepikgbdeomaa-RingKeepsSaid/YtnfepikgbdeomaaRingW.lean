/-
  Layer 7: rings (the document): SetDesc, Offer, Return.
-/
import Derived.Test.YtnfepikgbdeomaaRingV
namespace Go.Proofs.Ytnfepikgbdeomaa
set_option maxRecDepth 20000
open Go.RowKit
set_option linter.unusedVariables false
set_option linter.unusedSimpArgs false
set_option maxHeartbeats 4000000

/-- Memory that came back from a call is stored in its box. -/
theorem mm_step {W w' : World} {g n c' : Nat} {A A' : Option Addr} {ys : List UInt8} {v : Value} (bx : BoxAt W g 28 v) (hb : Below W.heap.size W w') (hr : RdB w' A' n c' ys) (far : A' = A ∨ ∀ a, A' = some a → W.heap.size ≤ a.block) (ho : Off A g) :
    BoxAt w' g 28 v ∧ BoxAt (w'.setCell ⟨g, 0, none⟩ (.slice A' n c')) g 28 (.slice A' n c') ∧ RdB (w'.setCell ⟨g, 0, none⟩ (.slice A' n c')) A' n c' ys ∧ Off A' g ∧ But g W.heap.size W (w'.setCell ⟨g, 0, none⟩ (.slice A' n c')) ∧ Below g W (w'.setCell ⟨g, 0, none⟩ (.slice A' n c')) := by
  have lt : g < W.heap.size := (Array.getElem?_eq_some_iff.1 bx).1
  have bx' : BoxAt w' g 28 v := (hb.block g lt).trans bx
  have off : Off A' g := fun a e => by
    rcases far with rfl | h
    · exact ho a e
    · have := h a e; omega
  exact ⟨bx', (setc_rowT bx').trans rfl, rdB_off hr off (by simp [World.setCell]) (fun j hj => Below.heap_setCell _ _ _ _ hj), off, (but_of hb).setCell _, (hb.mono (Nat.le_of_lt lt)).setCell (p := ⟨g, 0, none⟩) (Nat.le_refl _) _⟩

theorem refSetDesc7_no (A : Option Addr) (n c : Nat) (xs : List UInt8) (b k i : Int) (d0 d1 d2 d3 : Nat) (w : World) (hr : RdB w A n c xs) (hb : -9223372036854775808 ≤ b ∧ b ≤ 9223372036854775807) (hk : -9223372036854775808 ≤ k ∧ k ≤ 9223372036854775807) (hi : -9223372036854775808 ≤ i ∧ i ≤ 9223372036854775807) (h : rgCheck n b k = false) :
    Calls Try.prog 23 #[.agg #[.slice A n c], .int .i64 b, .int .i64 k, .int .i64 i, .agg #[.int .u64 (d0 : Int), .int .u32 (d1 : Int), .int .u16 (d2 : Int), .int .u16 (d3 : Int)]] w (RetMmE w A n xs 70) := by
  have hn := hr.n63
  have hL := hr.2.1
  obtain ⟨V, hV⟩ : ∃ V, V = ((w.alloc (.cells #[.slice A n c] 28)).alloc (.cells #[.int .u64 (d0 : Int), .int .u32 (d1 : Int), .int .u16 (d2 : Int), .int .u16 (d3 : Int)] 44)).alloc (.cells #[.slice none 0 0] 28) := ⟨_, rfl⟩
  have bV : Below w.heap.size w V := by rw [hV]; exact (((below_self w).alloc (Nat.le_refl _) _).alloc (by simp) _).alloc (by simp; omega) _
  have zV : V.heap.size = w.heap.size + 3 := by rw [hV]; simp
  have q0 : BoxAt V w.heap.size 28 (.slice A n c) := by rw [hV]; exact row_old _ (row_old _ (row_at _ rfl))
  have q1 : V.heap[w.heap.size + 1]? = some (.cells #[.int .u64 (d0 : Int), .int .u32 (d1 : Int), .int .u16 (d2 : Int), .int .u16 (d3 : Int)] 44 (0, 0)) := by rw [hV]; exact row_old _ (row_at _ (by simp))
  have qR : BoxAt V (w.heap.size + 2) 28 (.slice none 0 0) := by rw [hV]; exact row_at _ (by simp)
  have k0 := q0.c
  have Q0 := Lib.hid q0
  have QR := Lib.hid qR
  have ZV := Lib.hid zV
  have HV := Lib.hid hV
  have hrV := hr.below bV
  have HC := Lib.hid (refCheck7_any A n c b k V hn hb hk)
  have Q1 := Lib.hid q1
  clear q1
  clear hV zV q0 qR
  rw [h] at HC
  clear h
  go_enter Try.func23, Try.ntmps23
  go_wp2_with fail
  rw [← HV.out]
  refine HC.out.mono ?_
  rintro e w2 ⟨rfl, hb2⟩
  have g0 := (hb2.block _ (by have := ZV.out; omega)).trans Q0.out
  have g2 := (hb2.block _ (by have := ZV.out; omega)).trans QR.out
  have k0 := (cell_of_row _ _ 0 _ _ _ g0).trans (show (#[.slice A n c] : Array Value)[0]? = some (.slice A n c) from rfl)
  have k2 := (cell_of_row _ _ 0 _ _ _ g2).trans (show (#[.slice none 0 0] : Array Value)[0]? = some (.slice none 0 0) from rfl)
  have u2 := frozen_of_row _ _ 0 _ _ g2
  have GR := Lib.hid g2
  clear g0 g2
  go_wp2_with fail
  have B3 := below_then bV hb2
  have hrow2 : (w2.setCell ⟨w.heap.size + 2, 0, none⟩ (.slice A n c)).heap[w.heap.size + 2]? = some (.cells #[.slice A n c] 28 (0, 0)) := (setc_rowT GR.out).trans rfl
  have hl := run_loadVar_row (P := Try.prog) _ _ _ 28 _ _ _ hrow2 Try.underlying28 rfl (by kernel_rfl)
  refine bodyPost_ret (v := .tuple #[.agg #[.slice A n c], .int .i64 70]) (by simp [results, Try.results23, asAddr, hl]) rfl ?_
  exact ⟨A, c, rfl, rd_far (hr.below B3) _ _ (fun hn0 a e => by have := hr.lt hn0 a e; show a.block ≠ w.heap.size + 2; omega), .inl rfl, (B3).setCell (p := ⟨w.heap.size + 2, 0, none⟩) (by simp) _⟩
theorem refSetDesc7_low (A : Option Addr) (n c : Nat) (xs : List UInt8) (b k i : Int) (d0 d1 d2 d3 : Nat) (w : World) (hr : RdB w A n c xs) (hb : -9223372036854775808 ≤ b ∧ b ≤ 9223372036854775807) (hk : -9223372036854775808 ≤ k ∧ k ≤ 9223372036854775807) (hi : -9223372036854775808 ≤ i ∧ i ≤ 9223372036854775807) (h : rgCheck n b k = true) (hi0 : i < 0) :
    Calls Try.prog 23 #[.agg #[.slice A n c], .int .i64 b, .int .i64 k, .int .i64 i, .agg #[.int .u64 (d0 : Int), .int .u32 (d1 : Int), .int .u16 (d2 : Int), .int .u16 (d3 : Int)]] w (RetMmE w A n xs 2) := by
  have hn := hr.n63
  have hL := hr.2.1
  obtain ⟨V, hV⟩ : ∃ V, V = ((w.alloc (.cells #[.slice A n c] 28)).alloc (.cells #[.int .u64 (d0 : Int), .int .u32 (d1 : Int), .int .u16 (d2 : Int), .int .u16 (d3 : Int)] 44)).alloc (.cells #[.slice none 0 0] 28) := ⟨_, rfl⟩
  have bV : Below w.heap.size w V := by rw [hV]; exact (((below_self w).alloc (Nat.le_refl _) _).alloc (by simp) _).alloc (by simp; omega) _
  have zV : V.heap.size = w.heap.size + 3 := by rw [hV]; simp
  have q0 : BoxAt V w.heap.size 28 (.slice A n c) := by rw [hV]; exact row_old _ (row_old _ (row_at _ rfl))
  have q1 : V.heap[w.heap.size + 1]? = some (.cells #[.int .u64 (d0 : Int), .int .u32 (d1 : Int), .int .u16 (d2 : Int), .int .u16 (d3 : Int)] 44 (0, 0)) := by rw [hV]; exact row_old _ (row_at _ (by simp))
  have qR : BoxAt V (w.heap.size + 2) 28 (.slice none 0 0) := by rw [hV]; exact row_at _ (by simp)
  have k0 := q0.c
  have Q0 := Lib.hid q0
  have QR := Lib.hid qR
  have ZV := Lib.hid zV
  have HV := Lib.hid hV
  have hrV := hr.below bV
  have HC := Lib.hid (refCheck7_any A n c b k V hn hb hk)
  have Q1 := Lib.hid q1
  clear q1
  clear hV zV q0 qR
  rw [h] at HC
  have i1 : decide (i < 0) = true := decide_eq_true hi0
  clear h
  go_enter Try.func23, Try.ntmps23
  go_wp2_with fail
  rw [← HV.out]
  refine HC.out.mono ?_
  rintro e w2 ⟨rfl, hb2⟩
  have g0 := (hb2.block _ (by have := ZV.out; omega)).trans Q0.out
  have g2 := (hb2.block _ (by have := ZV.out; omega)).trans QR.out
  have k0 := (cell_of_row _ _ 0 _ _ _ g0).trans (show (#[.slice A n c] : Array Value)[0]? = some (.slice A n c) from rfl)
  have k2 := (cell_of_row _ _ 0 _ _ _ g2).trans (show (#[.slice none 0 0] : Array Value)[0]? = some (.slice none 0 0) from rfl)
  have u2 := frozen_of_row _ _ 0 _ _ g2
  have GR := Lib.hid g2
  clear g0 g2
  go_wp2_with fail
  have B3 := below_then bV hb2
  have hrow2 : (w2.setCell ⟨w.heap.size + 2, 0, none⟩ (.slice A n c)).heap[w.heap.size + 2]? = some (.cells #[.slice A n c] 28 (0, 0)) := (setc_rowT GR.out).trans rfl
  have hl := run_loadVar_row (P := Try.prog) _ _ _ 28 _ _ _ hrow2 Try.underlying28 rfl (by kernel_rfl)
  refine bodyPost_ret (v := .tuple #[.agg #[.slice A n c], .int .i64 2]) (by simp [results, Try.results23, asAddr, hl]) rfl ?_
  exact ⟨A, c, rfl, rd_far (hr.below B3) _ _ (fun hn0 a e => by have := hr.lt hn0 a e; show a.block ≠ w.heap.size + 2; omega), .inl rfl, (B3).setCell (p := ⟨w.heap.size + 2, 0, none⟩) (by simp) _⟩
theorem refSetDesc7_high (A : Option Addr) (n c : Nat) (xs : List UInt8) (b k i : Int) (d0 d1 d2 d3 : Nat) (w : World) (hr : RdB w A n c xs) (hb : -9223372036854775808 ≤ b ∧ b ≤ 9223372036854775807) (hk : -9223372036854775808 ≤ k ∧ k ≤ 9223372036854775807) (hi : -9223372036854775808 ≤ i ∧ i ≤ 9223372036854775807) (h : rgCheck n b k = true) (hi0 : ¬ i < 0) (hi1 : k ≤ i) :
    Calls Try.prog 23 #[.agg #[.slice A n c], .int .i64 b, .int .i64 k, .int .i64 i, .agg #[.int .u64 (d0 : Int), .int .u32 (d1 : Int), .int .u16 (d2 : Int), .int .u16 (d3 : Int)]] w (RetMmE w A n xs 2) := by
  have hn := hr.n63
  have hL := hr.2.1
  obtain ⟨V, hV⟩ : ∃ V, V = ((w.alloc (.cells #[.slice A n c] 28)).alloc (.cells #[.int .u64 (d0 : Int), .int .u32 (d1 : Int), .int .u16 (d2 : Int), .int .u16 (d3 : Int)] 44)).alloc (.cells #[.slice none 0 0] 28) := ⟨_, rfl⟩
  have bV : Below w.heap.size w V := by rw [hV]; exact (((below_self w).alloc (Nat.le_refl _) _).alloc (by simp) _).alloc (by simp; omega) _
  have zV : V.heap.size = w.heap.size + 3 := by rw [hV]; simp
  have q0 : BoxAt V w.heap.size 28 (.slice A n c) := by rw [hV]; exact row_old _ (row_old _ (row_at _ rfl))
  have q1 : V.heap[w.heap.size + 1]? = some (.cells #[.int .u64 (d0 : Int), .int .u32 (d1 : Int), .int .u16 (d2 : Int), .int .u16 (d3 : Int)] 44 (0, 0)) := by rw [hV]; exact row_old _ (row_at _ (by simp))
  have qR : BoxAt V (w.heap.size + 2) 28 (.slice none 0 0) := by rw [hV]; exact row_at _ (by simp)
  have k0 := q0.c
  have Q0 := Lib.hid q0
  have QR := Lib.hid qR
  have ZV := Lib.hid zV
  have HV := Lib.hid hV
  have hrV := hr.below bV
  have HC := Lib.hid (refCheck7_any A n c b k V hn hb hk)
  have Q1 := Lib.hid q1
  clear q1
  clear hV zV q0 qR
  rw [h] at HC
  have i1 : decide (i < 0) = false := decide_eq_false hi0
  have i2 : decide (k ≤ i) = true := decide_eq_true hi1
  clear h
  go_enter Try.func23, Try.ntmps23
  go_wp2_with fail
  rw [← HV.out]
  refine HC.out.mono ?_
  rintro e w2 ⟨rfl, hb2⟩
  have g0 := (hb2.block _ (by have := ZV.out; omega)).trans Q0.out
  have g2 := (hb2.block _ (by have := ZV.out; omega)).trans QR.out
  have k0 := (cell_of_row _ _ 0 _ _ _ g0).trans (show (#[.slice A n c] : Array Value)[0]? = some (.slice A n c) from rfl)
  have k2 := (cell_of_row _ _ 0 _ _ _ g2).trans (show (#[.slice none 0 0] : Array Value)[0]? = some (.slice none 0 0) from rfl)
  have u2 := frozen_of_row _ _ 0 _ _ g2
  have GR := Lib.hid g2
  clear g0 g2
  go_wp2_with fail
  have B3 := below_then bV hb2
  have hrow2 : (w2.setCell ⟨w.heap.size + 2, 0, none⟩ (.slice A n c)).heap[w.heap.size + 2]? = some (.cells #[.slice A n c] 28 (0, 0)) := (setc_rowT GR.out).trans rfl
  have hl := run_loadVar_row (P := Try.prog) _ _ _ 28 _ _ _ hrow2 Try.underlying28 rfl (by kernel_rfl)
  refine bodyPost_ret (v := .tuple #[.agg #[.slice A n c], .int .i64 2]) (by simp [results, Try.results23, asAddr, hl]) rfl ?_
  exact ⟨A, c, rfl, rd_far (hr.below B3) _ _ (fun hn0 a e => by have := hr.lt hn0 a e; show a.block ≠ w.heap.size + 2; omega), .inl rfl, (B3).setCell (p := ⟨w.heap.size + 2, 0, none⟩) (by simp) _⟩
theorem refSetDesc7_in (A : Option Addr) (n c : Nat) (xs : List UInt8) (b k i : Int) (d0 d1 d2 d3 : Nat) (w : World) (hr : RdB w A n c xs) (hb : -9223372036854775808 ≤ b ∧ b ≤ 9223372036854775807) (hk : -9223372036854775808 ≤ k ∧ k ≤ 9223372036854775807) (hi : -9223372036854775808 ≤ i ∧ i ≤ 9223372036854775807) (hd : (⟨d0, d1, d2, d3⟩ : Dsc).ok) (h : rgCheck n b k = true) (hik : 0 ≤ i ∧ i < k) :
    Calls Try.prog 23 #[.agg #[.slice A n c], .int .i64 b, .int .i64 k, .int .i64 i, .agg #[.int .u64 (d0 : Int), .int .u32 (d1 : Int), .int .u16 (d2 : Int), .int .u16 (d3 : Int)]] w (RetMmE w A n (rgSetD xs (b + 16 * i) ⟨d0, d1, d2, d3⟩) 0) := by
  obtain ⟨h0, h1, h2, h3⟩ : d0 < 18446744073709551616 ∧ d1 < 4294967296 ∧ d2 < 65536 ∧ d3 < 65536 := hd
  have hn := hr.n63
  have hL := hr.2.1
  obtain ⟨V, hV⟩ : ∃ V, V = ((w.alloc (.cells #[.slice A n c] 28)).alloc (.cells #[.int .u64 (d0 : Int), .int .u32 (d1 : Int), .int .u16 (d2 : Int), .int .u16 (d3 : Int)] 44)).alloc (.cells #[.slice none 0 0] 28) := ⟨_, rfl⟩
  have bV : Below w.heap.size w V := by rw [hV]; exact (((below_self w).alloc (Nat.le_refl _) _).alloc (by simp) _).alloc (by simp; omega) _
  have zV : V.heap.size = w.heap.size + 3 := by rw [hV]; simp
  have q0 : BoxAt V w.heap.size 28 (.slice A n c) := by rw [hV]; exact row_old _ (row_old _ (row_at _ rfl))
  have q1 : V.heap[w.heap.size + 1]? = some (.cells #[.int .u64 (d0 : Int), .int .u32 (d1 : Int), .int .u16 (d2 : Int), .int .u16 (d3 : Int)] 44 (0, 0)) := by rw [hV]; exact row_old _ (row_at _ (by simp))
  have qR : BoxAt V (w.heap.size + 2) 28 (.slice none 0 0) := by rw [hV]; exact row_at _ (by simp)
  have k0 := q0.c
  have Q0 := Lib.hid q0
  have QR := Lib.hid qR
  have ZV := Lib.hid zV
  have HV := Lib.hid hV
  have hrV := hr.below bV
  have HC := Lib.hid (refCheck7_any A n c b k V hn hb hk)
  have Q1 := Lib.hid q1
  clear q1
  clear hV zV q0 qR
  rw [h] at HC
  obtain ⟨o1, o2, o3, o4, o5, o6, o7⟩ := rgCheck_ok h
  have hn0 : 0 < n := by omega
  have hold := hr.old hn0
  have i1 : decide (i < 0) = false := decide_eq_false (by omega)
  have i2 : decide (k ≤ i) = false := decide_eq_false (by omega)
  obtain ⟨p, hp⟩ : ∃ p, p = 16 * i := ⟨_, rfl⟩
  obtain ⟨s, hs⟩ : ∃ s, s = b + p := ⟨_, rfl⟩
  obtain ⟨s8, hs8⟩ : ∃ t, t = s + 8 := ⟨_, rfl⟩
  obtain ⟨s12, hs12⟩ : ∃ t, t = s + 12 := ⟨_, rfl⟩
  obtain ⟨s14, hs14⟩ : ∃ t, t = s + 14 := ⟨_, rfl⟩
  unfold rgSetD
  dsimp only
  rw [show b + 16 * i = s by omega, show s + 8 = s8 by omega, show s8 + 4 = s12 by omega, show s12 + 2 = s14 by omega]
  have hs0 : 0 ≤ s ∧ s ≤ 9000 := by omega
  have hp1 : 16 * i = p := hp.symm
  have e0 : b + p = s := hs.symm
  have e8 : s + 8 = s8 := hs8.symm
  have e12 : s + 12 = s12 := hs12.symm
  have e14 : s + 14 = s14 := hs14.symm
  have wp : IntKind.i64.wrap p = p := wi64i (by omega)
  have ws : IntKind.i64.wrap s = s := wi64i (by omega)
  have ws8 : IntKind.i64.wrap s8 = s8 := wi64i (by omega)
  have ws12 : IntKind.i64.wrap s12 = s12 := wi64i (by omega)
  have ws14 : IntKind.i64.wrap s14 = s14 := wi64i (by omega)
  have wd1 := w64n (k := d1) (by omega)
  have wd2 := w64n (k := d2) (by omega)
  have wd3 := w64n (k := d3) (by omega)
  have HP0 := Lib.hid (fun A' c' W (h : RdB W A' n c' xs) => refPut7_any A' n c' xs s 8 d0 W h hn0 (by omega) (by omega) (by omega))
  obtain ⟨ys0, hys0⟩ : ∃ ys, memPutN xs s 8 d0 = ys := ⟨_, rfl⟩
  rw [hys0] at HP0 ⊢
  have HP1 := Lib.hid (fun A' c' W (h : RdB W A' n c' ys0) => refPut7_any A' n c' ys0 s8 4 d1 W h hn0 (by omega) (by omega) (by omega))
  obtain ⟨ys1, hys1⟩ : ∃ ys, memPutN ys0 s8 4 d1 = ys := ⟨_, rfl⟩
  rw [hys1] at HP1 ⊢
  have HP2 := Lib.hid (fun A' c' W (h : RdB W A' n c' ys1) => refPut7_any A' n c' ys1 s12 2 d2 W h hn0 (by omega) (by omega) (by omega))
  obtain ⟨ys2, hys2⟩ : ∃ ys, memPutN ys1 s12 2 d2 = ys := ⟨_, rfl⟩
  rw [hys2] at HP2 ⊢
  have HP3 := Lib.hid (fun A' c' W (h : RdB W A' n c' ys2) => refPut7_any A' n c' ys2 s14 2 d3 W h hn0 (by omega) (by omega) (by omega))
  obtain ⟨ys3, hys3⟩ : ∃ ys, memPutN ys2 s14 2 d3 = ys := ⟨_, rfl⟩
  rw [hys3] at HP3 ⊢
  clear hys0 hys1 hys2 hys3
  clear hp hs hs8 hs12 hs14 o4 h
  go_enter Try.func23, Try.ntmps23
  go_wp2_with fail
  rw [← HV.out]
  refine HC.out.mono ?_
  rintro e w2 ⟨rfl, hb2⟩
  have bx0 : BoxAt w2 w.heap.size 28 (.slice A n c) := (hb2.block _ (by have := ZV.out; omega)).trans Q0.out
  have r0 := hrV.below hb2
  have o0 : Off A w.heap.size := fun a e => by have := hold a e; omega
  have BT0 : But w.heap.size V.heap.size V w2 := but_of hb2
  have BL0 : Below w.heap.size V w2 := hb2.mono (by have := ZV.out; omega)
  have fa0 : A = A ∨ ∀ a, A = some a → V.heap.size ≤ a.block := .inl rfl
  have km := bx0.c
  have kd := BT0.cell (j := w.heap.size + 1) (i := 0) (by have := ZV.out; omega) (by omega) ((cell_of_row _ _ 0 _ _ _ Q1.out).trans (show (#[.int .u64 (d0 : Int), .int .u32 (d1 : Int), .int .u16 (d2 : Int), .int .u16 (d3 : Int)] : Array Value)[0]? = some (.int .u64 (d0 : Int)) from rfl))
  go_wp2_with fail
  refine (HP0.out A c _ r0).mono ?_
  rintro e w3 ⟨A1, c1, rfl, rr1, far1, hb1⟩
  clear km kd
  obtain ⟨m1, bx1, r1, o1, bt1, bl1⟩ := mm_step (g := w.heap.size) bx0 hb1 rr1 far1 o0
  have km := m1.c
  have uf := m1.f
  have BT1 := BT0.trans (bt1.mono BT0.size)
  have BL1 := BL0.trans bl1
  have fa1 : A1 = A ∨ ∀ a, A1 = some a → V.heap.size ≤ a.block := by
    rcases far1 with rfl | h
    · first | exact .inl rfl | exact fa0
    · exact .inr fun a e => by have := h a e; have := BT0.size; simp at *; omega
  obtain ⟨U1, hU1⟩ : ∃ V, V = w3.setCell ⟨w.heap.size, 0, none⟩ (.slice A1 n c1) := ⟨_, rfl⟩
  have km2 := bx1.c
  have kd := BT1.cell (j := w.heap.size + 1) (i := 1) (by have := ZV.out; omega) (by omega) ((cell_of_row _ _ 1 _ _ _ Q1.out).trans (show (#[.int .u64 (d0 : Int), .int .u32 (d1 : Int), .int .u16 (d2 : Int), .int .u16 (d3 : Int)] : Array Value)[1]? = some (.int .u32 (d1 : Int)) from rfl))
  rw [← hU1] at bx1 r1 BT1 BL1
  have HU1 := Lib.hid hU1
  clear hU1 bt1 bl1
  go_wp2_with fail
  rw [← HU1.out]
  refine (HP1.out A1 c1 _ r1).mono ?_
  rintro e w4 ⟨A2, c2, rfl, rr2, far2, hb2⟩
  clear km kd km2 uf
  obtain ⟨m2, bx2, r2, o2, bt2, bl2⟩ := mm_step (g := w.heap.size) bx1 hb2 rr2 far2 o1
  have km := m2.c
  have uf := m2.f
  have BT2 := BT1.trans (bt2.mono BT1.size)
  have BL2 := BL1.trans bl2
  have fa2 : A2 = A ∨ ∀ a, A2 = some a → V.heap.size ≤ a.block := by
    rcases far2 with rfl | h
    · first | exact .inl rfl | exact fa1
    · exact .inr fun a e => by have := h a e; have := BT1.size; simp at *; omega
  obtain ⟨U2, hU2⟩ : ∃ V, V = w4.setCell ⟨w.heap.size, 0, none⟩ (.slice A2 n c2) := ⟨_, rfl⟩
  have km2 := bx2.c
  have kd := BT2.cell (j := w.heap.size + 1) (i := 2) (by have := ZV.out; omega) (by omega) ((cell_of_row _ _ 2 _ _ _ Q1.out).trans (show (#[.int .u64 (d0 : Int), .int .u32 (d1 : Int), .int .u16 (d2 : Int), .int .u16 (d3 : Int)] : Array Value)[2]? = some (.int .u16 (d2 : Int)) from rfl))
  rw [← hU2] at bx2 r2 BT2 BL2
  have HU2 := Lib.hid hU2
  clear hU2 bt2 bl2
  go_wp2_with fail
  rw [← HU2.out]
  refine (HP2.out A2 c2 _ r2).mono ?_
  rintro e w5 ⟨A3, c3, rfl, rr3, far3, hb3⟩
  clear km kd km2 uf
  obtain ⟨m3, bx3, r3, o3, bt3, bl3⟩ := mm_step (g := w.heap.size) bx2 hb3 rr3 far3 o2
  have km := m3.c
  have uf := m3.f
  have BT3 := BT2.trans (bt3.mono BT2.size)
  have BL3 := BL2.trans bl3
  have fa3 : A3 = A ∨ ∀ a, A3 = some a → V.heap.size ≤ a.block := by
    rcases far3 with rfl | h
    · first | exact .inl rfl | exact fa2
    · exact .inr fun a e => by have := h a e; have := BT2.size; simp at *; omega
  obtain ⟨U3, hU3⟩ : ∃ V, V = w5.setCell ⟨w.heap.size, 0, none⟩ (.slice A3 n c3) := ⟨_, rfl⟩
  have km2 := bx3.c
  have kd := BT3.cell (j := w.heap.size + 1) (i := 3) (by have := ZV.out; omega) (by omega) ((cell_of_row _ _ 3 _ _ _ Q1.out).trans (show (#[.int .u64 (d0 : Int), .int .u32 (d1 : Int), .int .u16 (d2 : Int), .int .u16 (d3 : Int)] : Array Value)[3]? = some (.int .u16 (d3 : Int)) from rfl))
  rw [← hU3] at bx3 r3 BT3 BL3
  have HU3 := Lib.hid hU3
  clear hU3 bt3 bl3
  go_wp2_with fail
  rw [← HU3.out]
  refine (HP3.out A3 c3 _ r3).mono ?_
  rintro e w6 ⟨A4, c4, rfl, rr4, far4, hb4⟩
  clear km kd km2 uf
  have fa4 : A4 = A ∨ ∀ a, A4 = some a → V.heap.size ≤ a.block := by
    rcases far4 with rfl | h
    · first | exact .inl rfl | exact fa3
    · exact .inr fun a e => by have := h a e; have := BT3.size; simp at *; omega
  have g2 := (hb4.block (w.heap.size + 2) (by have := ZV.out; have := BT3.size; omega)).trans ((BT3.block _ (by have := ZV.out; omega) (by omega)).trans QR.out)
  have k2 := (cell_of_row _ _ 0 _ _ _ g2).trans (show (#[.slice none 0 0] : Array Value)[0]? = some (.slice none 0 0) from rfl)
  have u2 := frozen_of_row _ _ 0 _ _ g2
  have GR := Lib.hid g2
  clear g2
  have BL9 := bV.trans (BL3.trans (hb4.mono (by have := ZV.out; have := BT3.size; omega)))
  have off9 : Off A4 (w.heap.size + 2) := fun a e => by
    have := ZV.out
    rcases fa4 with rfl | h
    · have := hold a e; omega
    · have := h a e; omega
  go_wp2_with fail
  have hrow2 : (w6.setCell ⟨w.heap.size + 2, 0, none⟩ (.slice A4 n c4)).heap[w.heap.size + 2]? = some (.cells #[.slice A4 n c4] 28 (0, 0)) := (setc_rowT GR.out).trans rfl
  have hl := run_loadVar_row (P := Try.prog) _ _ _ 28 _ _ _ hrow2 Try.underlying28 rfl (by kernel_rfl)
  refine bodyPost_ret (v := .tuple #[.agg #[.slice A4 n c4], .int .i64 0]) (by simp [results, Try.results23, asAddr, hl]) rfl ?_
  exact ⟨A4, c4, rfl, rdB_off rr4 off9 (by simp [World.setCell]) (fun j hj => Below.heap_setCell _ _ _ _ hj), fa4.imp id (fun h a e => by have := h a e; have := ZV.out; omega), (BL9).setCell (p := ⟨w.heap.size + 2, 0, none⟩) (by simp) _⟩
theorem refSetDesc7_any (A : Option Addr) (n c : Nat) (xs : List UInt8) (b k i : Int) (d : Dsc) (w : World) (hr : RdB w A n c xs) (hb : -9223372036854775808 ≤ b ∧ b ≤ 9223372036854775807) (hk : -9223372036854775808 ≤ k ∧ k ≤ 9223372036854775807) (hi : -9223372036854775808 ≤ i ∧ i ≤ 9223372036854775807) (hd : d.ok) :
    Calls Try.prog 23 #[.agg #[.slice A n c], .int .i64 b, .int .i64 k, .int .i64 i, .agg d.v] w (RetMmE w A n (rgSetDesc xs b k i d) (rgDescE n b k i)) := by
  obtain ⟨d0, d1, d2, d3⟩ := d
  unfold rgSetDesc
  rw [hr.2.1]
  by_cases h : rgCheck n b k = true
  · by_cases hik : 0 ≤ i ∧ i < k
    · have hE : rgDescE n b k i = 0 := by unfold rgDescE; rw [if_pos h, if_pos hik]
      rw [hE, if_pos rfl]
      exact refSetDesc7_in A n c xs b k i _ _ _ _ w hr hb hk hi hd h hik
    · have hE : rgDescE n b k i = 2 := by unfold rgDescE; rw [if_pos h, if_neg hik]
      rw [hE, if_neg (by decide)]
      by_cases hi0 : i < 0
      · exact refSetDesc7_low A n c xs b k i _ _ _ _ w hr hb hk hi h hi0
      · exact refSetDesc7_high A n c xs b k i _ _ _ _ w hr hb hk hi h hi0 (by omega)
  · have h : rgCheck n b k = false := by simpa using h
    have hE : rgDescE n b k i = 70 := by unfold rgDescE; rw [h]; rfl
    rw [hE, if_neg (by decide)]
    exact refSetDesc7_no A n c xs b k i _ _ _ _ w hr hb hk hi h
theorem refOffer7_no (A : Option Addr) (n c : Nat) (xs : List UInt8) (b k : Int) (i : Nat) (fi : Int) (w : World) (hr : RdB w A n c xs) (hb : -9223372036854775808 ≤ b ∧ b ≤ 9223372036854775807) (hk : -9223372036854775808 ≤ k ∧ k ≤ 9223372036854775807) (hi : i < 65536) (hfi : -9223372036854775808 ≤ fi ∧ fi ≤ 9223372036854775807) (h : rgCheck n b k = false) :
    Calls Try.prog 25 #[.agg #[.slice A n c], .int .i64 b, .int .i64 k, .int .u16 (i : Int), .int .i64 fi] w (RetMmE w A n xs 70) := by
  have hn := hr.n63
  have hL := hr.2.1
  obtain ⟨V, hV⟩ : ∃ V, V = (w.alloc (.cells #[.slice A n c] 28)).alloc (.cells #[.slice none 0 0] 28) := ⟨_, rfl⟩
  have bV : Below w.heap.size w V := by rw [hV]; exact ((below_self w).alloc (Nat.le_refl _) _).alloc (by simp) _
  have zV : V.heap.size = w.heap.size + 2 := by rw [hV]; simp
  have q0 : BoxAt V w.heap.size 28 (.slice A n c) := by rw [hV]; exact row_old _ (row_at _ rfl)
  have qR : BoxAt V (w.heap.size + 1) 28 (.slice none 0 0) := by rw [hV]; exact row_at _ (by simp)
  have k0 := q0.c
  have Q0 := Lib.hid q0
  have QR := Lib.hid qR
  have ZV := Lib.hid zV
  have HV := Lib.hid hV
  have hrV := hr.below bV
  have HC := Lib.hid (refCheck7_any A n c b k V hn hb hk)
  clear hV zV q0 qR
  rw [h] at HC
  clear h
  go_enter Try.func25, Try.ntmps25
  go_wp2_with fail
  rw [← HV.out]
  refine HC.out.mono ?_
  rintro e w2 ⟨rfl, hb2⟩
  have g0 := (hb2.block _ (by have := ZV.out; omega)).trans Q0.out
  have g2 := (hb2.block _ (by have := ZV.out; omega)).trans QR.out
  have k0 := (cell_of_row _ _ 0 _ _ _ g0).trans (show (#[.slice A n c] : Array Value)[0]? = some (.slice A n c) from rfl)
  have k2 := (cell_of_row _ _ 0 _ _ _ g2).trans (show (#[.slice none 0 0] : Array Value)[0]? = some (.slice none 0 0) from rfl)
  have u2 := frozen_of_row _ _ 0 _ _ g2
  have GR := Lib.hid g2
  clear g0 g2
  go_wp2_with fail
  have B3 := below_then bV hb2
  have hrow2 : (w2.setCell ⟨w.heap.size + 1, 0, none⟩ (.slice A n c)).heap[w.heap.size + 1]? = some (.cells #[.slice A n c] 28 (0, 0)) := (setc_rowT GR.out).trans rfl
  have hl := run_loadVar_row (P := Try.prog) _ _ _ 28 _ _ _ hrow2 Try.underlying28 rfl (by kernel_rfl)
  refine bodyPost_ret (v := .tuple #[.agg #[.slice A n c], .int .i64 70]) (by simp [results, Try.results25, asAddr, hl]) rfl ?_
  exact ⟨A, c, rfl, rd_far (hr.below B3) _ _ (fun hn0 a e => by have := hr.lt hn0 a e; show a.block ≠ w.heap.size + 1; omega), .inl rfl, (B3).setCell (p := ⟨w.heap.size + 1, 0, none⟩) (by simp) _⟩
theorem refOffer7_in (A : Option Addr) (n c : Nat) (xs : List UInt8) (b k : Int) (i : Nat) (fi : Int) (w : World) (hr : RdB w A n c xs) (hb : -9223372036854775808 ≤ b ∧ b ≤ 9223372036854775807) (hk : -9223372036854775808 ≤ k ∧ k ≤ 9223372036854775807) (hi : i < 65536) (hfi : -9223372036854775808 ≤ fi ∧ fi ≤ 9223372036854775807) (h : rgCheck n b k = true) :
    Calls Try.prog 25 #[.agg #[.slice A n c], .int .i64 b, .int .i64 k, .int .u16 (i : Int), .int .i64 fi] w (RetMmE w A n (rgOff xs (b + (16 * k + rgPlace k i 2)) (b + (16 * k + 2)) (fi % 18446744073709551616).toNat (i + 1)) 0) := by
  have hn := hr.n63
  have hL := hr.2.1
  obtain ⟨V, hV⟩ : ∃ V, V = (w.alloc (.cells #[.slice A n c] 28)).alloc (.cells #[.slice none 0 0] 28) := ⟨_, rfl⟩
  have bV : Below w.heap.size w V := by rw [hV]; exact ((below_self w).alloc (Nat.le_refl _) _).alloc (by simp) _
  have zV : V.heap.size = w.heap.size + 2 := by rw [hV]; simp
  have q0 : BoxAt V w.heap.size 28 (.slice A n c) := by rw [hV]; exact row_old _ (row_at _ rfl)
  have qR : BoxAt V (w.heap.size + 1) 28 (.slice none 0 0) := by rw [hV]; exact row_at _ (by simp)
  have k0 := q0.c
  have Q0 := Lib.hid q0
  have QR := Lib.hid qR
  have ZV := Lib.hid zV
  have HV := Lib.hid hV
  have hrV := hr.below bV
  have HC := Lib.hid (refCheck7_any A n c b k V hn hb hk)
  clear hV zV q0 qR
  rw [h] at HC
  obtain ⟨o1, o2, o3, o4, o5, o6, o7⟩ := rgCheck_ok h
  have hn0 : 0 < n := by omega
  have hold := hr.old hn0
  obtain ⟨m, hm⟩ : ∃ m : Nat, k = (m : Int) := ⟨k.toNat, by omega⟩
  obtain ⟨r, hr2⟩ : ∃ r, r = i % m := ⟨_, rfl⟩
  have hrm : r < m := by rw [hr2]; exact Nat.mod_lt _ (by omega)
  have hrp : rgPlace k i 2 = 4 + 2 * (r : Int) := by unfold rgPlace; rw [hr2, hm]; simp
  rw [hrp]
  have r1 : (i : Int) % k = (r : Int) := by rw [hm, hr2]; rfl
  have r2 : (i : Int).tmod k = (r : Int) := by rw [Int.tmod_eq_emod_of_nonneg (by omega)]; exact r1
  have kz : ¬ (k = 0) := by omega
  have wi := wi64n (k := i) (by omega)
  have hkn := (of_decide_eq_true h).2.1
  have hbk := rgBack_le hkn
  obtain ⟨q, hq⟩ : ∃ q, q = 16 * k := ⟨_, rfl⟩
  obtain ⟨y, hy⟩ : ∃ y, y = 2 * (r : Int) := ⟨_, rfl⟩
  obtain ⟨t, ht⟩ : ∃ t, t = b + q := ⟨_, rfl⟩
  obtain ⟨u, hu⟩ : ∃ u, u = t + 4 := ⟨_, rfl⟩
  obtain ⟨s, hs⟩ : ∃ s, s = u + y := ⟨_, rfl⟩
  obtain ⟨s2, hs2⟩ : ∃ s2, s2 = t + 2 := ⟨_, rfl⟩
  have s0 : 2 * (r : Int) = y := hy.symm
  have s1 : b + q = t := ht.symm
  have e2 : t + 4 = u := hu.symm
  have e3 : u + y = s := hs.symm
  have e4 : t + 2 = s2 := hs2.symm
  have hs0 : 0 ≤ s ∧ s ≤ 9000 := by omega
  have hs3 : 0 ≤ s2 ∧ s2 ≤ 9000 := by omega
  have wr := wi64n (k := r) (by omega)
  have wy : IntKind.i64.wrap y = y := wi64i (by omega)
  have wt : IntKind.i64.wrap t = t := wi64i (by omega)
  have wu : IntKind.i64.wrap u = u := wi64i (by omega)
  have ws : IntKind.i64.wrap s = s := wi64i (by omega)
  have ws2 : IntKind.i64.wrap s2 = s2 := wi64i (by omega)
  obtain ⟨j, hj⟩ : ∃ j, j = i + 1 := ⟨_, rfl⟩
  have wii := w64n (k := i) (by omega)
  have ej : (i : Int) + 1 = (j : Int) := by omega
  have wj := w64n (k := j) (by omega)
  obtain ⟨x, hx⟩ : ∃ x, x = (fi % 18446744073709551616).toNat := ⟨_, rfl⟩
  have hx6 : x < 18446744073709551616 := by omega
  have wx : IntKind.u64.wrap fi = (x : Int) := by rw [IntKind.wrap_u64]; omega
  rw [← hx, show b + (16 * k + (4 + 2 * (r : Int))) = s by omega, show b + (16 * k + 2) = s2 by omega, ← hj]
  unfold rgOff
  have HP0 := Lib.hid (fun A' c' W (h : RdB W A' n c' xs) => refPut7_any A' n c' xs s 2 x W h hn0 (by omega) (by omega) (by omega))
  obtain ⟨ys0, hys0⟩ : ∃ ys, memPutN xs s 2 x = ys := ⟨_, rfl⟩
  rw [hys0] at HP0 ⊢
  have HP1 := Lib.hid (fun A' c' W (h : RdB W A' n c' ys0) => refPut7_any A' n c' ys0 s2 2 j W h hn0 (by omega) (by omega) (by omega))
  obtain ⟨ys1, hys1⟩ : ∃ ys, memPutN ys0 s2 2 j = ys := ⟨_, rfl⟩
  rw [hys1] at HP1 ⊢
  clear hys0 hys1
  have HK := Lib.hid hkn
  have HQ := Lib.hid hq
  clear hq hy ht hu hs hs2 hj hx hm hr2 hrp hkn hbk o4 o7 h
  go_enter Try.func25, Try.ntmps25
  go_wp2_with fail
  rw [← HV.out]
  refine HC.out.mono ?_
  rintro e w2 ⟨rfl, hb2⟩
  have bx0 : BoxAt w2 w.heap.size 28 (.slice A n c) := (hb2.block _ (by have := ZV.out; omega)).trans Q0.out
  have r0 := hrV.below hb2
  have o0 : Off A w.heap.size := fun a e => by have := hold a e; omega
  have BT0 : But w.heap.size V.heap.size V w2 := but_of hb2
  have BL0 : Below w.heap.size V w2 := hb2.mono (by have := ZV.out; omega)
  have fa0 : A = A ∨ ∀ a, A = some a → V.heap.size ≤ a.block := .inl rfl
  have km := bx0.c
  have hl1 : w.heap.size < w.heap.size + 1 := by omega
  go_wp2_with fail
  have HX := (Below.refl w2.heap.size w2).drew
  refine wp_region_last (S := fun w' => Below w2.heap.size w2 w') 15 #[true, true, true, true, true, true, true, true, true, true, true, true, true, true, true, false] [(0, true), (1, true), (2, true), (6, true), (7, true), (8, true), (9, true), (10, true), (12, true), (13, true), (3, false), (4, true), (5, true), (11, true), (14, false)] (by kernel_rfl) (by kernel_rfl) (fun _ _ d _ _ h => by cases d <;> exact h) ((Below.refl _ w2).drew) ?_
  iterate 10 (refine seg_take (v := ?_) rfl (Or.inl ⟨by rfl, ?_⟩) ?_; rotate_left; (focus (intro w' hw'; have ja := (hw'.cell (p := ⟨w.heap.size, 0, none⟩) (by have := ZV.out; have := hb2.size; show w.heap.size < _; omega)).trans km; go_simp <;> with_reducible rfl)); try simp only [Act.put, List.setIfInBounds_toArray, List.set_cons_zero, List.set_cons_succ])
  refine seg_run rfl (fun K hK => ?_)
  go_simp
  refine (refFirst7_any k _ HK.out).mono ?_
  rintro e_ w3 ⟨rfl, rfl⟩
  rw [← HQ.out]
  refine hK.out _ _ (HX) ?_
  clear hK
  try simp only [Act.put, List.setIfInBounds_toArray, List.set_cons_zero, List.set_cons_succ]
  iterate 3 (refine seg_take (v := ?_) rfl (Or.inl ⟨by rfl, ?_⟩) ?_; rotate_left; (focus (intro w' hw'; have ja := (hw'.cell (p := ⟨w.heap.size, 0, none⟩) (by have := ZV.out; have := hb2.size; show w.heap.size < _; omega)).trans km; go_simp <;> with_reducible rfl)); try simp only [Act.put, List.setIfInBounds_toArray, List.set_cons_zero, List.set_cons_succ])
  refine seg_run rfl (fun K hK => ?_)
  go_simp
  refine (HP0.out A c _ (r0.below HX)).mono ?_
  rintro e_ w3 ⟨A1, c1, rfl, rr1, far1, hb1⟩
  refine hK.out _ _ (below_then HX hb1) ?_
  clear hK
  try simp only [Act.put, List.setIfInBounds_toArray, List.set_cons_zero, List.set_cons_succ]
  refine seg_done ?_
  refine last_run rfl (fun K hK => ?_)
  go_simp
  have m1 : BoxAt w3 w.heap.size 28 (.slice A n c) := ((below_then HX hb1).block _ (by have := ZV.out; have := hb2.size; omega)).trans bx0
  have mk := m1.c
  have mf := m1.f
  go_simp
  refine hK.out _ _ ?_
  clear hK
  try simp only [Act.put, List.setIfInBounds_toArray, List.set_cons_zero, List.set_cons_succ]
  clear m1
  have hb1 := below_then HX hb1
  have far1 : A1 = A ∨ ∀ a, A1 = some a → w2.heap.size ≤ a.block := far1
  obtain ⟨m1, bx1, r1, o1, bt1, bl1⟩ := mm_step (g := w.heap.size) bx0 hb1 rr1 far1 o0
  have km := m1.c
  have uf := m1.f
  have BT1 := BT0.trans (bt1.mono BT0.size)
  have BL1 := BL0.trans bl1
  have fa1 : A1 = A ∨ ∀ a, A1 = some a → V.heap.size ≤ a.block := by
    rcases far1 with rfl | h
    · first | exact .inl rfl | exact fa0
    · exact .inr fun a e => by have := h a e; have := BT0.size; simp at *; omega
  obtain ⟨U1, hU1⟩ : ∃ V, V = w3.setCell ⟨w.heap.size, 0, none⟩ (.slice A1 n c1) := ⟨_, rfl⟩
  have km2 := bx1.c
  rw [← hU1] at bx1 r1 BT1 BL1
  have HU1 := Lib.hid hU1
  clear hU1 bt1 bl1
  go_wp2_with fail
  rw [← HU1.out]
  clear km km2 uf
  have hlR : w.heap.size < w.heap.size + 1 := by omega
  have kmU := bx1.c
  have HY := (Below.refl U1.heap.size U1).drew
  have HYR : Below (w.heap.size + 1) U1 U1.drew := HY.mono (by have := ZV.out; have := BT1.size; omega)
  refine wp_region_plan (S := fun w' => Below (w.heap.size + 1) U1 w') [(0, true), (1, true), (2, true), (6, true), (7, true), (8, true), (3, false), (4, true), (5, true), (9, false), (10, false), (11, true)] (by kernel_rfl) (by kernel_rfl) (fun _ _ d _ _ h => by cases d <;> exact h) (HYR) ?_
  iterate 6 (refine plan_take (v := ?_) rfl (Or.inl ⟨by rfl, ?_⟩) ?_; rotate_left; (focus (intro w' hw'; have ja := (hw'.cell (p := ⟨w.heap.size, 0, none⟩) hlR).trans kmU; go_simp <;> with_reducible rfl)); try simp only [Act.put, List.setIfInBounds_toArray, List.set_cons_zero, List.set_cons_succ])
  refine plan_run rfl (fun K hK => ?_)
  go_simp
  refine (refFirst7_any k _ HK.out).mono ?_
  rintro e_ wf ⟨rfl, rfl⟩
  rw [← HQ.out]
  refine hK.out _ _ (HYR) ?_
  clear hK
  try simp only [Act.put, List.setIfInBounds_toArray, List.set_cons_zero, List.set_cons_succ]
  iterate 2 (refine plan_take (v := ?_) rfl (Or.inl ⟨by rfl, ?_⟩) ?_; rotate_left; (focus (intro w' hw'; have ja := (hw'.cell (p := ⟨w.heap.size, 0, none⟩) hlR).trans kmU; go_simp <;> with_reducible rfl)); try simp only [Act.put, List.setIfInBounds_toArray, List.set_cons_zero, List.set_cons_succ])
  refine plan_run rfl (fun K hK => ?_)
  go_simp
  refine (HP1.out A1 c1 _ (r1.below HY)).mono ?_
  rintro e_ w8 ⟨A2, c2, rfl, rr2, far2, hbx⟩
  have HB8 := below_then HY hbx
  have hb2 := HB8
  have far2 : A2 = A1 ∨ ∀ a, A2 = some a → U1.heap.size ≤ a.block := far2
  have fa2 : A2 = A ∨ ∀ a, A2 = some a → V.heap.size ≤ a.block := by
    rcases far2 with rfl | h
    · first | exact .inl rfl | exact fa1
    · exact .inr fun a e => by have := h a e; have := BT1.size; simp at *; omega
  have g2 := (hb2.block (w.heap.size + 1) (by have := ZV.out; have := BT1.size; omega)).trans ((BT1.block _ (by have := ZV.out; omega) (by omega)).trans QR.out)
  have k2 := (cell_of_row _ _ 0 _ _ _ g2).trans (show (#[.slice none 0 0] : Array Value)[0]? = some (.slice none 0 0) from rfl)
  have u2 := frozen_of_row _ _ 0 _ _ g2
  have GR := Lib.hid g2
  clear g2
  have BL9 := bV.trans (BL1.trans (hb2.mono (by have := ZV.out; have := BT1.size; omega)))
  have off9 : Off A2 (w.heap.size + 1) := fun a e => by
    have := ZV.out
    rcases fa2 with rfl | h
    · have := hold a e; omega
    · have := h a e; omega
  refine hK.out _ _ (HB8.mono (by have := ZV.out; have := BT1.size; omega)) ?_
  clear hK
  try simp only [Act.put, List.setIfInBounds_toArray, List.set_cons_zero, List.set_cons_succ]
  refine plan_run rfl (fun K hK => ?_)
  go_simp
  go_simp
  have HB9 := (HB8.mono (show w.heap.size + 1 ≤ U1.heap.size by have := ZV.out; have := BT1.size; omega)).setCell (p := ⟨w.heap.size + 1, 0, none⟩) (Nat.le_refl _) (.slice A2 n c2)
  refine hK.out _ _ (HB9) ?_
  clear hK
  try simp only [Act.put, List.setIfInBounds_toArray, List.set_cons_zero, List.set_cons_succ]
  iterate 1 (refine plan_take (v := ?_) rfl (Or.inl ⟨by rfl, ?_⟩) ?_; rotate_left; (focus (intro w' hw'; have ja := (hw'.cell (p := ⟨w.heap.size, 0, none⟩) hlR).trans kmU; go_simp <;> with_reducible rfl)); try simp only [Act.put, List.setIfInBounds_toArray, List.set_cons_zero, List.set_cons_succ])
  refine plan_done ?_
  go_wp2_with fail
  have hrow2 : (w8.setCell ⟨w.heap.size + 1, 0, none⟩ (.slice A2 n c2)).heap[w.heap.size + 1]? = some (.cells #[.slice A2 n c2] 28 (0, 0)) := (setc_rowT GR.out).trans rfl
  have hl := run_loadVar_row (P := Try.prog) _ _ _ 28 _ _ _ hrow2 Try.underlying28 rfl (by kernel_rfl)
  refine bodyPost_ret (v := .tuple #[.agg #[.slice A2 n c2], .int .i64 0]) (by simp [results, Try.results25, asAddr, hl]) rfl ?_
  exact ⟨A2, c2, rfl, rdB_off rr2 off9 (by simp [World.setCell]) (fun j hj => Below.heap_setCell _ _ _ _ hj), fa2.imp id (fun h a e => by have := h a e; have := ZV.out; omega), (BL9).setCell (p := ⟨w.heap.size + 1, 0, none⟩) (by simp) _⟩
theorem rgOff_mod (xs : List UInt8) (p q : Int) (x y : Nat) : rgOff xs p q x (y % 65536) = rgOff xs p q x y := by
  unfold rgOff
  exact memPutN_mod 2 rfl
theorem rgRet_mod (xs : List UInt8) (p q : Int) (u v y : Nat) : rgRet xs p q u v (y % 65536) = rgRet xs p q u v y := by
  unfold rgRet
  exact memPutN_mod 2 rfl
theorem refOffer7_any (A : Option Addr) (n c : Nat) (xs : List UInt8) (b k : Int) (i : Nat) (fi : Int) (w : World) (hr : RdB w A n c xs) (hb : -9223372036854775808 ≤ b ∧ b ≤ 9223372036854775807) (hk : -9223372036854775808 ≤ k ∧ k ≤ 9223372036854775807) (hi : i < 65536) (hfi : -9223372036854775808 ≤ fi ∧ fi ≤ 9223372036854775807) :
    Calls Try.prog 25 #[.agg #[.slice A n c], .int .i64 b, .int .i64 k, .int .u16 (i : Int), .int .i64 fi] w (RetMmE w A n (rgOffer xs b k i (fi % 18446744073709551616).toNat) (rgE n b k)) := by
  unfold rgOffer rgE
  rw [hr.2.1]
  by_cases h : rgCheck n b k = true
  · rw [if_pos h, if_pos h, rgOff_mod]
    exact refOffer7_in A n c xs b k i fi w hr hb hk hi hfi h
  · rw [if_neg h, if_neg h]
    exact refOffer7_no A n c xs b k i fi w hr hb hk hi hfi (by simpa using h)
theorem refReturn7_no (A : Option Addr) (n c : Nat) (xs : List UInt8) (b k : Int) (i u_ v_ : Nat) (w : World) (hr : RdB w A n c xs) (hb : -9223372036854775808 ≤ b ∧ b ≤ 9223372036854775807) (hk : -9223372036854775808 ≤ k ∧ k ≤ 9223372036854775807) (hi : i < 65536) (hu_ : u_ < 4294967296) (hv_ : v_ < 4294967296) (h : rgCheck n b k = false) :
    Calls Try.prog 26 #[.agg #[.slice A n c], .int .i64 b, .int .i64 k, .int .u16 (i : Int), .agg #[.int .u32 (u_ : Int), .int .u32 (v_ : Int)]] w (RetMmE w A n xs 70) := by
  have hn := hr.n63
  have hL := hr.2.1
  obtain ⟨V, hV⟩ : ∃ V, V = ((w.alloc (.cells #[.slice A n c] 28)).alloc (.cells #[.int .u32 (u_ : Int), .int .u32 (v_ : Int)] 25)).alloc (.cells #[.slice none 0 0] 28) := ⟨_, rfl⟩
  have bV : Below w.heap.size w V := by rw [hV]; exact (((below_self w).alloc (Nat.le_refl _) _).alloc (by simp) _).alloc (by simp; omega) _
  have zV : V.heap.size = w.heap.size + 3 := by rw [hV]; simp
  have q0 : BoxAt V w.heap.size 28 (.slice A n c) := by rw [hV]; exact row_old _ (row_old _ (row_at _ rfl))
  have q1 : V.heap[w.heap.size + 1]? = some (.cells #[.int .u32 (u_ : Int), .int .u32 (v_ : Int)] 25 (0, 0)) := by rw [hV]; exact row_old _ (row_at _ (by simp))
  have qR : BoxAt V (w.heap.size + 2) 28 (.slice none 0 0) := by rw [hV]; exact row_at _ (by simp)
  have k0 := q0.c
  have Q0 := Lib.hid q0
  have QR := Lib.hid qR
  have ZV := Lib.hid zV
  have HV := Lib.hid hV
  have hrV := hr.below bV
  have HC := Lib.hid (refCheck7_any A n c b k V hn hb hk)
  have Q1 := Lib.hid q1
  clear q1
  clear hV zV q0 qR
  rw [h] at HC
  clear h
  go_enter Try.func26, Try.ntmps26
  go_wp2_with fail
  rw [← HV.out]
  refine HC.out.mono ?_
  rintro e w2 ⟨rfl, hb2⟩
  have g0 := (hb2.block _ (by have := ZV.out; omega)).trans Q0.out
  have g2 := (hb2.block _ (by have := ZV.out; omega)).trans QR.out
  have k0 := (cell_of_row _ _ 0 _ _ _ g0).trans (show (#[.slice A n c] : Array Value)[0]? = some (.slice A n c) from rfl)
  have k2 := (cell_of_row _ _ 0 _ _ _ g2).trans (show (#[.slice none 0 0] : Array Value)[0]? = some (.slice none 0 0) from rfl)
  have u2 := frozen_of_row _ _ 0 _ _ g2
  have GR := Lib.hid g2
  clear g0 g2
  go_wp2_with fail
  have B3 := below_then bV hb2
  have hrow2 : (w2.setCell ⟨w.heap.size + 2, 0, none⟩ (.slice A n c)).heap[w.heap.size + 2]? = some (.cells #[.slice A n c] 28 (0, 0)) := (setc_rowT GR.out).trans rfl
  have hl := run_loadVar_row (P := Try.prog) _ _ _ 28 _ _ _ hrow2 Try.underlying28 rfl (by kernel_rfl)
  refine bodyPost_ret (v := .tuple #[.agg #[.slice A n c], .int .i64 70]) (by simp [results, Try.results26, asAddr, hl]) rfl ?_
  exact ⟨A, c, rfl, rd_far (hr.below B3) _ _ (fun hn0 a e => by have := hr.lt hn0 a e; show a.block ≠ w.heap.size + 2; omega), .inl rfl, (B3).setCell (p := ⟨w.heap.size + 2, 0, none⟩) (by simp) _⟩
theorem refReturn7_in (A : Option Addr) (n c : Nat) (xs : List UInt8) (b k : Int) (i u_ v_ : Nat) (w : World) (hr : RdB w A n c xs) (hb : -9223372036854775808 ≤ b ∧ b ≤ 9223372036854775807) (hk : -9223372036854775808 ≤ k ∧ k ≤ 9223372036854775807) (hi : i < 65536) (hu_ : u_ < 4294967296) (hv_ : v_ < 4294967296) (h : rgCheck n b k = true) :
    Calls Try.prog 26 #[.agg #[.slice A n c], .int .i64 b, .int .i64 k, .int .u16 (i : Int), .agg #[.int .u32 (u_ : Int), .int .u32 (v_ : Int)]] w (RetMmE w A n (rgRet xs (b + (rgBack k + rgPlace k i 8)) (b + (rgBack k + 2)) u_ v_ (i + 1)) 0) := by
  have hn := hr.n63
  have hL := hr.2.1
  obtain ⟨V, hV⟩ : ∃ V, V = ((w.alloc (.cells #[.slice A n c] 28)).alloc (.cells #[.int .u32 (u_ : Int), .int .u32 (v_ : Int)] 25)).alloc (.cells #[.slice none 0 0] 28) := ⟨_, rfl⟩
  have bV : Below w.heap.size w V := by rw [hV]; exact (((below_self w).alloc (Nat.le_refl _) _).alloc (by simp) _).alloc (by simp; omega) _
  have zV : V.heap.size = w.heap.size + 3 := by rw [hV]; simp
  have q0 : BoxAt V w.heap.size 28 (.slice A n c) := by rw [hV]; exact row_old _ (row_old _ (row_at _ rfl))
  have q1 : V.heap[w.heap.size + 1]? = some (.cells #[.int .u32 (u_ : Int), .int .u32 (v_ : Int)] 25 (0, 0)) := by rw [hV]; exact row_old _ (row_at _ (by simp))
  have qR : BoxAt V (w.heap.size + 2) 28 (.slice none 0 0) := by rw [hV]; exact row_at _ (by simp)
  have k0 := q0.c
  have Q0 := Lib.hid q0
  have QR := Lib.hid qR
  have ZV := Lib.hid zV
  have HV := Lib.hid hV
  have hrV := hr.below bV
  have HC := Lib.hid (refCheck7_any A n c b k V hn hb hk)
  have Q1 := Lib.hid q1
  clear q1
  clear hV zV q0 qR
  rw [h] at HC
  obtain ⟨o1, o2, o3, o4, o5, o6, o7⟩ := rgCheck_ok h
  have hn0 : 0 < n := by omega
  have hold := hr.old hn0
  obtain ⟨m, hm⟩ : ∃ m : Nat, k = (m : Int) := ⟨k.toNat, by omega⟩
  obtain ⟨r, hr2⟩ : ∃ r, r = i % m := ⟨_, rfl⟩
  have hrm : r < m := by rw [hr2]; exact Nat.mod_lt _ (by omega)
  have hrp : rgPlace k i 8 = 4 + 8 * (r : Int) := by unfold rgPlace; rw [hr2, hm]; simp
  rw [hrp]
  have r1 : (i : Int) % k = (r : Int) := by rw [hm, hr2]; rfl
  have r2 : (i : Int).tmod k = (r : Int) := by rw [Int.tmod_eq_emod_of_nonneg (by omega)]; exact r1
  have kz : ¬ (k = 0) := by omega
  have wi := wi64n (k := i) (by omega)
  have hkn := (of_decide_eq_true h).2.1
  have hbk := rgBack_le hkn
  obtain ⟨q, hq⟩ : ∃ q, q = rgBack k := ⟨_, rfl⟩
  obtain ⟨y, hy⟩ : ∃ y, y = 8 * (r : Int) := ⟨_, rfl⟩
  obtain ⟨t, ht⟩ : ∃ t, t = b + q := ⟨_, rfl⟩
  obtain ⟨u, hu⟩ : ∃ u, u = t + 4 := ⟨_, rfl⟩
  obtain ⟨s, hs⟩ : ∃ s, s = u + y := ⟨_, rfl⟩
  obtain ⟨s2, hs2⟩ : ∃ s2, s2 = t + 2 := ⟨_, rfl⟩
  have s0 : 8 * (r : Int) = y := hy.symm
  have s1 : b + q = t := ht.symm
  have e2 : t + 4 = u := hu.symm
  have e3 : u + y = s := hs.symm
  have e4 : t + 2 = s2 := hs2.symm
  have hs0 : 0 ≤ s ∧ s ≤ 9000 := by omega
  have hs3 : 0 ≤ s2 ∧ s2 ≤ 9000 := by omega
  have wr := wi64n (k := r) (by omega)
  have wy : IntKind.i64.wrap y = y := wi64i (by omega)
  have wt : IntKind.i64.wrap t = t := wi64i (by omega)
  have wu : IntKind.i64.wrap u = u := wi64i (by omega)
  have ws : IntKind.i64.wrap s = s := wi64i (by omega)
  have ws2 : IntKind.i64.wrap s2 = s2 := wi64i (by omega)
  obtain ⟨j, hj⟩ : ∃ j, j = i + 1 := ⟨_, rfl⟩
  have wii := w64n (k := i) (by omega)
  have ej : (i : Int) + 1 = (j : Int) := by omega
  have wj := w64n (k := j) (by omega)
  obtain ⟨s5, hs5⟩ : ∃ s5, s5 = s + 4 := ⟨_, rfl⟩
  have e5 : s + 4 = s5 := hs5.symm
  have ws5 : IntKind.i64.wrap s5 = s5 := wi64i (by omega)
  have wu_ := w64n (k := u_) (by omega)
  have wv_ := w64n (k := v_) (by omega)
  rw [show b + (rgBack k + (4 + 8 * (r : Int))) = s by omega, show b + (rgBack k + 2) = s2 by omega, ← hj]
  unfold rgRet
  rw [show s + 4 = s5 by omega]
  have HP0 := Lib.hid (fun A' c' W (h : RdB W A' n c' xs) => refPut7_any A' n c' xs s 4 u_ W h hn0 (by omega) (by omega) (by omega))
  obtain ⟨ys0, hys0⟩ : ∃ ys, memPutN xs s 4 u_ = ys := ⟨_, rfl⟩
  rw [hys0] at HP0 ⊢
  have HP1 := Lib.hid (fun A' c' W (h : RdB W A' n c' ys0) => refPut7_any A' n c' ys0 s5 4 v_ W h hn0 (by omega) (by omega) (by omega))
  obtain ⟨ys1, hys1⟩ : ∃ ys, memPutN ys0 s5 4 v_ = ys := ⟨_, rfl⟩
  rw [hys1] at HP1 ⊢
  have HP2 := Lib.hid (fun A' c' W (h : RdB W A' n c' ys1) => refPut7_any A' n c' ys1 s2 2 j W h hn0 (by omega) (by omega) (by omega))
  obtain ⟨ys2, hys2⟩ : ∃ ys, memPutN ys1 s2 2 j = ys := ⟨_, rfl⟩
  rw [hys2] at HP2 ⊢
  clear hys0 hys1 hys2
  have HK := Lib.hid hkn
  have HQ := Lib.hid hq
  clear hq hy ht hu hs hs2 hs5 hj hm hr2 hrp hkn hbk o4 o7 h
  go_enter Try.func26, Try.ntmps26
  go_wp2_with fail
  rw [← HV.out]
  refine HC.out.mono ?_
  rintro e w2 ⟨rfl, hb2⟩
  have bx0 : BoxAt w2 w.heap.size 28 (.slice A n c) := (hb2.block _ (by have := ZV.out; omega)).trans Q0.out
  have r0 := hrV.below hb2
  have o0 : Off A w.heap.size := fun a e => by have := hold a e; omega
  have BT0 : But w.heap.size V.heap.size V w2 := but_of hb2
  have BL0 : Below w.heap.size V w2 := hb2.mono (by have := ZV.out; omega)
  have fa0 : A = A ∨ ∀ a, A = some a → V.heap.size ≤ a.block := .inl rfl
  have km := bx0.c
  have kd := BT0.cell (j := w.heap.size + 1) (i := 0) (by have := ZV.out; omega) (by omega) ((cell_of_row _ _ 0 _ _ _ Q1.out).trans (show (#[.int .u32 (u_ : Int), .int .u32 (v_ : Int)] : Array Value)[0]? = some (.int .u32 (u_ : Int)) from rfl))
  go_wp2_with fail
  refine wp_region_plan (S := fun w' => Below w2.heap.size w2 w') [(0, true), (1, true), (5, true), (6, true), (7, true), (8, true), (9, true), (2, false), (3, true), (4, true), (10, true), (11, true)] (by kernel_rfl) (by kernel_rfl) (fun _ _ d _ _ h => by cases d <;> exact h) ((Below.refl _ w2).drew) ?_
  iterate 7 (refine plan_take (v := ?_) rfl (Or.inl ⟨by rfl, ?_⟩) ?_; rotate_left; (focus (intro w' hw'; go_simp <;> with_reducible rfl)); try simp only [Act.put, List.setIfInBounds_toArray, List.set_cons_zero, List.set_cons_succ])
  refine plan_run rfl (fun K hK => ?_)
  go_simp
  refine (refSecond7_any k _ HK.out).mono ?_
  rintro e_ w3 ⟨rfl, rfl⟩
  rw [← HQ.out]
  refine hK.out _ _ ((Below.refl w2.heap.size w2).drew) ?_
  clear hK
  try simp only [Act.put, List.setIfInBounds_toArray, List.set_cons_zero, List.set_cons_succ]
  iterate 4 (refine plan_take (v := ?_) rfl (Or.inl ⟨by rfl, ?_⟩) ?_; rotate_left; (focus (intro w' hw'; go_simp <;> with_reducible rfl)); try simp only [Act.put, List.setIfInBounds_toArray, List.set_cons_zero, List.set_cons_succ])
  refine plan_done ?_
  obtain ⟨Z2, hZ2⟩ : ∃ Z, Z = w2.drew := ⟨_, rfl⟩
  have zx : Below w2.heap.size w2 Z2 := by rw [hZ2]; exact (Below.refl w2.heap.size w2).drew
  have bx0 : BoxAt Z2 w.heap.size 28 (.slice A n c) := (zx.block _ (by have := ZV.out; have := hb2.size; omega)).trans bx0
  have r0 := r0.below zx
  have BT0 : But w.heap.size V.heap.size V Z2 := but_of (below_then hb2 zx)
  have BL0 : Below w.heap.size V Z2 := (below_then hb2 zx).mono (by have := ZV.out; omega)
  have km : w2.drew.cell? ⟨w.heap.size, 0, none⟩ = some (.slice A n c) := km
  have kd : w2.drew.cell? ⟨w.heap.size + 1, 0, none⟩ = some (.int .u32 (u_ : Int)) := kd
  have HZ2 := Lib.hid hZ2
  clear hZ2
  go_wp2_with fail
  rw [← HZ2.out]
  refine (HP0.out A c _ r0).mono ?_
  rintro e w3 ⟨A1, c1, rfl, rr1, far1, hb1⟩
  clear km kd
  obtain ⟨m1, bx1, r1, o1, bt1, bl1⟩ := mm_step (g := w.heap.size) bx0 hb1 rr1 far1 o0
  have km := m1.c
  have uf := m1.f
  have BT1 := BT0.trans (bt1.mono BT0.size)
  have BL1 := BL0.trans bl1
  have fa1 : A1 = A ∨ ∀ a, A1 = some a → V.heap.size ≤ a.block := by
    rcases far1 with rfl | h
    · first | exact .inl rfl | exact fa0
    · exact .inr fun a e => by have := h a e; have := BT0.size; simp at *; omega
  obtain ⟨U1, hU1⟩ : ∃ V, V = w3.setCell ⟨w.heap.size, 0, none⟩ (.slice A1 n c1) := ⟨_, rfl⟩
  have km2 := bx1.c
  have kd := BT1.cell (j := w.heap.size + 1) (i := 1) (by have := ZV.out; omega) (by omega) ((cell_of_row _ _ 1 _ _ _ Q1.out).trans (show (#[.int .u32 (u_ : Int), .int .u32 (v_ : Int)] : Array Value)[1]? = some (.int .u32 (v_ : Int)) from rfl))
  rw [← hU1] at bx1 r1 BT1 BL1
  have HU1 := Lib.hid hU1
  clear hU1 bt1 bl1
  go_wp2_with fail
  rw [← HU1.out]
  refine (HP1.out A1 c1 _ r1).mono ?_
  rintro e w4 ⟨A2, c2, rfl, rr2, far2, hb2⟩
  clear km kd km2 uf
  obtain ⟨m2, bx2, r2, o2, bt2, bl2⟩ := mm_step (g := w.heap.size) bx1 hb2 rr2 far2 o1
  have km := m2.c
  have uf := m2.f
  have BT2 := BT1.trans (bt2.mono BT1.size)
  have BL2 := BL1.trans bl2
  have fa2 : A2 = A ∨ ∀ a, A2 = some a → V.heap.size ≤ a.block := by
    rcases far2 with rfl | h
    · first | exact .inl rfl | exact fa1
    · exact .inr fun a e => by have := h a e; have := BT1.size; simp at *; omega
  obtain ⟨U2, hU2⟩ : ∃ V, V = w4.setCell ⟨w.heap.size, 0, none⟩ (.slice A2 n c2) := ⟨_, rfl⟩
  have km2 := bx2.c
  rw [← hU2] at bx2 r2 BT2 BL2
  have HU2 := Lib.hid hU2
  clear hU2 bt2 bl2
  go_wp2_with fail
  rw [← HU2.out]
  clear km km2 uf
  have hlR : w.heap.size < w.heap.size + 2 := by omega
  have kmU := bx2.c
  have HY := (Below.refl U2.heap.size U2).drew
  have HYR : Below (w.heap.size + 2) U2 U2.drew := HY.mono (by have := ZV.out; have := BT2.size; omega)
  refine wp_region_plan (S := fun w' => Below (w.heap.size + 2) U2 w') [(0, true), (1, true), (2, true), (6, true), (7, true), (8, true), (3, false), (4, true), (5, true), (9, false), (10, false), (11, true)] (by kernel_rfl) (by kernel_rfl) (fun _ _ d _ _ h => by cases d <;> exact h) (HYR) ?_
  iterate 6 (refine plan_take (v := ?_) rfl (Or.inl ⟨by rfl, ?_⟩) ?_; rotate_left; (focus (intro w' hw'; have ja := (hw'.cell (p := ⟨w.heap.size, 0, none⟩) hlR).trans kmU; go_simp <;> with_reducible rfl)); try simp only [Act.put, List.setIfInBounds_toArray, List.set_cons_zero, List.set_cons_succ])
  refine plan_run rfl (fun K hK => ?_)
  go_simp
  refine (refSecond7_any k _ HK.out).mono ?_
  rintro e_ wf ⟨rfl, rfl⟩
  rw [← HQ.out]
  refine hK.out _ _ (HYR) ?_
  clear hK
  try simp only [Act.put, List.setIfInBounds_toArray, List.set_cons_zero, List.set_cons_succ]
  iterate 2 (refine plan_take (v := ?_) rfl (Or.inl ⟨by rfl, ?_⟩) ?_; rotate_left; (focus (intro w' hw'; have ja := (hw'.cell (p := ⟨w.heap.size, 0, none⟩) hlR).trans kmU; go_simp <;> with_reducible rfl)); try simp only [Act.put, List.setIfInBounds_toArray, List.set_cons_zero, List.set_cons_succ])
  refine plan_run rfl (fun K hK => ?_)
  go_simp
  refine (HP2.out A2 c2 _ (r2.below HY)).mono ?_
  rintro e_ w8 ⟨A3, c3, rfl, rr3, far3, hbx⟩
  have HB8 := below_then HY hbx
  have hb3 := HB8
  have far3 : A3 = A2 ∨ ∀ a, A3 = some a → U2.heap.size ≤ a.block := far3
  have fa3 : A3 = A ∨ ∀ a, A3 = some a → V.heap.size ≤ a.block := by
    rcases far3 with rfl | h
    · first | exact .inl rfl | exact fa2
    · exact .inr fun a e => by have := h a e; have := BT2.size; simp at *; omega
  have g2 := (hb3.block (w.heap.size + 2) (by have := ZV.out; have := BT2.size; omega)).trans ((BT2.block _ (by have := ZV.out; omega) (by omega)).trans QR.out)
  have k2 := (cell_of_row _ _ 0 _ _ _ g2).trans (show (#[.slice none 0 0] : Array Value)[0]? = some (.slice none 0 0) from rfl)
  have u2 := frozen_of_row _ _ 0 _ _ g2
  have GR := Lib.hid g2
  clear g2
  have BL9 := bV.trans (BL2.trans (hb3.mono (by have := ZV.out; have := BT2.size; omega)))
  have off9 : Off A3 (w.heap.size + 2) := fun a e => by
    have := ZV.out
    rcases fa3 with rfl | h
    · have := hold a e; omega
    · have := h a e; omega
  refine hK.out _ _ (HB8.mono (by have := ZV.out; have := BT2.size; omega)) ?_
  clear hK
  try simp only [Act.put, List.setIfInBounds_toArray, List.set_cons_zero, List.set_cons_succ]
  refine plan_run rfl (fun K hK => ?_)
  go_simp
  go_simp
  have HB9 := (HB8.mono (show w.heap.size + 2 ≤ U2.heap.size by have := ZV.out; have := BT2.size; omega)).setCell (p := ⟨w.heap.size + 2, 0, none⟩) (Nat.le_refl _) (.slice A3 n c3)
  refine hK.out _ _ (HB9) ?_
  clear hK
  try simp only [Act.put, List.setIfInBounds_toArray, List.set_cons_zero, List.set_cons_succ]
  iterate 1 (refine plan_take (v := ?_) rfl (Or.inl ⟨by rfl, ?_⟩) ?_; rotate_left; (focus (intro w' hw'; have ja := (hw'.cell (p := ⟨w.heap.size, 0, none⟩) hlR).trans kmU; go_simp <;> with_reducible rfl)); try simp only [Act.put, List.setIfInBounds_toArray, List.set_cons_zero, List.set_cons_succ])
  refine plan_done ?_
  go_wp2_with fail
  have hrow2 : (w8.setCell ⟨w.heap.size + 2, 0, none⟩ (.slice A3 n c3)).heap[w.heap.size + 2]? = some (.cells #[.slice A3 n c3] 28 (0, 0)) := (setc_rowT GR.out).trans rfl
  have hl := run_loadVar_row (P := Try.prog) _ _ _ 28 _ _ _ hrow2 Try.underlying28 rfl (by kernel_rfl)
  refine bodyPost_ret (v := .tuple #[.agg #[.slice A3 n c3], .int .i64 0]) (by simp [results, Try.results26, asAddr, hl]) rfl ?_
  exact ⟨A3, c3, rfl, rdB_off rr3 off9 (by simp [World.setCell]) (fun j hj => Below.heap_setCell _ _ _ _ hj), fa3.imp id (fun h a e => by have := h a e; have := ZV.out; omega), (BL9).setCell (p := ⟨w.heap.size + 2, 0, none⟩) (by simp) _⟩
theorem refReturn7_any (A : Option Addr) (n c : Nat) (xs : List UInt8) (b k : Int) (i u_ v_ : Nat) (w : World) (hr : RdB w A n c xs) (hb : -9223372036854775808 ≤ b ∧ b ≤ 9223372036854775807) (hk : -9223372036854775808 ≤ k ∧ k ≤ 9223372036854775807) (hi : i < 65536) (hu_ : u_ < 4294967296) (hv_ : v_ < 4294967296) :
    Calls Try.prog 26 #[.agg #[.slice A n c], .int .i64 b, .int .i64 k, .int .u16 (i : Int), .agg #[.int .u32 (u_ : Int), .int .u32 (v_ : Int)]] w (RetMmE w A n (rgReturn xs b k i u_ v_) (rgE n b k)) := by
  unfold rgReturn rgE
  rw [hr.2.1]
  by_cases h : rgCheck n b k = true
  · rw [if_pos h, if_pos h, rgRet_mod]
    exact refReturn7_in A n c xs b k i u_ v_ w hr hb hk hi hu_ hv_ h
  · rw [if_neg h, if_neg h]
    exact refReturn7_no A n c xs b k i u_ v_ w hr hb hk hi hu_ hv_ (by simpa using h)
end Go.Proofs.Ytnfepikgbdeomaa
