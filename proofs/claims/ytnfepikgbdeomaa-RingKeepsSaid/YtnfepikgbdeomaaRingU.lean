/-
  Layer 7: rings: SetDesc.
-/
import Derived.Test.YtnfepikgbdeomaaRingQ
import Derived.Test.YtnfepikgbdeomaaRingT
namespace Go.Proofs.Ytnfepikgbdeomaa
set_option maxRecDepth 20000
open Go.RowKit
set_option linter.unusedVariables false
set_option linter.unusedSimpArgs false
set_option maxHeartbeats 4000000

theorem ringSetDesc_no (A : Option Addr) (n c : Nat) (xs : List UInt8) (b k i : Int) (d0 d1 d2 d3 : Nat) (w : World) (hr : RdB w A n c xs) (hb : -9223372036854775808 ≤ b ∧ b ≤ 9223372036854775807) (hk : -9223372036854775808 ≤ k ∧ k ≤ 9223372036854775807) (hi : -9223372036854775808 ≤ i ∧ i ≤ 9223372036854775807) (h : rgCheck n b k = false) :
    Calls Try.prog 22 #[.agg #[.slice A n c], .int .i64 b, .int .i64 k, .int .i64 i, .agg #[.int .u64 (d0 : Int), .int .u32 (d1 : Int), .int .u16 (d2 : Int), .int .u16 (d3 : Int)]] w (RetMmE w A n xs 70) := by
  have hn := hr.n63
  have hL := hr.2.1
  obtain ⟨V, hV⟩ : ∃ V, V = ((w.alloc (.cells #[.slice A n c] 28)).alloc (.cells #[.int .u64 (d0 : Int), .int .u32 (d1 : Int), .int .u16 (d2 : Int), .int .u16 (d3 : Int)] 44)).alloc (.cells #[.slice none 0 0] 28) := ⟨_, rfl⟩
  have bV : Below w.heap.size w V := by rw [hV]; exact (((below_self w).alloc (Nat.le_refl _) _).alloc (by simp) _).alloc (by simp; omega) _
  have zV : V.heap.size = w.heap.size + 3 := by rw [hV]; simp
  have q0 : BoxAt V w.heap.size 28 (.slice A n c) := by rw [hV]; exact row_old _ (row_old _ (row_at _ rfl))
  have q1 : V.heap[w.heap.size + 1]? = some (.cells #[.int .u64 (d0 : Int), .int .u32 (d1 : Int), .int .u16 (d2 : Int), .int .u16 (d3 : Int)] 44 (0, 0)) := by rw [hV]; exact row_old _ (row_at _ (by simp))
  have q2 : BoxAt V (w.heap.size + 2) 28 (.slice none 0 0) := by rw [hV]; exact row_at _ (by simp)
  have Q0 := Lib.hid q0
  have Q1 := Lib.hid q1
  have Q2 := Lib.hid q2
  have ZV := Lib.hid zV
  have hrV := hr.below bV
  have HC := Lib.hid (fun W => ringCheck_any A n c b k W hn hb hk)
  have HD := Lib.hid (fun W (hW : Below V.heap.size V W) => ringDesc_any A n c xs b k i W (hrV.below hW) hb hk hi)
  have HV := Lib.hid hV
  have fin : ∀ (W : World), Below V.heap.size V W → BoxAt W w.heap.size 28 (.slice A n c) ∧ W.heap[w.heap.size + 2]? = some (.cells #[.slice none 0 0] 28 (0, 0)) := fun W hW => ⟨(hW.block _ (by have := ZV.out; omega)).trans Q0.out, (hW.block _ (by have := ZV.out; omega)).trans Q2.out⟩
  have k0 := q0.c
  clear hV zV q0 q1 q2
  have hE : rgDescE n b k i = 70 := by unfold rgDescE; rw [h]; rfl
  obtain ⟨⟨v0, v1, v2, v3⟩, hdd⟩ : ∃ d, rgDesc xs b k i = d := ⟨_, rfl⟩
  rw [hE, hdd] at HD
  rw [show (⟨v0, v1, v2, v3⟩ : Dsc).v = #[.int .u64 (v0 : Int), .int .u32 (v1 : Int), .int .u16 (v2 : Int), .int .u16 (v3 : Int)] from rfl] at HD
  have hh := HC.out
  rw [h] at hh
  have HH := Lib.hid hh
  clear hE hdd hh
  go_enter Try.func22, Try.ntmps22
  go_wp2_with fail
  rw [← HV.out]
  refine (HH.out V).mono ?_
  rintro e w2 ⟨rfl, hb2⟩
  have k0 := (fin w2 hb2).1.c
  go_wp2_with fail
  refine (HD.out w2 hb2).mono ?_
  rintro e w3 ⟨rfl, hb3⟩
  have HB3 := below_then hb2 hb3
  have HB4 := HB3.alloc HB3.size (.cells #[.int .u64 (v0 : Int), .int .u32 (v1 : Int), .int .u16 (v2 : Int), .int .u16 (v3 : Int)] 44)
  obtain ⟨g0, g2⟩ := fin _ HB4
  have k0 := g0.c
  have k2 := (cell_of_row _ _ 0 _ _ _ g2).trans (show (#[.slice none 0 0] : Array Value)[0]? = some (.slice none 0 0) from rfl)
  have u2 := frozen_of_row _ _ 0 _ _ g2
  have G2 := Lib.hid g2
  clear g0 g2
  go_wp2_with fail
  obtain ⟨X, hX⟩ : ∃ X, X = w3.alloc (.cells #[.int .u64 (v0 : Int), .int .u32 (v1 : Int), .int .u16 (v2 : Int), .int .u16 (v3 : Int)] 44) := ⟨_, rfl⟩
  have zx : w.heap.size + 2 < X.heap.size := by have := ZV.out; have := HB4.size; rw [hX]; omega
  rw [← hX] at HB4 G2 ⊢
  have B3 := below_then bV HB4
  have hrow2 : (X.setCell ⟨w.heap.size + 2, 0, none⟩ (.slice A n c)).heap[w.heap.size + 2]? = some (.cells #[.slice A n c] 28 (0, 0)) := (setc_rowT G2.out).trans rfl
  have hl := run_loadVar_row (P := Try.prog) _ _ _ 28 _ _ _ hrow2 Try.underlying28 rfl (by kernel_rfl)
  refine bodyPost_ret (v := .tuple #[.agg #[.slice A n c], .int .i64 70]) (by simp [results, Try.results22, asAddr, hl]) rfl ?_
  exact ⟨A, c, rfl, rd_far (hr.below (B3)) _ _ (fun hn0 a e => by have := hr.lt hn0 a e; show a.block ≠ w.heap.size + 2; omega), .inl rfl, (B3).setCell (p := ⟨w.heap.size + 2, 0, none⟩) (by simp) _⟩
theorem ringSetDesc_low (A : Option Addr) (n c : Nat) (xs : List UInt8) (b k i : Int) (d0 d1 d2 d3 : Nat) (w : World) (hr : RdB w A n c xs) (hb : -9223372036854775808 ≤ b ∧ b ≤ 9223372036854775807) (hk : -9223372036854775808 ≤ k ∧ k ≤ 9223372036854775807) (hi : -9223372036854775808 ≤ i ∧ i ≤ 9223372036854775807) (h : rgCheck n b k = true) (hi0 : i < 0) :
    Calls Try.prog 22 #[.agg #[.slice A n c], .int .i64 b, .int .i64 k, .int .i64 i, .agg #[.int .u64 (d0 : Int), .int .u32 (d1 : Int), .int .u16 (d2 : Int), .int .u16 (d3 : Int)]] w (RetMmE w A n xs 2) := by
  have hn := hr.n63
  have hL := hr.2.1
  obtain ⟨V, hV⟩ : ∃ V, V = ((w.alloc (.cells #[.slice A n c] 28)).alloc (.cells #[.int .u64 (d0 : Int), .int .u32 (d1 : Int), .int .u16 (d2 : Int), .int .u16 (d3 : Int)] 44)).alloc (.cells #[.slice none 0 0] 28) := ⟨_, rfl⟩
  have bV : Below w.heap.size w V := by rw [hV]; exact (((below_self w).alloc (Nat.le_refl _) _).alloc (by simp) _).alloc (by simp; omega) _
  have zV : V.heap.size = w.heap.size + 3 := by rw [hV]; simp
  have q0 : BoxAt V w.heap.size 28 (.slice A n c) := by rw [hV]; exact row_old _ (row_old _ (row_at _ rfl))
  have q1 : V.heap[w.heap.size + 1]? = some (.cells #[.int .u64 (d0 : Int), .int .u32 (d1 : Int), .int .u16 (d2 : Int), .int .u16 (d3 : Int)] 44 (0, 0)) := by rw [hV]; exact row_old _ (row_at _ (by simp))
  have q2 : BoxAt V (w.heap.size + 2) 28 (.slice none 0 0) := by rw [hV]; exact row_at _ (by simp)
  have Q0 := Lib.hid q0
  have Q1 := Lib.hid q1
  have Q2 := Lib.hid q2
  have ZV := Lib.hid zV
  have hrV := hr.below bV
  have HC := Lib.hid (fun W => ringCheck_any A n c b k W hn hb hk)
  have HD := Lib.hid (fun W (hW : Below V.heap.size V W) => ringDesc_any A n c xs b k i W (hrV.below hW) hb hk hi)
  have HV := Lib.hid hV
  have fin : ∀ (W : World), Below V.heap.size V W → BoxAt W w.heap.size 28 (.slice A n c) ∧ W.heap[w.heap.size + 2]? = some (.cells #[.slice none 0 0] 28 (0, 0)) := fun W hW => ⟨(hW.block _ (by have := ZV.out; omega)).trans Q0.out, (hW.block _ (by have := ZV.out; omega)).trans Q2.out⟩
  have k0 := q0.c
  clear hV zV q0 q1 q2
  have hh := HC.out
  rw [h] at hh
  have HH := Lib.hid hh
  clear hh
  have i1 : decide (i < 0) = true := decide_eq_true hi0
  go_enter Try.func22, Try.ntmps22
  go_wp2_with fail
  rw [← HV.out]
  refine (HH.out V).mono ?_
  rintro e w2 ⟨rfl, hb2⟩
  obtain ⟨g0, g2⟩ := fin w2 hb2
  have k0 := g0.c
  have k2 := (cell_of_row _ _ 0 _ _ _ g2).trans (show (#[.slice none 0 0] : Array Value)[0]? = some (.slice none 0 0) from rfl)
  have u2 := frozen_of_row _ _ 0 _ _ g2
  have G2 := Lib.hid g2
  clear g0 g2
  go_wp2_with fail
  have B3 := below_then bV hb2
  have hrow2 : (w2.setCell ⟨w.heap.size + 2, 0, none⟩ (.slice A n c)).heap[w.heap.size + 2]? = some (.cells #[.slice A n c] 28 (0, 0)) := (setc_rowT G2.out).trans rfl
  have hl := run_loadVar_row (P := Try.prog) _ _ _ 28 _ _ _ hrow2 Try.underlying28 rfl (by kernel_rfl)
  refine bodyPost_ret (v := .tuple #[.agg #[.slice A n c], .int .i64 2]) (by simp [results, Try.results22, asAddr, hl]) rfl ?_
  exact ⟨A, c, rfl, rd_far (hr.below (B3)) _ _ (fun hn0 a e => by have := hr.lt hn0 a e; show a.block ≠ w.heap.size + 2; omega), .inl rfl, (B3).setCell (p := ⟨w.heap.size + 2, 0, none⟩) (by simp) _⟩
theorem ringSetDesc_high (A : Option Addr) (n c : Nat) (xs : List UInt8) (b k i : Int) (d0 d1 d2 d3 : Nat) (w : World) (hr : RdB w A n c xs) (hb : -9223372036854775808 ≤ b ∧ b ≤ 9223372036854775807) (hk : -9223372036854775808 ≤ k ∧ k ≤ 9223372036854775807) (hi : -9223372036854775808 ≤ i ∧ i ≤ 9223372036854775807) (h : rgCheck n b k = true) (hi0 : ¬ i < 0) (hi1 : k ≤ i) :
    Calls Try.prog 22 #[.agg #[.slice A n c], .int .i64 b, .int .i64 k, .int .i64 i, .agg #[.int .u64 (d0 : Int), .int .u32 (d1 : Int), .int .u16 (d2 : Int), .int .u16 (d3 : Int)]] w (RetMmE w A n xs 2) := by
  have hn := hr.n63
  have hL := hr.2.1
  obtain ⟨V, hV⟩ : ∃ V, V = ((w.alloc (.cells #[.slice A n c] 28)).alloc (.cells #[.int .u64 (d0 : Int), .int .u32 (d1 : Int), .int .u16 (d2 : Int), .int .u16 (d3 : Int)] 44)).alloc (.cells #[.slice none 0 0] 28) := ⟨_, rfl⟩
  have bV : Below w.heap.size w V := by rw [hV]; exact (((below_self w).alloc (Nat.le_refl _) _).alloc (by simp) _).alloc (by simp; omega) _
  have zV : V.heap.size = w.heap.size + 3 := by rw [hV]; simp
  have q0 : BoxAt V w.heap.size 28 (.slice A n c) := by rw [hV]; exact row_old _ (row_old _ (row_at _ rfl))
  have q1 : V.heap[w.heap.size + 1]? = some (.cells #[.int .u64 (d0 : Int), .int .u32 (d1 : Int), .int .u16 (d2 : Int), .int .u16 (d3 : Int)] 44 (0, 0)) := by rw [hV]; exact row_old _ (row_at _ (by simp))
  have q2 : BoxAt V (w.heap.size + 2) 28 (.slice none 0 0) := by rw [hV]; exact row_at _ (by simp)
  have Q0 := Lib.hid q0
  have Q1 := Lib.hid q1
  have Q2 := Lib.hid q2
  have ZV := Lib.hid zV
  have hrV := hr.below bV
  have HC := Lib.hid (fun W => ringCheck_any A n c b k W hn hb hk)
  have HD := Lib.hid (fun W (hW : Below V.heap.size V W) => ringDesc_any A n c xs b k i W (hrV.below hW) hb hk hi)
  have HV := Lib.hid hV
  have fin : ∀ (W : World), Below V.heap.size V W → BoxAt W w.heap.size 28 (.slice A n c) ∧ W.heap[w.heap.size + 2]? = some (.cells #[.slice none 0 0] 28 (0, 0)) := fun W hW => ⟨(hW.block _ (by have := ZV.out; omega)).trans Q0.out, (hW.block _ (by have := ZV.out; omega)).trans Q2.out⟩
  have k0 := q0.c
  clear hV zV q0 q1 q2
  have hh := HC.out
  rw [h] at hh
  have HH := Lib.hid hh
  clear hh
  have i1 : decide (i < 0) = false := decide_eq_false hi0
  have i2 : decide (k ≤ i) = true := decide_eq_true hi1
  go_enter Try.func22, Try.ntmps22
  go_wp2_with fail
  rw [← HV.out]
  refine (HH.out V).mono ?_
  rintro e w2 ⟨rfl, hb2⟩
  obtain ⟨g0, g2⟩ := fin w2 hb2
  have k0 := g0.c
  have k2 := (cell_of_row _ _ 0 _ _ _ g2).trans (show (#[.slice none 0 0] : Array Value)[0]? = some (.slice none 0 0) from rfl)
  have u2 := frozen_of_row _ _ 0 _ _ g2
  have G2 := Lib.hid g2
  clear g0 g2
  go_wp2_with fail
  have B3 := below_then bV hb2
  have hrow2 : (w2.setCell ⟨w.heap.size + 2, 0, none⟩ (.slice A n c)).heap[w.heap.size + 2]? = some (.cells #[.slice A n c] 28 (0, 0)) := (setc_rowT G2.out).trans rfl
  have hl := run_loadVar_row (P := Try.prog) _ _ _ 28 _ _ _ hrow2 Try.underlying28 rfl (by kernel_rfl)
  refine bodyPost_ret (v := .tuple #[.agg #[.slice A n c], .int .i64 2]) (by simp [results, Try.results22, asAddr, hl]) rfl ?_
  exact ⟨A, c, rfl, rd_far (hr.below (B3)) _ _ (fun hn0 a e => by have := hr.lt hn0 a e; show a.block ≠ w.heap.size + 2; omega), .inl rfl, (B3).setCell (p := ⟨w.heap.size + 2, 0, none⟩) (by simp) _⟩
theorem ringSetDesc_at0 (A : Option Addr) (n c : Nat) (xs : List UInt8) (b k i : Int) (d0 d1 d2 d3 : Nat) (w : World) (hr : RdB w A n c xs) (hb : -9223372036854775808 ≤ b ∧ b ≤ 9223372036854775807) (hk : -9223372036854775808 ≤ k ∧ k ≤ 9223372036854775807) (hi : -9223372036854775808 ≤ i ∧ i ≤ 9223372036854775807) (hd : (⟨d0, d1, d2, d3⟩ : Dsc).ok) (h : rgCheck n b k = true) (hik : 0 ≤ i ∧ i < k) (v0 v1 v2 v3 : Nat) (hv : rgDscAt xs (b + 16 * i) = ⟨v0, v1, v2, v3⟩) (hne : ¬ ((v0 : Int) = (d0 : Int))) :
    Calls Try.prog 22 #[.agg #[.slice A n c], .int .i64 b, .int .i64 k, .int .i64 i, .agg #[.int .u64 (d0 : Int), .int .u32 (d1 : Int), .int .u16 (d2 : Int), .int .u16 (d3 : Int)]] w (RetMmE w A n (rgSetD xs (b + 16 * i) ⟨d0, d1, d2, d3⟩) 0) := by
  have hn := hr.n63
  have hL := hr.2.1
  obtain ⟨V, hV⟩ : ∃ V, V = ((w.alloc (.cells #[.slice A n c] 28)).alloc (.cells #[.int .u64 (d0 : Int), .int .u32 (d1 : Int), .int .u16 (d2 : Int), .int .u16 (d3 : Int)] 44)).alloc (.cells #[.slice none 0 0] 28) := ⟨_, rfl⟩
  have bV : Below w.heap.size w V := by rw [hV]; exact (((below_self w).alloc (Nat.le_refl _) _).alloc (by simp) _).alloc (by simp; omega) _
  have zV : V.heap.size = w.heap.size + 3 := by rw [hV]; simp
  have q0 : BoxAt V w.heap.size 28 (.slice A n c) := by rw [hV]; exact row_old _ (row_old _ (row_at _ rfl))
  have q1 : V.heap[w.heap.size + 1]? = some (.cells #[.int .u64 (d0 : Int), .int .u32 (d1 : Int), .int .u16 (d2 : Int), .int .u16 (d3 : Int)] 44 (0, 0)) := by rw [hV]; exact row_old _ (row_at _ (by simp))
  have q2 : BoxAt V (w.heap.size + 2) 28 (.slice none 0 0) := by rw [hV]; exact row_at _ (by simp)
  have Q0 := Lib.hid q0
  have Q1 := Lib.hid q1
  have Q2 := Lib.hid q2
  have ZV := Lib.hid zV
  have hrV := hr.below bV
  have HC := Lib.hid (fun W => ringCheck_any A n c b k W hn hb hk)
  have HD := Lib.hid (fun W (hW : Below V.heap.size V W) => ringDesc_any A n c xs b k i W (hrV.below hW) hb hk hi)
  have HV := Lib.hid hV
  have fin : ∀ (W : World), Below V.heap.size V W → BoxAt W w.heap.size 28 (.slice A n c) ∧ W.heap[w.heap.size + 2]? = some (.cells #[.slice none 0 0] 28 (0, 0)) := fun W hW => ⟨(hW.block _ (by have := ZV.out; omega)).trans Q0.out, (hW.block _ (by have := ZV.out; omega)).trans Q2.out⟩
  have k0 := q0.c
  clear hV zV q0 q1 q2
  have hE : rgDescE n b k i = 0 := by unfold rgDescE; rw [if_pos h, if_pos hik]
  have hw : rgDesc xs b k i = rgDscAt xs (b + 16 * i) := by unfold rgDesc; rw [hL, hE, if_pos rfl]
  rw [hw, hE, hv] at HD
  rw [show (⟨v0, v1, v2, v3⟩ : Dsc).v = #[.int .u64 (v0 : Int), .int .u32 (v1 : Int), .int .u16 (v2 : Int), .int .u16 (v3 : Int)] from rfl] at HD
  obtain ⟨o1, o2, o3, o4, o5, o6, o7⟩ := rgCheck_ok h
  have hold := hr.old (show 0 < n by omega)
  have i1 : decide (i < 0) = false := decide_eq_false (by omega)
  have i2 : decide (k ≤ i) = false := decide_eq_false (by omega)
  obtain ⟨p, hp⟩ : ∃ p, p = 16 * i := ⟨_, rfl⟩
  have hp0 : 0 ≤ p ∧ p ≤ 1000 := by omega
  have hp1 : 16 * i = p := hp.symm
  have wp : IntKind.i64.wrap p = p := wi64i (by omega)
  have hh := HC.out
  rw [h] at hh
  have HH := Lib.hid hh
  rw [hp1]
  have hrd := fun V2 (hb2 : Below V.heap.size V V2) => ringReading_yes A n c xs b k p 75 #[.pointer (some ⟨w.heap.size + 1, 0, none⟩), .pointer (some ⟨w.heap.size, 0, none⟩)] V2
    (fun W g w' => MmBox g w.heap.size n A (rgSetD xs (b + p) ⟨d0, d1, d2, d3⟩) W w') (hrV.below hb2) hb hk h hp0 (fun args W => by go_simp)
    (fun W g hbW hg hs hf => by
      have z := ZV.out
      have z2 := hb2.size
      exact ringSetDesc1_any g (w.heap.size + 1) w.heap.size A n c xs (b + p) ⟨d0, d1, d2, d3⟩ (.slice A n c) W hf ((hrV.below hb2).below hbW) hold (by omega) hd
        ((hbW.block _ (by omega)).trans ((hb2.block _ (by omega)).trans Q1.out)) ((hbW.block _ (by omega)).trans ((hb2.block _ (by omega)).trans Q0.out)) (by omega) (by omega))
  obtain ⟨ys, hys⟩ : ∃ ys, rgSetD xs (b + p) ⟨d0, d1, d2, d3⟩ = ys := ⟨_, rfl⟩
  rw [hys] at hrd ⊢
  have HRD := Lib.hid hrd
  clear hrd hys
  clear hh hp hw hE hv hd h
  go_enter Try.func22, Try.ntmps22
  go_wp2_with fail
  rw [← HV.out]
  refine (HH.out V).mono ?_
  rintro e w2 ⟨rfl, hb2⟩
  have k0 := (fin w2 hb2).1.c
  go_wp2_with fail
  refine (HD.out w2 hb2).mono ?_
  rintro e w3 ⟨rfl, hb3⟩
  have HB3 := below_then hb2 hb3
  have HB4 := HB3.alloc HB3.size (.cells #[.int .u64 (v0 : Int), .int .u32 (v1 : Int), .int .u16 (v2 : Int), .int .u16 (v3 : Int)] 44)
  have g1 := (HB4.block (w.heap.size + 1) (by have := ZV.out; omega)).trans Q1.out
  have q0_ := (cell_of_row _ _ 0 _ _ _ g1).trans (show (#[.int .u64 (d0 : Int), .int .u32 (d1 : Int), .int .u16 (d2 : Int), .int .u16 (d3 : Int)] : Array Value)[0]? = some (.int .u64 (d0 : Int)) from rfl)
  have q1_ := (cell_of_row _ _ 1 _ _ _ g1).trans (show (#[.int .u64 (d0 : Int), .int .u32 (d1 : Int), .int .u16 (d2 : Int), .int .u16 (d3 : Int)] : Array Value)[1]? = some (.int .u32 (d1 : Int)) from rfl)
  have q2_ := (cell_of_row _ _ 2 _ _ _ g1).trans (show (#[.int .u64 (d0 : Int), .int .u32 (d1 : Int), .int .u16 (d2 : Int), .int .u16 (d3 : Int)] : Array Value)[2]? = some (.int .u16 (d2 : Int)) from rfl)
  have q3_ := (cell_of_row _ _ 3 _ _ _ g1).trans (show (#[.int .u64 (d0 : Int), .int .u32 (d1 : Int), .int .u16 (d2 : Int), .int .u16 (d3 : Int)] : Array Value)[3]? = some (.int .u16 (d3 : Int)) from rfl)
  clear g1
  obtain ⟨g0, g2⟩ := fin _ HB4
  have k0 := g0.c
  have k2 := (cell_of_row _ _ 0 _ _ _ g2).trans (show (#[.slice none 0 0] : Array Value)[0]? = some (.slice none 0 0) from rfl)
  have u2 := frozen_of_row _ _ 0 _ _ g2
  have G2 := Lib.hid g2
  clear g0 g2
  go_wp2_with fail
  obtain ⟨X, hX⟩ : ∃ X, X = w3.alloc (.cells #[.int .u64 (v0 : Int), .int .u32 (v1 : Int), .int .u16 (v2 : Int), .int .u16 (v3 : Int)] 44) := ⟨_, rfl⟩
  have zx : w.heap.size + 2 < X.heap.size := by have := ZV.out; have := HB4.size; rw [hX]; omega
  rw [← hX] at HB4 ⊢
  clear k0 k2 u2 G2 q0_ q1_ q2_ q3_
  refine (HRD.out X HB4).mono ?_
  rintro e w5 ⟨rfl, W, g, hbW, hg, hf, A3, c3, bx, r3, far3, bt3, bl3⟩
  have zz := ZV.out
  have zx4 := HB4.size
  have zw := hbW.size
  have HB : But w.heap.size V.heap.size V w5 := ((but_of HB4).trans ((but_of hbW).mono (by omega))).trans (bt3.mono (by omega))
  have HL : Below w.heap.size V w5 := ((HB4.mono (by omega)).trans (hbW.mono (by omega))).trans bl3
  have g2 := (HB.block (w.heap.size + 2) (by omega) (by omega)).trans Q2.out
  have k0 := bx.c
  have k2 := (cell_of_row _ _ 0 _ _ _ g2).trans (show (#[.slice none 0 0] : Array Value)[0]? = some (.slice none 0 0) from rfl)
  have u2 := frozen_of_row _ _ 0 _ _ g2
  have G2 := Lib.hid g2
  clear g2 bx
  go_wp2_with fail
  have off3 : Off A3 (w.heap.size + 2) := fun a e => by
    rcases far3 with rfl | h
    · have := hold a e; omega
    · have := h a e; omega
  have B3 := bV.trans HL
  have hrow2 : (w5.setCell ⟨w.heap.size + 2, 0, none⟩ (.slice A3 n c3)).heap[w.heap.size + 2]? = some (.cells #[.slice A3 n c3] 28 (0, 0)) := (setc_rowT G2.out).trans rfl
  have hl := run_loadVar_row (P := Try.prog) _ _ _ 28 _ _ _ hrow2 Try.underlying28 rfl (by kernel_rfl)
  refine bodyPost_ret (v := .tuple #[.agg #[.slice A3 n c3], .int .i64 0]) (by simp [results, Try.results22, asAddr, hl]) rfl ?_
  exact ⟨A3, c3, rfl, rdB_off r3 off3 (by simp [World.setCell]) (fun j hj => Below.heap_setCell _ _ _ _ hj), far3.imp id (fun h a e => by have := h a e; omega), (B3).setCell (p := ⟨w.heap.size + 2, 0, none⟩) (by simp) _⟩
theorem ringSetDesc_at1 (A : Option Addr) (n c : Nat) (xs : List UInt8) (b k i : Int) (d0 d1 d2 d3 : Nat) (w : World) (hr : RdB w A n c xs) (hb : -9223372036854775808 ≤ b ∧ b ≤ 9223372036854775807) (hk : -9223372036854775808 ≤ k ∧ k ≤ 9223372036854775807) (hi : -9223372036854775808 ≤ i ∧ i ≤ 9223372036854775807) (hd : (⟨d0, d1, d2, d3⟩ : Dsc).ok) (h : rgCheck n b k = true) (hik : 0 ≤ i ∧ i < k) (v1 v2 v3 : Nat) (hv : rgDscAt xs (b + 16 * i) = ⟨d0, v1, v2, v3⟩) (hne : ¬ ((v1 : Int) = (d1 : Int))) :
    Calls Try.prog 22 #[.agg #[.slice A n c], .int .i64 b, .int .i64 k, .int .i64 i, .agg #[.int .u64 (d0 : Int), .int .u32 (d1 : Int), .int .u16 (d2 : Int), .int .u16 (d3 : Int)]] w (RetMmE w A n (rgSetD xs (b + 16 * i) ⟨d0, d1, d2, d3⟩) 0) := by
  have hn := hr.n63
  have hL := hr.2.1
  obtain ⟨V, hV⟩ : ∃ V, V = ((w.alloc (.cells #[.slice A n c] 28)).alloc (.cells #[.int .u64 (d0 : Int), .int .u32 (d1 : Int), .int .u16 (d2 : Int), .int .u16 (d3 : Int)] 44)).alloc (.cells #[.slice none 0 0] 28) := ⟨_, rfl⟩
  have bV : Below w.heap.size w V := by rw [hV]; exact (((below_self w).alloc (Nat.le_refl _) _).alloc (by simp) _).alloc (by simp; omega) _
  have zV : V.heap.size = w.heap.size + 3 := by rw [hV]; simp
  have q0 : BoxAt V w.heap.size 28 (.slice A n c) := by rw [hV]; exact row_old _ (row_old _ (row_at _ rfl))
  have q1 : V.heap[w.heap.size + 1]? = some (.cells #[.int .u64 (d0 : Int), .int .u32 (d1 : Int), .int .u16 (d2 : Int), .int .u16 (d3 : Int)] 44 (0, 0)) := by rw [hV]; exact row_old _ (row_at _ (by simp))
  have q2 : BoxAt V (w.heap.size + 2) 28 (.slice none 0 0) := by rw [hV]; exact row_at _ (by simp)
  have Q0 := Lib.hid q0
  have Q1 := Lib.hid q1
  have Q2 := Lib.hid q2
  have ZV := Lib.hid zV
  have hrV := hr.below bV
  have HC := Lib.hid (fun W => ringCheck_any A n c b k W hn hb hk)
  have HD := Lib.hid (fun W (hW : Below V.heap.size V W) => ringDesc_any A n c xs b k i W (hrV.below hW) hb hk hi)
  have HV := Lib.hid hV
  have fin : ∀ (W : World), Below V.heap.size V W → BoxAt W w.heap.size 28 (.slice A n c) ∧ W.heap[w.heap.size + 2]? = some (.cells #[.slice none 0 0] 28 (0, 0)) := fun W hW => ⟨(hW.block _ (by have := ZV.out; omega)).trans Q0.out, (hW.block _ (by have := ZV.out; omega)).trans Q2.out⟩
  have k0 := q0.c
  clear hV zV q0 q1 q2
  have hE : rgDescE n b k i = 0 := by unfold rgDescE; rw [if_pos h, if_pos hik]
  have hw : rgDesc xs b k i = rgDscAt xs (b + 16 * i) := by unfold rgDesc; rw [hL, hE, if_pos rfl]
  rw [hw, hE, hv] at HD
  rw [show (⟨d0, v1, v2, v3⟩ : Dsc).v = #[.int .u64 (d0 : Int), .int .u32 (v1 : Int), .int .u16 (v2 : Int), .int .u16 (v3 : Int)] from rfl] at HD
  obtain ⟨o1, o2, o3, o4, o5, o6, o7⟩ := rgCheck_ok h
  have hold := hr.old (show 0 < n by omega)
  have i1 : decide (i < 0) = false := decide_eq_false (by omega)
  have i2 : decide (k ≤ i) = false := decide_eq_false (by omega)
  obtain ⟨p, hp⟩ : ∃ p, p = 16 * i := ⟨_, rfl⟩
  have hp0 : 0 ≤ p ∧ p ≤ 1000 := by omega
  have hp1 : 16 * i = p := hp.symm
  have wp : IntKind.i64.wrap p = p := wi64i (by omega)
  have hh := HC.out
  rw [h] at hh
  have HH := Lib.hid hh
  rw [hp1]
  have hrd := fun V2 (hb2 : Below V.heap.size V V2) => ringReading_yes A n c xs b k p 75 #[.pointer (some ⟨w.heap.size + 1, 0, none⟩), .pointer (some ⟨w.heap.size, 0, none⟩)] V2
    (fun W g w' => MmBox g w.heap.size n A (rgSetD xs (b + p) ⟨d0, d1, d2, d3⟩) W w') (hrV.below hb2) hb hk h hp0 (fun args W => by go_simp)
    (fun W g hbW hg hs hf => by
      have z := ZV.out
      have z2 := hb2.size
      exact ringSetDesc1_any g (w.heap.size + 1) w.heap.size A n c xs (b + p) ⟨d0, d1, d2, d3⟩ (.slice A n c) W hf ((hrV.below hb2).below hbW) hold (by omega) hd
        ((hbW.block _ (by omega)).trans ((hb2.block _ (by omega)).trans Q1.out)) ((hbW.block _ (by omega)).trans ((hb2.block _ (by omega)).trans Q0.out)) (by omega) (by omega))
  obtain ⟨ys, hys⟩ : ∃ ys, rgSetD xs (b + p) ⟨d0, d1, d2, d3⟩ = ys := ⟨_, rfl⟩
  rw [hys] at hrd ⊢
  have HRD := Lib.hid hrd
  clear hrd hys
  clear hh hp hw hE hv hd h
  go_enter Try.func22, Try.ntmps22
  go_wp2_with fail
  rw [← HV.out]
  refine (HH.out V).mono ?_
  rintro e w2 ⟨rfl, hb2⟩
  have k0 := (fin w2 hb2).1.c
  go_wp2_with fail
  refine (HD.out w2 hb2).mono ?_
  rintro e w3 ⟨rfl, hb3⟩
  have HB3 := below_then hb2 hb3
  have HB4 := HB3.alloc HB3.size (.cells #[.int .u64 (d0 : Int), .int .u32 (v1 : Int), .int .u16 (v2 : Int), .int .u16 (v3 : Int)] 44)
  have g1 := (HB4.block (w.heap.size + 1) (by have := ZV.out; omega)).trans Q1.out
  have q0_ := (cell_of_row _ _ 0 _ _ _ g1).trans (show (#[.int .u64 (d0 : Int), .int .u32 (d1 : Int), .int .u16 (d2 : Int), .int .u16 (d3 : Int)] : Array Value)[0]? = some (.int .u64 (d0 : Int)) from rfl)
  have q1_ := (cell_of_row _ _ 1 _ _ _ g1).trans (show (#[.int .u64 (d0 : Int), .int .u32 (d1 : Int), .int .u16 (d2 : Int), .int .u16 (d3 : Int)] : Array Value)[1]? = some (.int .u32 (d1 : Int)) from rfl)
  have q2_ := (cell_of_row _ _ 2 _ _ _ g1).trans (show (#[.int .u64 (d0 : Int), .int .u32 (d1 : Int), .int .u16 (d2 : Int), .int .u16 (d3 : Int)] : Array Value)[2]? = some (.int .u16 (d2 : Int)) from rfl)
  have q3_ := (cell_of_row _ _ 3 _ _ _ g1).trans (show (#[.int .u64 (d0 : Int), .int .u32 (d1 : Int), .int .u16 (d2 : Int), .int .u16 (d3 : Int)] : Array Value)[3]? = some (.int .u16 (d3 : Int)) from rfl)
  clear g1
  obtain ⟨g0, g2⟩ := fin _ HB4
  have k0 := g0.c
  have k2 := (cell_of_row _ _ 0 _ _ _ g2).trans (show (#[.slice none 0 0] : Array Value)[0]? = some (.slice none 0 0) from rfl)
  have u2 := frozen_of_row _ _ 0 _ _ g2
  have G2 := Lib.hid g2
  clear g0 g2
  go_wp2_with fail
  obtain ⟨X, hX⟩ : ∃ X, X = w3.alloc (.cells #[.int .u64 (d0 : Int), .int .u32 (v1 : Int), .int .u16 (v2 : Int), .int .u16 (v3 : Int)] 44) := ⟨_, rfl⟩
  have zx : w.heap.size + 2 < X.heap.size := by have := ZV.out; have := HB4.size; rw [hX]; omega
  rw [← hX] at HB4 ⊢
  clear k0 k2 u2 G2 q0_ q1_ q2_ q3_
  refine (HRD.out X HB4).mono ?_
  rintro e w5 ⟨rfl, W, g, hbW, hg, hf, A3, c3, bx, r3, far3, bt3, bl3⟩
  have zz := ZV.out
  have zx4 := HB4.size
  have zw := hbW.size
  have HB : But w.heap.size V.heap.size V w5 := ((but_of HB4).trans ((but_of hbW).mono (by omega))).trans (bt3.mono (by omega))
  have HL : Below w.heap.size V w5 := ((HB4.mono (by omega)).trans (hbW.mono (by omega))).trans bl3
  have g2 := (HB.block (w.heap.size + 2) (by omega) (by omega)).trans Q2.out
  have k0 := bx.c
  have k2 := (cell_of_row _ _ 0 _ _ _ g2).trans (show (#[.slice none 0 0] : Array Value)[0]? = some (.slice none 0 0) from rfl)
  have u2 := frozen_of_row _ _ 0 _ _ g2
  have G2 := Lib.hid g2
  clear g2 bx
  go_wp2_with fail
  have off3 : Off A3 (w.heap.size + 2) := fun a e => by
    rcases far3 with rfl | h
    · have := hold a e; omega
    · have := h a e; omega
  have B3 := bV.trans HL
  have hrow2 : (w5.setCell ⟨w.heap.size + 2, 0, none⟩ (.slice A3 n c3)).heap[w.heap.size + 2]? = some (.cells #[.slice A3 n c3] 28 (0, 0)) := (setc_rowT G2.out).trans rfl
  have hl := run_loadVar_row (P := Try.prog) _ _ _ 28 _ _ _ hrow2 Try.underlying28 rfl (by kernel_rfl)
  refine bodyPost_ret (v := .tuple #[.agg #[.slice A3 n c3], .int .i64 0]) (by simp [results, Try.results22, asAddr, hl]) rfl ?_
  exact ⟨A3, c3, rfl, rdB_off r3 off3 (by simp [World.setCell]) (fun j hj => Below.heap_setCell _ _ _ _ hj), far3.imp id (fun h a e => by have := h a e; omega), (B3).setCell (p := ⟨w.heap.size + 2, 0, none⟩) (by simp) _⟩
theorem ringSetDesc_at2 (A : Option Addr) (n c : Nat) (xs : List UInt8) (b k i : Int) (d0 d1 d2 d3 : Nat) (w : World) (hr : RdB w A n c xs) (hb : -9223372036854775808 ≤ b ∧ b ≤ 9223372036854775807) (hk : -9223372036854775808 ≤ k ∧ k ≤ 9223372036854775807) (hi : -9223372036854775808 ≤ i ∧ i ≤ 9223372036854775807) (hd : (⟨d0, d1, d2, d3⟩ : Dsc).ok) (h : rgCheck n b k = true) (hik : 0 ≤ i ∧ i < k) (v2 v3 : Nat) (hv : rgDscAt xs (b + 16 * i) = ⟨d0, d1, v2, v3⟩) (hne : ¬ ((v2 : Int) = (d2 : Int))) :
    Calls Try.prog 22 #[.agg #[.slice A n c], .int .i64 b, .int .i64 k, .int .i64 i, .agg #[.int .u64 (d0 : Int), .int .u32 (d1 : Int), .int .u16 (d2 : Int), .int .u16 (d3 : Int)]] w (RetMmE w A n (rgSetD xs (b + 16 * i) ⟨d0, d1, d2, d3⟩) 0) := by
  have hn := hr.n63
  have hL := hr.2.1
  obtain ⟨V, hV⟩ : ∃ V, V = ((w.alloc (.cells #[.slice A n c] 28)).alloc (.cells #[.int .u64 (d0 : Int), .int .u32 (d1 : Int), .int .u16 (d2 : Int), .int .u16 (d3 : Int)] 44)).alloc (.cells #[.slice none 0 0] 28) := ⟨_, rfl⟩
  have bV : Below w.heap.size w V := by rw [hV]; exact (((below_self w).alloc (Nat.le_refl _) _).alloc (by simp) _).alloc (by simp; omega) _
  have zV : V.heap.size = w.heap.size + 3 := by rw [hV]; simp
  have q0 : BoxAt V w.heap.size 28 (.slice A n c) := by rw [hV]; exact row_old _ (row_old _ (row_at _ rfl))
  have q1 : V.heap[w.heap.size + 1]? = some (.cells #[.int .u64 (d0 : Int), .int .u32 (d1 : Int), .int .u16 (d2 : Int), .int .u16 (d3 : Int)] 44 (0, 0)) := by rw [hV]; exact row_old _ (row_at _ (by simp))
  have q2 : BoxAt V (w.heap.size + 2) 28 (.slice none 0 0) := by rw [hV]; exact row_at _ (by simp)
  have Q0 := Lib.hid q0
  have Q1 := Lib.hid q1
  have Q2 := Lib.hid q2
  have ZV := Lib.hid zV
  have hrV := hr.below bV
  have HC := Lib.hid (fun W => ringCheck_any A n c b k W hn hb hk)
  have HD := Lib.hid (fun W (hW : Below V.heap.size V W) => ringDesc_any A n c xs b k i W (hrV.below hW) hb hk hi)
  have HV := Lib.hid hV
  have fin : ∀ (W : World), Below V.heap.size V W → BoxAt W w.heap.size 28 (.slice A n c) ∧ W.heap[w.heap.size + 2]? = some (.cells #[.slice none 0 0] 28 (0, 0)) := fun W hW => ⟨(hW.block _ (by have := ZV.out; omega)).trans Q0.out, (hW.block _ (by have := ZV.out; omega)).trans Q2.out⟩
  have k0 := q0.c
  clear hV zV q0 q1 q2
  have hE : rgDescE n b k i = 0 := by unfold rgDescE; rw [if_pos h, if_pos hik]
  have hw : rgDesc xs b k i = rgDscAt xs (b + 16 * i) := by unfold rgDesc; rw [hL, hE, if_pos rfl]
  rw [hw, hE, hv] at HD
  rw [show (⟨d0, d1, v2, v3⟩ : Dsc).v = #[.int .u64 (d0 : Int), .int .u32 (d1 : Int), .int .u16 (v2 : Int), .int .u16 (v3 : Int)] from rfl] at HD
  obtain ⟨o1, o2, o3, o4, o5, o6, o7⟩ := rgCheck_ok h
  have hold := hr.old (show 0 < n by omega)
  have i1 : decide (i < 0) = false := decide_eq_false (by omega)
  have i2 : decide (k ≤ i) = false := decide_eq_false (by omega)
  obtain ⟨p, hp⟩ : ∃ p, p = 16 * i := ⟨_, rfl⟩
  have hp0 : 0 ≤ p ∧ p ≤ 1000 := by omega
  have hp1 : 16 * i = p := hp.symm
  have wp : IntKind.i64.wrap p = p := wi64i (by omega)
  have hh := HC.out
  rw [h] at hh
  have HH := Lib.hid hh
  rw [hp1]
  have hrd := fun V2 (hb2 : Below V.heap.size V V2) => ringReading_yes A n c xs b k p 75 #[.pointer (some ⟨w.heap.size + 1, 0, none⟩), .pointer (some ⟨w.heap.size, 0, none⟩)] V2
    (fun W g w' => MmBox g w.heap.size n A (rgSetD xs (b + p) ⟨d0, d1, d2, d3⟩) W w') (hrV.below hb2) hb hk h hp0 (fun args W => by go_simp)
    (fun W g hbW hg hs hf => by
      have z := ZV.out
      have z2 := hb2.size
      exact ringSetDesc1_any g (w.heap.size + 1) w.heap.size A n c xs (b + p) ⟨d0, d1, d2, d3⟩ (.slice A n c) W hf ((hrV.below hb2).below hbW) hold (by omega) hd
        ((hbW.block _ (by omega)).trans ((hb2.block _ (by omega)).trans Q1.out)) ((hbW.block _ (by omega)).trans ((hb2.block _ (by omega)).trans Q0.out)) (by omega) (by omega))
  obtain ⟨ys, hys⟩ : ∃ ys, rgSetD xs (b + p) ⟨d0, d1, d2, d3⟩ = ys := ⟨_, rfl⟩
  rw [hys] at hrd ⊢
  have HRD := Lib.hid hrd
  clear hrd hys
  clear hh hp hw hE hv hd h
  go_enter Try.func22, Try.ntmps22
  go_wp2_with fail
  rw [← HV.out]
  refine (HH.out V).mono ?_
  rintro e w2 ⟨rfl, hb2⟩
  have k0 := (fin w2 hb2).1.c
  go_wp2_with fail
  refine (HD.out w2 hb2).mono ?_
  rintro e w3 ⟨rfl, hb3⟩
  have HB3 := below_then hb2 hb3
  have HB4 := HB3.alloc HB3.size (.cells #[.int .u64 (d0 : Int), .int .u32 (d1 : Int), .int .u16 (v2 : Int), .int .u16 (v3 : Int)] 44)
  have g1 := (HB4.block (w.heap.size + 1) (by have := ZV.out; omega)).trans Q1.out
  have q0_ := (cell_of_row _ _ 0 _ _ _ g1).trans (show (#[.int .u64 (d0 : Int), .int .u32 (d1 : Int), .int .u16 (d2 : Int), .int .u16 (d3 : Int)] : Array Value)[0]? = some (.int .u64 (d0 : Int)) from rfl)
  have q1_ := (cell_of_row _ _ 1 _ _ _ g1).trans (show (#[.int .u64 (d0 : Int), .int .u32 (d1 : Int), .int .u16 (d2 : Int), .int .u16 (d3 : Int)] : Array Value)[1]? = some (.int .u32 (d1 : Int)) from rfl)
  have q2_ := (cell_of_row _ _ 2 _ _ _ g1).trans (show (#[.int .u64 (d0 : Int), .int .u32 (d1 : Int), .int .u16 (d2 : Int), .int .u16 (d3 : Int)] : Array Value)[2]? = some (.int .u16 (d2 : Int)) from rfl)
  have q3_ := (cell_of_row _ _ 3 _ _ _ g1).trans (show (#[.int .u64 (d0 : Int), .int .u32 (d1 : Int), .int .u16 (d2 : Int), .int .u16 (d3 : Int)] : Array Value)[3]? = some (.int .u16 (d3 : Int)) from rfl)
  clear g1
  obtain ⟨g0, g2⟩ := fin _ HB4
  have k0 := g0.c
  have k2 := (cell_of_row _ _ 0 _ _ _ g2).trans (show (#[.slice none 0 0] : Array Value)[0]? = some (.slice none 0 0) from rfl)
  have u2 := frozen_of_row _ _ 0 _ _ g2
  have G2 := Lib.hid g2
  clear g0 g2
  go_wp2_with fail
  obtain ⟨X, hX⟩ : ∃ X, X = w3.alloc (.cells #[.int .u64 (d0 : Int), .int .u32 (d1 : Int), .int .u16 (v2 : Int), .int .u16 (v3 : Int)] 44) := ⟨_, rfl⟩
  have zx : w.heap.size + 2 < X.heap.size := by have := ZV.out; have := HB4.size; rw [hX]; omega
  rw [← hX] at HB4 ⊢
  clear k0 k2 u2 G2 q0_ q1_ q2_ q3_
  refine (HRD.out X HB4).mono ?_
  rintro e w5 ⟨rfl, W, g, hbW, hg, hf, A3, c3, bx, r3, far3, bt3, bl3⟩
  have zz := ZV.out
  have zx4 := HB4.size
  have zw := hbW.size
  have HB : But w.heap.size V.heap.size V w5 := ((but_of HB4).trans ((but_of hbW).mono (by omega))).trans (bt3.mono (by omega))
  have HL : Below w.heap.size V w5 := ((HB4.mono (by omega)).trans (hbW.mono (by omega))).trans bl3
  have g2 := (HB.block (w.heap.size + 2) (by omega) (by omega)).trans Q2.out
  have k0 := bx.c
  have k2 := (cell_of_row _ _ 0 _ _ _ g2).trans (show (#[.slice none 0 0] : Array Value)[0]? = some (.slice none 0 0) from rfl)
  have u2 := frozen_of_row _ _ 0 _ _ g2
  have G2 := Lib.hid g2
  clear g2 bx
  go_wp2_with fail
  have off3 : Off A3 (w.heap.size + 2) := fun a e => by
    rcases far3 with rfl | h
    · have := hold a e; omega
    · have := h a e; omega
  have B3 := bV.trans HL
  have hrow2 : (w5.setCell ⟨w.heap.size + 2, 0, none⟩ (.slice A3 n c3)).heap[w.heap.size + 2]? = some (.cells #[.slice A3 n c3] 28 (0, 0)) := (setc_rowT G2.out).trans rfl
  have hl := run_loadVar_row (P := Try.prog) _ _ _ 28 _ _ _ hrow2 Try.underlying28 rfl (by kernel_rfl)
  refine bodyPost_ret (v := .tuple #[.agg #[.slice A3 n c3], .int .i64 0]) (by simp [results, Try.results22, asAddr, hl]) rfl ?_
  exact ⟨A3, c3, rfl, rdB_off r3 off3 (by simp [World.setCell]) (fun j hj => Below.heap_setCell _ _ _ _ hj), far3.imp id (fun h a e => by have := h a e; omega), (B3).setCell (p := ⟨w.heap.size + 2, 0, none⟩) (by simp) _⟩
theorem ringSetDesc_at3 (A : Option Addr) (n c : Nat) (xs : List UInt8) (b k i : Int) (d0 d1 d2 d3 : Nat) (w : World) (hr : RdB w A n c xs) (hb : -9223372036854775808 ≤ b ∧ b ≤ 9223372036854775807) (hk : -9223372036854775808 ≤ k ∧ k ≤ 9223372036854775807) (hi : -9223372036854775808 ≤ i ∧ i ≤ 9223372036854775807) (hd : (⟨d0, d1, d2, d3⟩ : Dsc).ok) (h : rgCheck n b k = true) (hik : 0 ≤ i ∧ i < k) (v3 : Nat) (hv : rgDscAt xs (b + 16 * i) = ⟨d0, d1, d2, v3⟩) (hne : ¬ ((v3 : Int) = (d3 : Int))) :
    Calls Try.prog 22 #[.agg #[.slice A n c], .int .i64 b, .int .i64 k, .int .i64 i, .agg #[.int .u64 (d0 : Int), .int .u32 (d1 : Int), .int .u16 (d2 : Int), .int .u16 (d3 : Int)]] w (RetMmE w A n (rgSetD xs (b + 16 * i) ⟨d0, d1, d2, d3⟩) 0) := by
  have hn := hr.n63
  have hL := hr.2.1
  obtain ⟨V, hV⟩ : ∃ V, V = ((w.alloc (.cells #[.slice A n c] 28)).alloc (.cells #[.int .u64 (d0 : Int), .int .u32 (d1 : Int), .int .u16 (d2 : Int), .int .u16 (d3 : Int)] 44)).alloc (.cells #[.slice none 0 0] 28) := ⟨_, rfl⟩
  have bV : Below w.heap.size w V := by rw [hV]; exact (((below_self w).alloc (Nat.le_refl _) _).alloc (by simp) _).alloc (by simp; omega) _
  have zV : V.heap.size = w.heap.size + 3 := by rw [hV]; simp
  have q0 : BoxAt V w.heap.size 28 (.slice A n c) := by rw [hV]; exact row_old _ (row_old _ (row_at _ rfl))
  have q1 : V.heap[w.heap.size + 1]? = some (.cells #[.int .u64 (d0 : Int), .int .u32 (d1 : Int), .int .u16 (d2 : Int), .int .u16 (d3 : Int)] 44 (0, 0)) := by rw [hV]; exact row_old _ (row_at _ (by simp))
  have q2 : BoxAt V (w.heap.size + 2) 28 (.slice none 0 0) := by rw [hV]; exact row_at _ (by simp)
  have Q0 := Lib.hid q0
  have Q1 := Lib.hid q1
  have Q2 := Lib.hid q2
  have ZV := Lib.hid zV
  have hrV := hr.below bV
  have HC := Lib.hid (fun W => ringCheck_any A n c b k W hn hb hk)
  have HD := Lib.hid (fun W (hW : Below V.heap.size V W) => ringDesc_any A n c xs b k i W (hrV.below hW) hb hk hi)
  have HV := Lib.hid hV
  have fin : ∀ (W : World), Below V.heap.size V W → BoxAt W w.heap.size 28 (.slice A n c) ∧ W.heap[w.heap.size + 2]? = some (.cells #[.slice none 0 0] 28 (0, 0)) := fun W hW => ⟨(hW.block _ (by have := ZV.out; omega)).trans Q0.out, (hW.block _ (by have := ZV.out; omega)).trans Q2.out⟩
  have k0 := q0.c
  clear hV zV q0 q1 q2
  have hE : rgDescE n b k i = 0 := by unfold rgDescE; rw [if_pos h, if_pos hik]
  have hw : rgDesc xs b k i = rgDscAt xs (b + 16 * i) := by unfold rgDesc; rw [hL, hE, if_pos rfl]
  rw [hw, hE, hv] at HD
  rw [show (⟨d0, d1, d2, v3⟩ : Dsc).v = #[.int .u64 (d0 : Int), .int .u32 (d1 : Int), .int .u16 (d2 : Int), .int .u16 (v3 : Int)] from rfl] at HD
  obtain ⟨o1, o2, o3, o4, o5, o6, o7⟩ := rgCheck_ok h
  have hold := hr.old (show 0 < n by omega)
  have i1 : decide (i < 0) = false := decide_eq_false (by omega)
  have i2 : decide (k ≤ i) = false := decide_eq_false (by omega)
  obtain ⟨p, hp⟩ : ∃ p, p = 16 * i := ⟨_, rfl⟩
  have hp0 : 0 ≤ p ∧ p ≤ 1000 := by omega
  have hp1 : 16 * i = p := hp.symm
  have wp : IntKind.i64.wrap p = p := wi64i (by omega)
  have hh := HC.out
  rw [h] at hh
  have HH := Lib.hid hh
  rw [hp1]
  have hrd := fun V2 (hb2 : Below V.heap.size V V2) => ringReading_yes A n c xs b k p 75 #[.pointer (some ⟨w.heap.size + 1, 0, none⟩), .pointer (some ⟨w.heap.size, 0, none⟩)] V2
    (fun W g w' => MmBox g w.heap.size n A (rgSetD xs (b + p) ⟨d0, d1, d2, d3⟩) W w') (hrV.below hb2) hb hk h hp0 (fun args W => by go_simp)
    (fun W g hbW hg hs hf => by
      have z := ZV.out
      have z2 := hb2.size
      exact ringSetDesc1_any g (w.heap.size + 1) w.heap.size A n c xs (b + p) ⟨d0, d1, d2, d3⟩ (.slice A n c) W hf ((hrV.below hb2).below hbW) hold (by omega) hd
        ((hbW.block _ (by omega)).trans ((hb2.block _ (by omega)).trans Q1.out)) ((hbW.block _ (by omega)).trans ((hb2.block _ (by omega)).trans Q0.out)) (by omega) (by omega))
  obtain ⟨ys, hys⟩ : ∃ ys, rgSetD xs (b + p) ⟨d0, d1, d2, d3⟩ = ys := ⟨_, rfl⟩
  rw [hys] at hrd ⊢
  have HRD := Lib.hid hrd
  clear hrd hys
  clear hh hp hw hE hv hd h
  go_enter Try.func22, Try.ntmps22
  go_wp2_with fail
  rw [← HV.out]
  refine (HH.out V).mono ?_
  rintro e w2 ⟨rfl, hb2⟩
  have k0 := (fin w2 hb2).1.c
  go_wp2_with fail
  refine (HD.out w2 hb2).mono ?_
  rintro e w3 ⟨rfl, hb3⟩
  have HB3 := below_then hb2 hb3
  have HB4 := HB3.alloc HB3.size (.cells #[.int .u64 (d0 : Int), .int .u32 (d1 : Int), .int .u16 (d2 : Int), .int .u16 (v3 : Int)] 44)
  have g1 := (HB4.block (w.heap.size + 1) (by have := ZV.out; omega)).trans Q1.out
  have q0_ := (cell_of_row _ _ 0 _ _ _ g1).trans (show (#[.int .u64 (d0 : Int), .int .u32 (d1 : Int), .int .u16 (d2 : Int), .int .u16 (d3 : Int)] : Array Value)[0]? = some (.int .u64 (d0 : Int)) from rfl)
  have q1_ := (cell_of_row _ _ 1 _ _ _ g1).trans (show (#[.int .u64 (d0 : Int), .int .u32 (d1 : Int), .int .u16 (d2 : Int), .int .u16 (d3 : Int)] : Array Value)[1]? = some (.int .u32 (d1 : Int)) from rfl)
  have q2_ := (cell_of_row _ _ 2 _ _ _ g1).trans (show (#[.int .u64 (d0 : Int), .int .u32 (d1 : Int), .int .u16 (d2 : Int), .int .u16 (d3 : Int)] : Array Value)[2]? = some (.int .u16 (d2 : Int)) from rfl)
  have q3_ := (cell_of_row _ _ 3 _ _ _ g1).trans (show (#[.int .u64 (d0 : Int), .int .u32 (d1 : Int), .int .u16 (d2 : Int), .int .u16 (d3 : Int)] : Array Value)[3]? = some (.int .u16 (d3 : Int)) from rfl)
  clear g1
  obtain ⟨g0, g2⟩ := fin _ HB4
  have k0 := g0.c
  have k2 := (cell_of_row _ _ 0 _ _ _ g2).trans (show (#[.slice none 0 0] : Array Value)[0]? = some (.slice none 0 0) from rfl)
  have u2 := frozen_of_row _ _ 0 _ _ g2
  have G2 := Lib.hid g2
  clear g0 g2
  go_wp2_with fail
  obtain ⟨X, hX⟩ : ∃ X, X = w3.alloc (.cells #[.int .u64 (d0 : Int), .int .u32 (d1 : Int), .int .u16 (d2 : Int), .int .u16 (v3 : Int)] 44) := ⟨_, rfl⟩
  have zx : w.heap.size + 2 < X.heap.size := by have := ZV.out; have := HB4.size; rw [hX]; omega
  rw [← hX] at HB4 ⊢
  clear k0 k2 u2 G2 q0_ q1_ q2_ q3_
  refine (HRD.out X HB4).mono ?_
  rintro e w5 ⟨rfl, W, g, hbW, hg, hf, A3, c3, bx, r3, far3, bt3, bl3⟩
  have zz := ZV.out
  have zx4 := HB4.size
  have zw := hbW.size
  have HB : But w.heap.size V.heap.size V w5 := ((but_of HB4).trans ((but_of hbW).mono (by omega))).trans (bt3.mono (by omega))
  have HL : Below w.heap.size V w5 := ((HB4.mono (by omega)).trans (hbW.mono (by omega))).trans bl3
  have g2 := (HB.block (w.heap.size + 2) (by omega) (by omega)).trans Q2.out
  have k0 := bx.c
  have k2 := (cell_of_row _ _ 0 _ _ _ g2).trans (show (#[.slice none 0 0] : Array Value)[0]? = some (.slice none 0 0) from rfl)
  have u2 := frozen_of_row _ _ 0 _ _ g2
  have G2 := Lib.hid g2
  clear g2 bx
  go_wp2_with fail
  have off3 : Off A3 (w.heap.size + 2) := fun a e => by
    rcases far3 with rfl | h
    · have := hold a e; omega
    · have := h a e; omega
  have B3 := bV.trans HL
  have hrow2 : (w5.setCell ⟨w.heap.size + 2, 0, none⟩ (.slice A3 n c3)).heap[w.heap.size + 2]? = some (.cells #[.slice A3 n c3] 28 (0, 0)) := (setc_rowT G2.out).trans rfl
  have hl := run_loadVar_row (P := Try.prog) _ _ _ 28 _ _ _ hrow2 Try.underlying28 rfl (by kernel_rfl)
  refine bodyPost_ret (v := .tuple #[.agg #[.slice A3 n c3], .int .i64 0]) (by simp [results, Try.results22, asAddr, hl]) rfl ?_
  exact ⟨A3, c3, rfl, rdB_off r3 off3 (by simp [World.setCell]) (fun j hj => Below.heap_setCell _ _ _ _ hj), far3.imp id (fun h a e => by have := h a e; omega), (B3).setCell (p := ⟨w.heap.size + 2, 0, none⟩) (by simp) _⟩
theorem ringSetDesc_same (A : Option Addr) (n c : Nat) (xs : List UInt8) (b k i : Int) (d0 d1 d2 d3 : Nat) (w : World) (hr : RdB w A n c xs) (hb : -9223372036854775808 ≤ b ∧ b ≤ 9223372036854775807) (hk : -9223372036854775808 ≤ k ∧ k ≤ 9223372036854775807) (hi : -9223372036854775808 ≤ i ∧ i ≤ 9223372036854775807) (hd : (⟨d0, d1, d2, d3⟩ : Dsc).ok) (h : rgCheck n b k = true) (hik : 0 ≤ i ∧ i < k) (hv : rgDscAt xs (b + 16 * i) = ⟨d0, d1, d2, d3⟩) :
    Calls Try.prog 22 #[.agg #[.slice A n c], .int .i64 b, .int .i64 k, .int .i64 i, .agg #[.int .u64 (d0 : Int), .int .u32 (d1 : Int), .int .u16 (d2 : Int), .int .u16 (d3 : Int)]] w (RetMmE w A n xs 0) := by
  have hn := hr.n63
  have hL := hr.2.1
  obtain ⟨V, hV⟩ : ∃ V, V = ((w.alloc (.cells #[.slice A n c] 28)).alloc (.cells #[.int .u64 (d0 : Int), .int .u32 (d1 : Int), .int .u16 (d2 : Int), .int .u16 (d3 : Int)] 44)).alloc (.cells #[.slice none 0 0] 28) := ⟨_, rfl⟩
  have bV : Below w.heap.size w V := by rw [hV]; exact (((below_self w).alloc (Nat.le_refl _) _).alloc (by simp) _).alloc (by simp; omega) _
  have zV : V.heap.size = w.heap.size + 3 := by rw [hV]; simp
  have q0 : BoxAt V w.heap.size 28 (.slice A n c) := by rw [hV]; exact row_old _ (row_old _ (row_at _ rfl))
  have q1 : V.heap[w.heap.size + 1]? = some (.cells #[.int .u64 (d0 : Int), .int .u32 (d1 : Int), .int .u16 (d2 : Int), .int .u16 (d3 : Int)] 44 (0, 0)) := by rw [hV]; exact row_old _ (row_at _ (by simp))
  have q2 : BoxAt V (w.heap.size + 2) 28 (.slice none 0 0) := by rw [hV]; exact row_at _ (by simp)
  have Q0 := Lib.hid q0
  have Q1 := Lib.hid q1
  have Q2 := Lib.hid q2
  have ZV := Lib.hid zV
  have hrV := hr.below bV
  have HC := Lib.hid (fun W => ringCheck_any A n c b k W hn hb hk)
  have HD := Lib.hid (fun W (hW : Below V.heap.size V W) => ringDesc_any A n c xs b k i W (hrV.below hW) hb hk hi)
  have HV := Lib.hid hV
  have fin : ∀ (W : World), Below V.heap.size V W → BoxAt W w.heap.size 28 (.slice A n c) ∧ W.heap[w.heap.size + 2]? = some (.cells #[.slice none 0 0] 28 (0, 0)) := fun W hW => ⟨(hW.block _ (by have := ZV.out; omega)).trans Q0.out, (hW.block _ (by have := ZV.out; omega)).trans Q2.out⟩
  have k0 := q0.c
  clear hV zV q0 q1 q2
  have hE : rgDescE n b k i = 0 := by unfold rgDescE; rw [if_pos h, if_pos hik]
  have hw : rgDesc xs b k i = rgDscAt xs (b + 16 * i) := by unfold rgDesc; rw [hL, hE, if_pos rfl]
  rw [hw, hE, hv] at HD
  rw [show (⟨d0, d1, d2, d3⟩ : Dsc).v = #[.int .u64 (d0 : Int), .int .u32 (d1 : Int), .int .u16 (d2 : Int), .int .u16 (d3 : Int)] from rfl] at HD
  obtain ⟨o1, o2, o3, o4, o5, o6, o7⟩ := rgCheck_ok h
  have hold := hr.old (show 0 < n by omega)
  have i1 : decide (i < 0) = false := decide_eq_false (by omega)
  have i2 : decide (k ≤ i) = false := decide_eq_false (by omega)
  obtain ⟨p, hp⟩ : ∃ p, p = 16 * i := ⟨_, rfl⟩
  have hp0 : 0 ≤ p ∧ p ≤ 1000 := by omega
  have hp1 : 16 * i = p := hp.symm
  have wp : IntKind.i64.wrap p = p := wi64i (by omega)
  have hh := HC.out
  rw [h] at hh
  have HH := Lib.hid hh
  clear hh hp hw hE hv hd h
  go_enter Try.func22, Try.ntmps22
  go_wp2_with fail
  rw [← HV.out]
  refine (HH.out V).mono ?_
  rintro e w2 ⟨rfl, hb2⟩
  have k0 := (fin w2 hb2).1.c
  go_wp2_with fail
  refine (HD.out w2 hb2).mono ?_
  rintro e w3 ⟨rfl, hb3⟩
  have HB3 := below_then hb2 hb3
  have HB4 := HB3.alloc HB3.size (.cells #[.int .u64 (d0 : Int), .int .u32 (d1 : Int), .int .u16 (d2 : Int), .int .u16 (d3 : Int)] 44)
  have g1 := (HB4.block (w.heap.size + 1) (by have := ZV.out; omega)).trans Q1.out
  have q0_ := (cell_of_row _ _ 0 _ _ _ g1).trans (show (#[.int .u64 (d0 : Int), .int .u32 (d1 : Int), .int .u16 (d2 : Int), .int .u16 (d3 : Int)] : Array Value)[0]? = some (.int .u64 (d0 : Int)) from rfl)
  have q1_ := (cell_of_row _ _ 1 _ _ _ g1).trans (show (#[.int .u64 (d0 : Int), .int .u32 (d1 : Int), .int .u16 (d2 : Int), .int .u16 (d3 : Int)] : Array Value)[1]? = some (.int .u32 (d1 : Int)) from rfl)
  have q2_ := (cell_of_row _ _ 2 _ _ _ g1).trans (show (#[.int .u64 (d0 : Int), .int .u32 (d1 : Int), .int .u16 (d2 : Int), .int .u16 (d3 : Int)] : Array Value)[2]? = some (.int .u16 (d2 : Int)) from rfl)
  have q3_ := (cell_of_row _ _ 3 _ _ _ g1).trans (show (#[.int .u64 (d0 : Int), .int .u32 (d1 : Int), .int .u16 (d2 : Int), .int .u16 (d3 : Int)] : Array Value)[3]? = some (.int .u16 (d3 : Int)) from rfl)
  clear g1
  obtain ⟨g0, g2⟩ := fin _ HB4
  have k0 := g0.c
  have k2 := (cell_of_row _ _ 0 _ _ _ g2).trans (show (#[.slice none 0 0] : Array Value)[0]? = some (.slice none 0 0) from rfl)
  have u2 := frozen_of_row _ _ 0 _ _ g2
  have G2 := Lib.hid g2
  clear g0 g2
  go_wp2_with fail
  obtain ⟨X, hX⟩ : ∃ X, X = w3.alloc (.cells #[.int .u64 (d0 : Int), .int .u32 (d1 : Int), .int .u16 (d2 : Int), .int .u16 (d3 : Int)] 44) := ⟨_, rfl⟩
  have zx : w.heap.size + 2 < X.heap.size := by have := ZV.out; have := HB4.size; rw [hX]; omega
  rw [← hX] at HB4 G2 ⊢
  have B3 := below_then bV HB4
  have hrow2 : (X.setCell ⟨w.heap.size + 2, 0, none⟩ (.slice A n c)).heap[w.heap.size + 2]? = some (.cells #[.slice A n c] 28 (0, 0)) := (setc_rowT G2.out).trans rfl
  have hl := run_loadVar_row (P := Try.prog) _ _ _ 28 _ _ _ hrow2 Try.underlying28 rfl (by kernel_rfl)
  refine bodyPost_ret (v := .tuple #[.agg #[.slice A n c], .int .i64 0]) (by simp [results, Try.results22, asAddr, hl]) rfl ?_
  exact ⟨A, c, rfl, rd_far (hr.below (B3)) _ _ (fun hn0 a e => by have := hr.lt hn0 a e; show a.block ≠ w.heap.size + 2; omega), .inl rfl, (B3).setCell (p := ⟨w.heap.size + 2, 0, none⟩) (by simp) _⟩
theorem ringSetDesc_any (A : Option Addr) (n c : Nat) (xs : List UInt8) (b k i : Int) (d : Dsc) (w : World) (hr : RdB w A n c xs) (hb : -9223372036854775808 ≤ b ∧ b ≤ 9223372036854775807) (hk : -9223372036854775808 ≤ k ∧ k ≤ 9223372036854775807) (hi : -9223372036854775808 ≤ i ∧ i ≤ 9223372036854775807) (hd : d.ok) :
    Calls Try.prog 22 #[.agg #[.slice A n c], .int .i64 b, .int .i64 k, .int .i64 i, .agg d.v] w (RetMmE w A n (rgSetDesc xs b k i d) (rgDescE n b k i)) := by
  obtain ⟨d0, d1, d2, d3⟩ := d
  unfold rgSetDesc
  rw [hr.2.1]
  by_cases h : rgCheck n b k = true
  · by_cases hik : 0 ≤ i ∧ i < k
    · have hE : rgDescE n b k i = 0 := by unfold rgDescE; rw [if_pos h, if_pos hik]
      rw [hE, if_pos rfl]
      obtain ⟨⟨v0, v1, v2, v3⟩, hv⟩ : ∃ d, rgDscAt xs (b + 16 * i) = d := ⟨_, rfl⟩
      by_cases e0 : v0 = d0
      · subst e0
        by_cases e1 : v1 = d1
        · subst e1
          by_cases e2 : v2 = d2
          · subst e2
            by_cases e3 : v3 = d3
            · subst e3
              obtain ⟨o1, o2, o3, o4, o5, o6, o7⟩ := rgCheck_ok h
              rw [rgSetD_same hr.2.1 o1 (by omega) hv]
              exact ringSetDesc_same A n c xs b k i _ _ _ _ w hr hb hk hi hd h hik hv
            · exact ringSetDesc_at3 A n c xs b k i _ _ _ _ w hr hb hk hi hd h hik _ hv (fun q => e3 (Int.ofNat.inj q))
          · exact ringSetDesc_at2 A n c xs b k i _ _ _ _ w hr hb hk hi hd h hik _ _ hv (fun q => e2 (Int.ofNat.inj q))
        · exact ringSetDesc_at1 A n c xs b k i _ _ _ _ w hr hb hk hi hd h hik _ _ _ hv (fun q => e1 (Int.ofNat.inj q))
      · exact ringSetDesc_at0 A n c xs b k i _ _ _ _ w hr hb hk hi hd h hik _ _ _ _ hv (fun q => e0 (Int.ofNat.inj q))
    · have hE : rgDescE n b k i = 2 := by unfold rgDescE; rw [if_pos h, if_neg hik]
      rw [hE, if_neg (by decide)]
      by_cases hi0 : i < 0
      · exact ringSetDesc_low A n c xs b k i _ _ _ _ w hr hb hk hi h hi0
      · exact ringSetDesc_high A n c xs b k i _ _ _ _ w hr hb hk hi h hi0 (by omega)
  · have h : rgCheck n b k = false := by simpa using h
    have hE : rgDescE n b k i = 70 := by unfold rgDescE; rw [h]; rfl
    rw [hE, if_neg (by decide)]
    exact ringSetDesc_no A n c xs b k i _ _ _ _ w hr hb hk hi h
end Go.Proofs.Ytnfepikgbdeomaa
