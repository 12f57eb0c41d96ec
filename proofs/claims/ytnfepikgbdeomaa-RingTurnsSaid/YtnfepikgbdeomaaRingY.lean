/-
  Layer 7: rings: the law RingTurns.
-/
import Derived.Test.YtnfepikgbdeomaaRingX
namespace Go.Proofs.Ytnfepikgbdeomaa
set_option maxRecDepth 20000
open Go.RowKit
set_option linter.unusedVariables false
set_option linter.unusedSimpArgs false
set_option maxHeartbeats 8000000

theorem ringTurns_none (k : Int) (a : Nat) (hd : Int) (u v : Nat) (w : World) (hk : -9223372036854775808 ≤ k ∧ k ≤ 9223372036854775807) (ha : a < 65536) (hhd : -9223372036854775808 ≤ hd ∧ hd ≤ 9223372036854775807) (hu : u < 4294967296) (hv : v < 4294967296) (hN : ¬ rgN k) :
    Calls Try.prog 3 #[.int .i64 k, .int .u16 (a : Int), .int .i64 hd, .agg #[.int .u32 (u : Int), .int .u32 (v : Int)]] w (RetV w (.bool true)) := by
  have hsz : rgSize k = 0 := by unfold rgSize; rw [if_neg hN]
  obtain ⟨W0, hW0⟩ : ∃ W, W = w.alloc (.cells #[.int .u32 (u : Int), .int .u32 (v : Int)] 25) := ⟨_, rfl⟩
  have b0 : Below w.heap.size w W0 := by rw [hW0]; exact (below_self w).alloc (Nat.le_refl _) _
  have qu : W0.heap[w.heap.size]? = some (.cells #[.int .u32 (u : Int), .int .u32 (v : Int)] 25 (0, 0)) := by rw [hW0]; exact row_at _ rfl
  have z0 : W0.heap.size = w.heap.size + 1 := by rw [hW0]; simp
  have HZ := Lib.hid (fun W => ringSize_any k W hk)
  go_enter Try.func3, Try.ntmps3
  go_wp2_with (rw [← hW0]; clear hW0; (with_reducible refine wp_makeB rfl _ _ rfl .i64 .i64 500 rfl rfl (by omega) ?_); intro w1 ho1 hb1)
  refine named ?_
  intro W1 hW1
  have bW1 : Below w1.heap.size w1 W1 := by rw [hW1]; repeat' (first | exact Below.refl _ _ | (refine Below.alloc ?_ ?_ _; rotate_left; (simp <;> omega)) | refine Below.drew ?_)
  have zW1 := bW1.size
  have q1 : BoxAt W1 w1.heap.size 28 (.slice (some ⟨w.heap.size + 1, 0, none⟩) 500 500) := by rw [hW1]; exact row_at _ rfl
  have HW1 := Lib.hid hW1
  clear hW1
  have r1 := (z0 ▸ ho1.rd : RdB w1 (some ⟨w.heap.size + 1, 0, none⟩) 500 500 (List.replicate 500 0)).below bW1
  have qu := row_up (row_up qu hb1) bW1
  have B1 := below_then (below_then b0 hb1) bW1
  refine (HZ.out W1).mono ?_
  rintro e w2 ⟨rfl, rfl⟩
  rw [hsz]
  go_wp2_with fail
  refine (heads07 _).mono ?_
  rintro e w99 ⟨rfl, hb99⟩
  go_wp2
  go_ret
  exact ⟨rfl, below_then B1 hb99⟩
theorem ringTurns_neg (k : Int) (a : Nat) (hd : Int) (u v : Nat) (w : World) (hk : -9223372036854775808 ≤ k ∧ k ≤ 9223372036854775807) (ha : a < 65536) (hhd : -9223372036854775808 ≤ hd ∧ hd ≤ 9223372036854775807) (hu : u < 4294967296) (hv : v < 4294967296) (hN : rgN k) (h0 : hd < 0) :
    Calls Try.prog 3 #[.int .i64 k, .int .u16 (a : Int), .int .i64 hd, .agg #[.int .u32 (u : Int), .int .u32 (v : Int)]] w (RetV w (.bool true)) := by
  obtain ⟨z, hsz⟩ : ∃ z, rgSize k = z := ⟨_, rfl⟩
  have hz0 : ¬ (z = 0) := by have := (rgSize_le k).2.2 hN; omega
  have hz1 : (z == 0) = false := beq_eq_false_iff_ne.2 hz0
  have d0 : decide (hd < 0) = true := decide_eq_true h0
  obtain ⟨W0, hW0⟩ : ∃ W, W = w.alloc (.cells #[.int .u32 (u : Int), .int .u32 (v : Int)] 25) := ⟨_, rfl⟩
  have b0 : Below w.heap.size w W0 := by rw [hW0]; exact (below_self w).alloc (Nat.le_refl _) _
  have qu : W0.heap[w.heap.size]? = some (.cells #[.int .u32 (u : Int), .int .u32 (v : Int)] 25 (0, 0)) := by rw [hW0]; exact row_at _ rfl
  have z0 : W0.heap.size = w.heap.size + 1 := by rw [hW0]; simp
  have HZ := Lib.hid (fun W => ringSize_any k W hk)
  go_enter Try.func3, Try.ntmps3
  go_wp2_with (rw [← hW0]; clear hW0; (with_reducible refine wp_makeB rfl _ _ rfl .i64 .i64 500 rfl rfl (by omega) ?_); intro w1 ho1 hb1)
  refine named ?_
  intro W1 hW1
  have bW1 : Below w1.heap.size w1 W1 := by rw [hW1]; repeat' (first | exact Below.refl _ _ | (refine Below.alloc ?_ ?_ _; rotate_left; (simp <;> omega)) | refine Below.drew ?_)
  have zW1 := bW1.size
  have q1 : BoxAt W1 w1.heap.size 28 (.slice (some ⟨w.heap.size + 1, 0, none⟩) 500 500) := by rw [hW1]; exact row_at _ rfl
  have HW1 := Lib.hid hW1
  clear hW1
  have r1 := (z0 ▸ ho1.rd : RdB w1 (some ⟨w.heap.size + 1, 0, none⟩) 500 500 (List.replicate 500 0)).below bW1
  have qu := row_up (row_up qu hb1) bW1
  have B1 := below_then (below_then b0 hb1) bW1
  refine (HZ.out W1).mono ?_
  rintro e w2 ⟨rfl, rfl⟩
  rw [hsz]
  go_wp2_with fail
  refine (heads07 _).mono ?_
  rintro e w99 ⟨rfl, hb99⟩
  go_wp2
  go_ret
  exact ⟨rfl, below_then B1 hb99⟩
theorem ringTurns_great (k : Int) (a : Nat) (hd : Int) (u v : Nat) (w : World) (hk : -9223372036854775808 ≤ k ∧ k ≤ 9223372036854775807) (ha : a < 65536) (hhd : -9223372036854775808 ≤ hd ∧ hd ≤ 9223372036854775807) (hu : u < 4294967296) (hv : v < 4294967296) (hN : rgN k) (h0 : ¬ hd < 0) (h1 : 65535 < hd) :
    Calls Try.prog 3 #[.int .i64 k, .int .u16 (a : Int), .int .i64 hd, .agg #[.int .u32 (u : Int), .int .u32 (v : Int)]] w (RetV w (.bool true)) := by
  obtain ⟨z, hsz⟩ : ∃ z, rgSize k = z := ⟨_, rfl⟩
  have hz0 : ¬ (z = 0) := by have := (rgSize_le k).2.2 hN; omega
  have hz1 : (z == 0) = false := beq_eq_false_iff_ne.2 hz0
  have d0 : decide (hd < 0) = false := decide_eq_false h0
  have d1 : decide (65535 < hd) = true := decide_eq_true h1
  obtain ⟨W0, hW0⟩ : ∃ W, W = w.alloc (.cells #[.int .u32 (u : Int), .int .u32 (v : Int)] 25) := ⟨_, rfl⟩
  have b0 : Below w.heap.size w W0 := by rw [hW0]; exact (below_self w).alloc (Nat.le_refl _) _
  have qu : W0.heap[w.heap.size]? = some (.cells #[.int .u32 (u : Int), .int .u32 (v : Int)] 25 (0, 0)) := by rw [hW0]; exact row_at _ rfl
  have z0 : W0.heap.size = w.heap.size + 1 := by rw [hW0]; simp
  have HZ := Lib.hid (fun W => ringSize_any k W hk)
  go_enter Try.func3, Try.ntmps3
  go_wp2_with (rw [← hW0]; clear hW0; (with_reducible refine wp_makeB rfl _ _ rfl .i64 .i64 500 rfl rfl (by omega) ?_); intro w1 ho1 hb1)
  refine named ?_
  intro W1 hW1
  have bW1 : Below w1.heap.size w1 W1 := by rw [hW1]; repeat' (first | exact Below.refl _ _ | (refine Below.alloc ?_ ?_ _; rotate_left; (simp <;> omega)) | refine Below.drew ?_)
  have zW1 := bW1.size
  have q1 : BoxAt W1 w1.heap.size 28 (.slice (some ⟨w.heap.size + 1, 0, none⟩) 500 500) := by rw [hW1]; exact row_at _ rfl
  have HW1 := Lib.hid hW1
  clear hW1
  have r1 := (z0 ▸ ho1.rd : RdB w1 (some ⟨w.heap.size + 1, 0, none⟩) 500 500 (List.replicate 500 0)).below bW1
  have qu := row_up (row_up qu hb1) bW1
  have B1 := below_then (below_then b0 hb1) bW1
  refine (HZ.out W1).mono ?_
  rintro e w2 ⟨rfl, rfl⟩
  rw [hsz]
  go_wp2_with fail
  refine (heads07 _).mono ?_
  rintro e w99 ⟨rfl, hb99⟩
  go_wp2
  go_ret
  exact ⟨rfl, below_then B1 hb99⟩
theorem ringTurns_main (k : Int) (a : Nat) (hd : Int) (u v : Nat) (w : World) (hk : -9223372036854775808 ≤ k ∧ k ≤ 9223372036854775807) (ha : a < 65536) (hhd : -9223372036854775808 ≤ hd ∧ hd ≤ 9223372036854775807) (hu : u < 4294967296) (hv : v < 4294967296) (hN : rgN k) (h0 : ¬ hd < 0) (h1 : ¬ 65535 < hd) :
    Calls Try.prog 3 #[.int .i64 k, .int .u16 (a : Int), .int .i64 hd, .agg #[.int .u32 (u : Int), .int .u32 (v : Int)]] w (RetV w (.bool true)) := by
  obtain ⟨z, hsz⟩ : ∃ z, rgSize k = z := ⟨_, rfl⟩
  have hz0 : ¬ (z = 0) := by have := (rgSize_le k).2.2 hN; omega
  have hz1 : (z == 0) = false := beq_eq_false_iff_ne.2 hz0
  have d0 : decide (hd < 0) = false := decide_eq_false h0
  have d1 : decide (65535 < hd) = false := decide_eq_false h1
  have hck : rgCheck 500 4 k = true := decide_eq_true ⟨by omega, hN, by omega, by have := (rgSize_le k).2.1; omega⟩
  have hE : rgE 500 4 k = 0 := by unfold rgE; rw [if_pos hck]
  obtain ⟨x, hx⟩ : ∃ x : Nat, hd = (x : Int) := ⟨hd.toNat, by omega⟩
  subst hx
  have hx6 : x < 65536 := by omega
  have hxm : ((x : Int) % 18446744073709551616).toNat = x := by omega
  have hk16 := rgN_le hN
  obtain ⟨m, hm⟩ : ∃ m : Nat, k = (m : Int) := ⟨k.toNat, by omega⟩
  have hup := rgN_up hN a
  have hdn := rgN_down hN a ha
  have hmk : k.toNat = m := by omega
  rw [hmk] at hup hdn
  obtain ⟨up, hup2⟩ : ∃ p, p = (a + m) % 65536 := ⟨_, rfl⟩
  obtain ⟨dn, hdn2⟩ : ∃ p, p = (a + 65536 - m) % 65536 := ⟨_, rfl⟩
  obtain ⟨nx, hnx⟩ : ∃ p, p = (a + 1) % 65536 := ⟨_, rfl⟩
  rw [← hup2] at hup
  rw [← hdn2] at hdn
  have wk : IntKind.u16.wrap k = (m : Int) := by rw [IntKind.wrap_u16]; omega
  have wup : IntKind.u16.wrap ((a : Int) + (m : Int)) = (up : Int) := by rw [IntKind.wrap_u16]; omega
  have wdn : IntKind.u16.wrap ((a : Int) - (m : Int)) = (dn : Int) := by rw [IntKind.wrap_u16]; omega
  have wnx : IntKind.u16.wrap ((a : Int) + 1) = (nx : Int) := by rw [IntKind.wrap_u16]; omega
  obtain ⟨Z, hZ⟩ : ∃ Z : List UInt8, Z = List.replicate 500 0 := ⟨_, rfl⟩
  have hZl : Z.length = 500 := by rw [hZ]; rfl
  obtain ⟨M1, hM1⟩ : ∃ M, M = rgOffer Z 4 k a x := ⟨_, rfl⟩
  have hM1l : M1.length = 500 := by rw [hM1, rgOffer_len, hZl]
  obtain ⟨M2, hM2⟩ : ∃ M, M = rgReturn M1 4 k a u v := ⟨_, rfl⟩
  have hAt : rgAt M2 4 k up = x := by rw [hM2, rgReturn_at, hM1]; exact rgOffer_at (by rw [hZl]; exact hck) a up x hx6 (by rw [hmk]; exact hup)
  have hUs : rgUId M2 4 k dn = u ∧ rgULen M2 4 k dn = v := by rw [hM2]; exact rgReturn_used (by rw [hM1l]; exact hck) a dn u v hu hv (by rw [hmk]; exact hdn)
  have hAv : rgAvail M2 4 k = nx := by rw [hM2, rgReturn_avail, hM1, rgOffer_idx (by rw [hZl]; exact hck) a x, hnx]
  have hup6 : up < 65536 := by omega
  have hdn6 : dn < 65536 := by omega
  have H1 := Lib.hid (fun A c W (h : RdB W A 500 c Z) => ringOffer_any A 500 c Z 4 k a x W h (by omega) hk ha (by omega))
  have H2 := Lib.hid (fun A c W (h : RdB W A 500 c M1) => ringReturn_any A 500 c M1 4 k a u v W h (by omega) hk ha hu hv)
  have H3 := Lib.hid (fun A c W (h : RdB W A 500 c M2) => ringAvailAt_any A 500 c M2 4 k up W h (by omega) hk hup6)
  have H4 := Lib.hid (fun A c W (h : RdB W A 500 c M2) => ringUsedAt_any A 500 c M2 4 k dn W h (by omega) hk hdn6)
  have H5 := Lib.hid (fun A c W (h : RdB W A 500 c M2) => ringAvailN_any A 500 c M2 4 k W h (by omega) hk)
  rw [hE, hxm, ← hM1] at H1
  rw [hE, ← hM2] at H2
  rw [hE, hAt] at H3
  rw [hE, hUs.1, hUs.2] at H4
  rw [hE, hAv] at H5
  clear hup2 hdn2 hM1 hM2 hAt hUs hAv hE hck hup hdn hm hmk hnx
  obtain ⟨W0, hW0⟩ : ∃ W, W = w.alloc (.cells #[.int .u32 (u : Int), .int .u32 (v : Int)] 25) := ⟨_, rfl⟩
  have b0 : Below w.heap.size w W0 := by rw [hW0]; exact (below_self w).alloc (Nat.le_refl _) _
  have qu : W0.heap[w.heap.size]? = some (.cells #[.int .u32 (u : Int), .int .u32 (v : Int)] 25 (0, 0)) := by rw [hW0]; exact row_at _ rfl
  have z0 : W0.heap.size = w.heap.size + 1 := by rw [hW0]; simp
  have HZ := Lib.hid (fun W => ringSize_any k W hk)
  go_enter Try.func3, Try.ntmps3
  go_wp2_with (rw [← hW0]; clear hW0; (with_reducible refine wp_makeB rfl _ _ rfl .i64 .i64 500 rfl rfl (by omega) ?_); intro w1 ho1 hb1)
  refine named ?_
  intro W1 hW1
  have bW1 : Below w1.heap.size w1 W1 := by rw [hW1]; repeat' (first | exact Below.refl _ _ | (refine Below.alloc ?_ ?_ _; rotate_left; (simp <;> omega)) | refine Below.drew ?_)
  have zW1 := bW1.size
  have q1 : BoxAt W1 w1.heap.size 28 (.slice (some ⟨w.heap.size + 1, 0, none⟩) 500 500) := by rw [hW1]; exact row_at _ rfl
  have HW1 := Lib.hid hW1
  clear hW1
  have r1 := (z0 ▸ ho1.rd : RdB w1 (some ⟨w.heap.size + 1, 0, none⟩) 500 500 (List.replicate 500 0)).below bW1
  have qu := row_up (row_up qu hb1) bW1
  have B1 := below_then (below_then b0 hb1) bW1
  refine (HZ.out W1).mono ?_
  rintro e w2 ⟨rfl, rfl⟩
  rw [hsz]
  rw [← hZ] at r1
  have k1 := q1.c
  go_wp2_with fail
  refine (H1.out _ _ W1 r1).mono ?_
  rintro e w2 ⟨A2, c2, rfl, r2, far2, hb2⟩
  have qu := row_up qu hb2
  have u0 := (cell_of_row _ _ 0 _ _ _ (row_old (.cells #[.slice A2 500 c2] 28) qu)).trans (show (#[.int .u32 (u : Int), .int .u32 (v : Int)] : Array Value)[0]? = some (.int .u32 (u : Int)) from rfl)
  have u1 := (cell_of_row _ _ 1 _ _ _ (row_old (.cells #[.slice A2 500 c2] 28) qu)).trans (show (#[.int .u32 (u : Int), .int .u32 (v : Int)] : Array Value)[1]? = some (.int .u32 (v : Int)) from rfl)
  clear k1
  go_wp2_with fail
  refine named ?_
  intro W2 hW2
  have bW2 : Below w2.heap.size w2 W2 := by rw [hW2]; repeat' (first | exact Below.refl _ _ | (refine Below.alloc ?_ ?_ _; rotate_left; (simp <;> omega)) | refine Below.drew ?_)
  have zW2 := bW2.size
  have q2 : BoxAt W2 w2.heap.size 28 (.slice A2 500 c2) := by rw [hW2]; exact row_at _ rfl
  have HW2 := Lib.hid hW2
  clear hW2
  have r2 := r2.below bW2
  have qu := row_up qu bW2
  clear u0 u1
  refine (H2.out _ _ W2 r2).mono ?_
  rintro e w3 ⟨A3, c3, rfl, r3, far3, hb3⟩
  have qu := row_up qu hb3
  go_wp2_with fail
  refine named ?_
  intro W3 hW3
  have bW3 : Below w3.heap.size w3 W3 := by rw [hW3]; repeat' (first | exact Below.refl _ _ | (refine Below.alloc ?_ ?_ _; rotate_left; (simp <;> omega)) | refine Below.drew ?_)
  have zW3 := bW3.size
  have q3 : BoxAt W3 w3.heap.size 28 (.slice A3 500 c3) := by rw [hW3]; exact row_at _ rfl
  have HW3 := Lib.hid hW3
  clear hW3
  have r3 := r3.below bW3
  have qu := row_up qu bW3
  refine (H3.out _ _ W3 r3).mono ?_
  rintro e w4 ⟨rfl, hb4⟩
  have qu := row_up qu hb4
  have q3 := q3.up hb4
  have r3 := r3.below hb4
  have k3 := q3.c
  go_wp2_with fail
  refine (H4.out _ _ w4 r3).mono ?_
  rintro e w5 ⟨rfl, hb5⟩
  clear k3
  have qu := row_up qu hb5
  have q3 := q3.up hb5
  have r3 := r3.below hb5
  have k3 := (q3.al (.cells #[.int .u32 (u : Int), .int .u32 (v : Int)] 25)).c
  go_wp2_with fail
  refine named ?_
  intro W5 hW5
  have bW5 : Below w5.heap.size w5 W5 := by rw [hW5]; repeat' (first | exact Below.refl _ _ | (refine Below.alloc ?_ ?_ _; rotate_left; (simp <;> omega)) | refine Below.drew ?_)
  have zW5 := bW5.size
  have qy : W5.heap[w5.heap.size]? = some (.cells #[.int .u32 (u : Int), .int .u32 (v : Int)] 25 (0, 0)) := by rw [hW5]; exact row_at _ rfl
  have HW5 := Lib.hid hW5
  clear hW5
  have qu := row_up qu bW5
  have r3 := r3.below bW5
  refine (H5.out _ _ W5 r3).mono ?_
  rintro e w6 ⟨rfl, hb6⟩
  clear k3
  have qu := row_up qu hb6
  have qy := row_up qy hb6
  have u0 := (cell_of_row _ _ 0 _ _ _ qu).trans (show (#[.int .u32 (u : Int), .int .u32 (v : Int)] : Array Value)[0]? = some (.int .u32 (u : Int)) from rfl)
  have u1 := (cell_of_row _ _ 1 _ _ _ qu).trans (show (#[.int .u32 (u : Int), .int .u32 (v : Int)] : Array Value)[1]? = some (.int .u32 (v : Int)) from rfl)
  have y0 := (cell_of_row _ _ 0 _ _ _ qy).trans (show (#[.int .u32 (u : Int), .int .u32 (v : Int)] : Array Value)[0]? = some (.int .u32 (u : Int)) from rfl)
  have y1 := (cell_of_row _ _ 1 _ _ _ qy).trans (show (#[.int .u32 (u : Int), .int .u32 (v : Int)] : Array Value)[1]? = some (.int .u32 (v : Int)) from rfl)
  clear qu qy
  have BX := below_then (below_then (below_then (below_then (below_then (below_then (below_then (below_then B1 hb2) bW2) hb3) bW3) hb4) hb5) bW5) hb6
  go_wp2_with fail
  refine (heads07 _).mono ?_
  rintro e w7 ⟨rfl, hb7⟩
  go_wp2
  go_ret
  exact ⟨rfl, below_then BX hb7⟩
theorem ringTurns_law (k : Int) (a : Nat) (hd : Int) (u v : Nat) (w : World) (hk : -9223372036854775808 ≤ k ∧ k ≤ 9223372036854775807) (ha : a < 65536) (hhd : -9223372036854775808 ≤ hd ∧ hd ≤ 9223372036854775807) (hu : u < 4294967296) (hv : v < 4294967296) :
    Calls Try.prog 3 #[.int .i64 k, .int .u16 (a : Int), .int .i64 hd, .agg #[.int .u32 (u : Int), .int .u32 (v : Int)]] w (RetV w (.bool true)) := by
  by_cases hN : rgN k
  · by_cases h0 : hd < 0
    · exact ringTurns_neg k a hd u v w hk ha hhd hu hv hN h0
    · by_cases h1 : 65535 < hd
      · exact ringTurns_great k a hd u v w hk ha hhd hu hv hN h0 h1
      · exact ringTurns_main k a hd u v w hk ha hhd hu hv hN h0 h1
  · exact ringTurns_none k a hd u v w hk ha hhd hu hv hN
end Go.Proofs.Ytnfepikgbdeomaa
