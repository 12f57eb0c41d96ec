/-
  Layer 7: rings: the law RingKeeps.
-/
import Derived.Test.YtnfepikgbdeomaaRingZ
import Derived.LoopTactic
namespace Go.Proofs.Ytnfepikgbdeomaa
set_option maxRecDepth 20000
open Go.RowKit
set_option linter.unusedVariables false
set_option linter.unusedSimpArgs false
set_option maxHeartbeats 8000000

theorem ringKeeps_great (A : Option Addr) (n c : Nat) (xs : List UInt8) (b k i : Int) (d0 d1 d2 d3 : Nat) (a : Nat) (u v : Nat) (w : World) (hr : RdB w A n c xs) (hb : (-9223372036854775808 ≤ b ∧ b ≤ 9223372036854775807)) (hk : (-9223372036854775808 ≤ k ∧ k ≤ 9223372036854775807)) (hi : (-9223372036854775808 ≤ i ∧ i ≤ 9223372036854775807)) (h0 : d0 < 18446744073709551616) (h1 : d1 < 4294967296) (h2 : d2 < 65536) (h3 : d3 < 65536) (ha : a < 65536) (hu : u < 4294967296) (hv : v < 4294967296) (hF : ¬ n ≤ 3000) :
    Calls Try.prog 5 #[.agg #[.slice A n c], .int .i64 b, .int .i64 k, .int .i64 i, .agg #[.int .u64 (d0 : Int), .int .u32 (d1 : Int), .int .u16 (d2 : Int), .int .u16 (d3 : Int)], .int .u16 (a : Int), .agg #[.int .u32 (u : Int), .int .u32 (v : Int)]] w (RetV w (.bool true)) := by
  have DF : decide (n ≤ 3000) = false := decide_eq_false hF
  have hn := hr.n63
  have HCk := Lib.hid (fun W => refCheck7_any A n c b k W hr.n63 hb hk)
  obtain ⟨W0, hW0⟩ : ∃ W, W = ((w.alloc (.cells #[.slice A n c] 28)).alloc (.cells #[.int .u64 (d0 : Int), .int .u32 (d1 : Int), .int .u16 (d2 : Int), .int .u16 (d3 : Int)] 44)).alloc (.cells #[.int .u32 (u : Int), .int .u32 (v : Int)] 25) := ⟨_, rfl⟩
  have B : Below w.heap.size w W0 := by rw [hW0]; exact (((below_self w).alloc (Nat.le_refl _) _).alloc (by simp) _).alloc (by simp; omega) _
  have qm : BoxAt W0 w.heap.size 28 (.slice A n c) := by rw [hW0]; exact row_old _ (row_old _ (row_at _ rfl))
  have qd : W0.heap[w.heap.size + 1]? = some (.cells #[.int .u64 (d0 : Int), .int .u32 (d1 : Int), .int .u16 (d2 : Int), .int .u16 (d3 : Int)] 44 (0, 0)) := by rw [hW0]; exact row_old _ (row_at _ (by simp))
  have qu : W0.heap[w.heap.size + 2]? = some (.cells #[.int .u32 (u : Int), .int .u32 (v : Int)] 25 (0, 0)) := by rw [hW0]; exact row_at _ (by simp)
  have zW : W0.heap.size = w.heap.size + 3 := by rw [hW0]; simp
  have rx := hr.below B
  have HW0 := Lib.hid hW0
  clear hW0
  go_enter Try.func5, Try.ntmps5
  have km := qm.c
  go_wp2_with fail
  rw [← HW0.out]
  refine (few_any A n c W0 hn).mono ?_
  rintro e w1 ⟨rfl, hb1⟩
  rw [DF]
  have B := below_then B hb1
  have zs1 := hb1.size
  have qm : BoxAt _ _ _ _ := row_up qm hb1
  have qd := row_up qd hb1
  have qu := row_up qu hb1
  have rx := rx.below hb1
  clear km
  go_wp2_with fail
  refine (heads07 _).mono ?_
  rintro e w99 ⟨rfl, hb99⟩
  go_wp2
  go_ret
  exact ⟨rfl, below_then B hb99⟩
theorem ringKeeps_none (A : Option Addr) (n c : Nat) (xs : List UInt8) (b k i : Int) (d0 d1 d2 d3 : Nat) (a : Nat) (u v : Nat) (w : World) (hr : RdB w A n c xs) (hb : (-9223372036854775808 ≤ b ∧ b ≤ 9223372036854775807)) (hk : (-9223372036854775808 ≤ k ∧ k ≤ 9223372036854775807)) (hi : (-9223372036854775808 ≤ i ∧ i ≤ 9223372036854775807)) (h0 : d0 < 18446744073709551616) (h1 : d1 < 4294967296) (h2 : d2 < 65536) (h3 : d3 < 65536) (ha : a < 65536) (hu : u < 4294967296) (hv : v < 4294967296) (hF : n ≤ 3000) (hC : rgCheck n b k = false) :
    Calls Try.prog 5 #[.agg #[.slice A n c], .int .i64 b, .int .i64 k, .int .i64 i, .agg #[.int .u64 (d0 : Int), .int .u32 (d1 : Int), .int .u16 (d2 : Int), .int .u16 (d3 : Int)], .int .u16 (a : Int), .agg #[.int .u32 (u : Int), .int .u32 (v : Int)]] w (RetV w (.bool true)) := by
  have DF : decide (n ≤ 3000) = true := decide_eq_true hF
  have DC := hC
  have hn := hr.n63
  have HCk := Lib.hid (fun W => refCheck7_any A n c b k W hr.n63 hb hk)
  obtain ⟨W0, hW0⟩ : ∃ W, W = ((w.alloc (.cells #[.slice A n c] 28)).alloc (.cells #[.int .u64 (d0 : Int), .int .u32 (d1 : Int), .int .u16 (d2 : Int), .int .u16 (d3 : Int)] 44)).alloc (.cells #[.int .u32 (u : Int), .int .u32 (v : Int)] 25) := ⟨_, rfl⟩
  have B : Below w.heap.size w W0 := by rw [hW0]; exact (((below_self w).alloc (Nat.le_refl _) _).alloc (by simp) _).alloc (by simp; omega) _
  have qm : BoxAt W0 w.heap.size 28 (.slice A n c) := by rw [hW0]; exact row_old _ (row_old _ (row_at _ rfl))
  have qd : W0.heap[w.heap.size + 1]? = some (.cells #[.int .u64 (d0 : Int), .int .u32 (d1 : Int), .int .u16 (d2 : Int), .int .u16 (d3 : Int)] 44 (0, 0)) := by rw [hW0]; exact row_old _ (row_at _ (by simp))
  have qu : W0.heap[w.heap.size + 2]? = some (.cells #[.int .u32 (u : Int), .int .u32 (v : Int)] 25 (0, 0)) := by rw [hW0]; exact row_at _ (by simp)
  have zW : W0.heap.size = w.heap.size + 3 := by rw [hW0]; simp
  have rx := hr.below B
  have HW0 := Lib.hid hW0
  clear hW0
  go_enter Try.func5, Try.ntmps5
  have km := qm.c
  go_wp2_with fail
  rw [← HW0.out]
  refine (few_any A n c W0 hn).mono ?_
  rintro e w1 ⟨rfl, hb1⟩
  rw [DF]
  have B := below_then B hb1
  have zs1 := hb1.size
  have qm : BoxAt _ _ _ _ := row_up qm hb1
  have qd := row_up qd hb1
  have qu := row_up qu hb1
  have rx := rx.below hb1
  clear km
  have km := qm.c
  go_wp2_with fail
  refine (HCk.out w1).mono ?_
  rintro e w2 ⟨rfl, hb2⟩
  rw [DC]
  have B := below_then B hb2
  have zs2 := hb2.size
  clear km
  have qm : BoxAt _ _ _ _ := row_up qm hb2
  have qd := row_up qd hb2
  have qu := row_up qu hb2
  have rx := rx.below hb2
  go_wp2_with fail
  refine (heads07 _).mono ?_
  rintro e w99 ⟨rfl, hb99⟩
  go_wp2
  go_ret
  exact ⟨rfl, below_then B hb99⟩
theorem ringKeeps_low (A : Option Addr) (n c : Nat) (xs : List UInt8) (b k i : Int) (d0 d1 d2 d3 : Nat) (a : Nat) (u v : Nat) (w : World) (hr : RdB w A n c xs) (hb : (-9223372036854775808 ≤ b ∧ b ≤ 9223372036854775807)) (hk : (-9223372036854775808 ≤ k ∧ k ≤ 9223372036854775807)) (hi : (-9223372036854775808 ≤ i ∧ i ≤ 9223372036854775807)) (h0 : d0 < 18446744073709551616) (h1 : d1 < 4294967296) (h2 : d2 < 65536) (h3 : d3 < 65536) (ha : a < 65536) (hu : u < 4294967296) (hv : v < 4294967296) (hF : n ≤ 3000) (hC : rgCheck n b k = true) (hi0 : i < 0) :
    Calls Try.prog 5 #[.agg #[.slice A n c], .int .i64 b, .int .i64 k, .int .i64 i, .agg #[.int .u64 (d0 : Int), .int .u32 (d1 : Int), .int .u16 (d2 : Int), .int .u16 (d3 : Int)], .int .u16 (a : Int), .agg #[.int .u32 (u : Int), .int .u32 (v : Int)]] w (RetV w (.bool true)) := by
  have DF : decide (n ≤ 3000) = true := decide_eq_true hF
  have DC := hC
  have i1 : decide (i < 0) = true := decide_eq_true hi0
  have hn := hr.n63
  have HCk := Lib.hid (fun W => refCheck7_any A n c b k W hr.n63 hb hk)
  obtain ⟨W0, hW0⟩ : ∃ W, W = ((w.alloc (.cells #[.slice A n c] 28)).alloc (.cells #[.int .u64 (d0 : Int), .int .u32 (d1 : Int), .int .u16 (d2 : Int), .int .u16 (d3 : Int)] 44)).alloc (.cells #[.int .u32 (u : Int), .int .u32 (v : Int)] 25) := ⟨_, rfl⟩
  have B : Below w.heap.size w W0 := by rw [hW0]; exact (((below_self w).alloc (Nat.le_refl _) _).alloc (by simp) _).alloc (by simp; omega) _
  have qm : BoxAt W0 w.heap.size 28 (.slice A n c) := by rw [hW0]; exact row_old _ (row_old _ (row_at _ rfl))
  have qd : W0.heap[w.heap.size + 1]? = some (.cells #[.int .u64 (d0 : Int), .int .u32 (d1 : Int), .int .u16 (d2 : Int), .int .u16 (d3 : Int)] 44 (0, 0)) := by rw [hW0]; exact row_old _ (row_at _ (by simp))
  have qu : W0.heap[w.heap.size + 2]? = some (.cells #[.int .u32 (u : Int), .int .u32 (v : Int)] 25 (0, 0)) := by rw [hW0]; exact row_at _ (by simp)
  have zW : W0.heap.size = w.heap.size + 3 := by rw [hW0]; simp
  have rx := hr.below B
  have HW0 := Lib.hid hW0
  clear hW0
  go_enter Try.func5, Try.ntmps5
  have km := qm.c
  go_wp2_with fail
  rw [← HW0.out]
  refine (few_any A n c W0 hn).mono ?_
  rintro e w1 ⟨rfl, hb1⟩
  rw [DF]
  have B := below_then B hb1
  have zs1 := hb1.size
  have qm : BoxAt _ _ _ _ := row_up qm hb1
  have qd := row_up qd hb1
  have qu := row_up qu hb1
  have rx := rx.below hb1
  clear km
  have km := qm.c
  go_wp2_with fail
  refine (HCk.out w1).mono ?_
  rintro e w2 ⟨rfl, hb2⟩
  rw [DC]
  have B := below_then B hb2
  have zs2 := hb2.size
  clear km
  have qm : BoxAt _ _ _ _ := row_up qm hb2
  have qd := row_up qd hb2
  have qu := row_up qu hb2
  have rx := rx.below hb2
  go_wp2_with fail
  refine (heads07 _).mono ?_
  rintro e w99 ⟨rfl, hb99⟩
  go_wp2
  go_ret
  exact ⟨rfl, below_then B hb99⟩
theorem ringKeeps_high (A : Option Addr) (n c : Nat) (xs : List UInt8) (b k i : Int) (d0 d1 d2 d3 : Nat) (a : Nat) (u v : Nat) (w : World) (hr : RdB w A n c xs) (hb : (-9223372036854775808 ≤ b ∧ b ≤ 9223372036854775807)) (hk : (-9223372036854775808 ≤ k ∧ k ≤ 9223372036854775807)) (hi : (-9223372036854775808 ≤ i ∧ i ≤ 9223372036854775807)) (h0 : d0 < 18446744073709551616) (h1 : d1 < 4294967296) (h2 : d2 < 65536) (h3 : d3 < 65536) (ha : a < 65536) (hu : u < 4294967296) (hv : v < 4294967296) (hF : n ≤ 3000) (hC : rgCheck n b k = true) (hi0 : ¬ i < 0) (hi1 : k ≤ i) :
    Calls Try.prog 5 #[.agg #[.slice A n c], .int .i64 b, .int .i64 k, .int .i64 i, .agg #[.int .u64 (d0 : Int), .int .u32 (d1 : Int), .int .u16 (d2 : Int), .int .u16 (d3 : Int)], .int .u16 (a : Int), .agg #[.int .u32 (u : Int), .int .u32 (v : Int)]] w (RetV w (.bool true)) := by
  have DF : decide (n ≤ 3000) = true := decide_eq_true hF
  have DC := hC
  have i1 : decide (i < 0) = false := decide_eq_false hi0
  have i2 : decide (k ≤ i) = true := decide_eq_true hi1
  have hn := hr.n63
  have HCk := Lib.hid (fun W => refCheck7_any A n c b k W hr.n63 hb hk)
  obtain ⟨W0, hW0⟩ : ∃ W, W = ((w.alloc (.cells #[.slice A n c] 28)).alloc (.cells #[.int .u64 (d0 : Int), .int .u32 (d1 : Int), .int .u16 (d2 : Int), .int .u16 (d3 : Int)] 44)).alloc (.cells #[.int .u32 (u : Int), .int .u32 (v : Int)] 25) := ⟨_, rfl⟩
  have B : Below w.heap.size w W0 := by rw [hW0]; exact (((below_self w).alloc (Nat.le_refl _) _).alloc (by simp) _).alloc (by simp; omega) _
  have qm : BoxAt W0 w.heap.size 28 (.slice A n c) := by rw [hW0]; exact row_old _ (row_old _ (row_at _ rfl))
  have qd : W0.heap[w.heap.size + 1]? = some (.cells #[.int .u64 (d0 : Int), .int .u32 (d1 : Int), .int .u16 (d2 : Int), .int .u16 (d3 : Int)] 44 (0, 0)) := by rw [hW0]; exact row_old _ (row_at _ (by simp))
  have qu : W0.heap[w.heap.size + 2]? = some (.cells #[.int .u32 (u : Int), .int .u32 (v : Int)] 25 (0, 0)) := by rw [hW0]; exact row_at _ (by simp)
  have zW : W0.heap.size = w.heap.size + 3 := by rw [hW0]; simp
  have rx := hr.below B
  have HW0 := Lib.hid hW0
  clear hW0
  go_enter Try.func5, Try.ntmps5
  have km := qm.c
  go_wp2_with fail
  rw [← HW0.out]
  refine (few_any A n c W0 hn).mono ?_
  rintro e w1 ⟨rfl, hb1⟩
  rw [DF]
  have B := below_then B hb1
  have zs1 := hb1.size
  have qm : BoxAt _ _ _ _ := row_up qm hb1
  have qd := row_up qd hb1
  have qu := row_up qu hb1
  have rx := rx.below hb1
  clear km
  have km := qm.c
  go_wp2_with fail
  refine (HCk.out w1).mono ?_
  rintro e w2 ⟨rfl, hb2⟩
  rw [DC]
  have B := below_then B hb2
  have zs2 := hb2.size
  clear km
  have qm : BoxAt _ _ _ _ := row_up qm hb2
  have qd := row_up qd hb2
  have qu := row_up qu hb2
  have rx := rx.below hb2
  go_wp2_with fail
  refine (heads07 _).mono ?_
  rintro e w99 ⟨rfl, hb99⟩
  go_wp2
  go_ret
  exact ⟨rfl, below_then B hb99⟩
/-- A round: so many descriptors were looked at. -/
def KeI (W : World) (m : Nat) (v : Value) (wr : World) : Prop := ∃ j : Nat, j ≤ m ∧ v = .int .i64 (j : Int) ∧ Below W.heap.size W wr

theorem ringKeeps_main (A : Option Addr) (n c : Nat) (xs : List UInt8) (bn m jn : Nat) (d0 d1 d2 d3 : Nat) (a : Nat) (u v : Nat) (w : World) (hr : RdB w A n c xs)  (h0 : d0 < 18446744073709551616) (h1 : d1 < 4294967296) (h2 : d2 < 65536) (h3 : d3 < 65536) (ha : a < 65536) (hu : u < 4294967296) (hv : v < 4294967296) (hF : n ≤ 3000) (hC : rgCheck n (bn : Int) (m : Int) = true) (hjn : jn < m) :
    Calls Try.prog 5 #[.agg #[.slice A n c], .int .i64 (bn : Int), .int .i64 (m : Int), .int .i64 (jn : Int), .agg #[.int .u64 (d0 : Int), .int .u32 (d1 : Int), .int .u16 (d2 : Int), .int .u16 (d3 : Int)], .int .u16 (a : Int), .agg #[.int .u32 (u : Int), .int .u32 (v : Int)]] w (RetV w (.bool true)) := by
  obtain ⟨b, hbd⟩ : ∃ b, b = (bn : Int) := ⟨_, rfl⟩
  obtain ⟨k, hkd⟩ : ∃ k, k = (m : Int) := ⟨_, rfl⟩
  obtain ⟨i, hid⟩ : ∃ i, i = (jn : Int) := ⟨_, rfl⟩
  have DF : decide (n ≤ 3000) = true := decide_eq_true hF
  rw [← hbd, ← hkd] at hC
  have DC := hC
  obtain ⟨o1, o2, o3, o4, o5, o6, o7⟩ := rgCheck_ok hC
  have hsz : rgSize k = rgBack k + 4 + 8 * k := by unfold rgSize; rw [if_pos o2]
  have hszl := (rgSize_le k).2.1
  have hb : -9223372036854775808 ≤ b ∧ b ≤ 9223372036854775807 := by omega
  have hk : -9223372036854775808 ≤ k ∧ k ≤ 9223372036854775807 := by omega
  have hi : -9223372036854775808 ≤ i ∧ i ≤ 9223372036854775807 := by omega
  have i1 : decide ((jn : Int) < 0) = false := decide_eq_false (by omega)
  have i2 : decide ((m : Int) ≤ (jn : Int)) = false := decide_eq_false (by omega)
  have hik : 0 ≤ i ∧ i < k := by omega
  have hdo : (⟨d0, d1, d2, d3⟩ : Dsc).ok := ⟨h0, h1, h2, h3⟩
  have hE : rgDescE n b k i = 0 := by unfold rgDescE; rw [if_pos hC, if_pos hik]
  have hE2 : rgE n b k = 0 := by unfold rgE; rw [if_pos hC]
  have oA : ∀ g, w.heap.size ≤ g → 0 < n → Off A g := fun g hg h0 a e => by have := hr.old h0 a e; omega
  have hxl := hr.2.1
  have hxm : (i % 18446744073709551616).toNat = jn := by omega
  have hmk : k.toNat = m := by omega
  obtain ⟨nx, hnx⟩ : ∃ p, p = (a + 1) % 65536 := ⟨_, rfl⟩
  have wnx : IntKind.u16.wrap ((a : Int) + 1) = (nx : Int) := by rw [IntKind.wrap_u16]; omega
  obtain ⟨ar, har⟩ : ∃ r, r = a % m := ⟨_, rfl⟩
  have harm : ar < m := by rw [har]; exact Nat.mod_lt _ (by omega)
  have r2 : (a : Int).tmod (m : Int) = (ar : Int) := by rw [Int.tmod_eq_emod_of_nonneg (by omega), har]; rfl
  have kz : ¬ ((m : Int) = 0) := by omega
  have wia := wi64n (k := a) (by omega)
  have wiar := wi64n (k := ar) (by omega)
  obtain ⟨ys1, hy1⟩ : ∃ y, y = rgSetDesc xs b k i ⟨d0, d1, d2, d3⟩ := ⟨_, rfl⟩
  have hl1 : ys1.length = n := by rw [hy1, rgSetDesc_len, hxl]
  obtain ⟨ys2, hy2⟩ : ∃ y, y = rgOffer ys1 b k a jn := ⟨_, rfl⟩
  have hl2 : ys2.length = n := by rw [hy2, rgOffer_len, hl1]
  obtain ⟨ys3, hy3⟩ : ∃ y, y = rgReturn ys2 b k a u v := ⟨_, rfl⟩
  have hl3 : ys3.length = n := by rw [hy3, rgReturn_len, hl2]
  have g1 : rgDesc ys3 b k i = ⟨d0, d1, d2, d3⟩ := by rw [hy3, rgReturn_desc, hy2, rgOffer_desc, hy1]; exact rgSetDesc_at (by rw [hxl]; exact hC) i hik _ hdo
  have g2 : rgAvail ys3 b k = nx := by rw [hy3, rgReturn_avail, hy2, hnx]; exact rgOffer_idx (by rw [hl1]; exact hC) a jn
  have g3 : rgAt ys3 b k a = jn := by rw [hy3, rgReturn_at, hy2]; exact rgOffer_at (by rw [hl1]; exact hC) a a jn (by omega) rfl
  have g4 : rgUsed ys3 b k = nx := by rw [hy3, hnx]; exact rgReturn_idx (by rw [hl2]; exact hC) a u v
  have g5 : rgUId ys3 b k a = u ∧ rgULen ys3 b k a = v := by rw [hy3]; exact rgReturn_used (by rw [hl2]; exact hC) a a u v hu hv rfl
  have g6 : ∀ j : Int, j ≠ i → rgDesc ys3 b k j = rgDesc xs b k j := fun j hj => by rw [hy3, rgReturn_desc, hy2, rgOffer_desc, hy1, rgSetDesc_off i j hj]
  have g7 : ∀ j : Nat, j % m ≠ ar → rgUId ys3 b k j = rgUId xs b k j ∧ rgULen ys3 b k j = rgULen xs b k j := fun j hj => by
    have e1 := rgReturn_off (xs := ys2) (b := b) (k := k) a j u v (by rw [hmk, ← har]; exact hj)
    rw [hy3, e1.1, e1.2, hy2, (rgOffer_used a jn j).1, (rgOffer_used a jn j).2, hy1]
    exact rgSetDesc_used i _ j
  have gin : RgIn xs ys3 b k := by rw [hy3, hy2, hy1]; exact ((rgSetDesc_in i _).trans (rgOffer_in a jn)).trans (rgReturn_in a u v)
  obtain ⟨en, hen⟩ : ∃ e : Nat, e = (b + rgSize k).toNat := ⟨_, rfl⟩
  have henI : (bn : Int) + rgSize k = (en : Int) := by omega
  have gt : ys3.take bn = xs.take bn := by have := gin.take; rwa [show b.toNat = bn by omega] at this
  have gd : ys3.drop en = xs.drop en := by have := gin.drop; rwa [← hen] at this
  have H1 := Lib.hid (fun W (h : RdB W A n c xs) => ringSetDesc_any A n c xs b k i ⟨d0, d1, d2, d3⟩ W h hb hk hi hdo)
  have H2 := Lib.hid (fun A' c' W (h : RdB W A' n c' ys1) => ringOffer_any A' n c' ys1 b k a i W h hb hk ha hi)
  have H3 := Lib.hid (fun A' c' W (h : RdB W A' n c' ys2) => ringReturn_any A' n c' ys2 b k a u v W h hb hk ha hu hv)
  have H4 := Lib.hid (fun A' c' W (h : RdB W A' n c' ys3) => ringDesc_any A' n c' ys3 b k i W h hb hk hi)
  have H5 := Lib.hid (fun A' c' W (h : RdB W A' n c' ys3) => ringAvailN_any A' n c' ys3 b k W h hb hk)
  have H6 := Lib.hid (fun A' c' W (h : RdB W A' n c' ys3) => ringAvailAt_any A' n c' ys3 b k a W h hb hk ha)
  have H7 := Lib.hid (fun A' c' W (h : RdB W A' n c' ys3) => ringUsedN_any A' n c' ys3 b k W h hb hk)
  have H8 := Lib.hid (fun A' c' W (h : RdB W A' n c' ys3) => ringUsedAt_any A' n c' ys3 b k a W h hb hk ha)
  have hJ : ∀ j : Nat, j < m → (-9223372036854775808 ≤ (j : Int) ∧ (j : Int) ≤ 9223372036854775807) ∧ j < 65536 ∧ rgDescE n b k j = 0 := fun j hj => ⟨by omega, by omega, by unfold rgDescE; rw [if_pos hC, if_pos (by omega)]⟩
  have H9 := Lib.hid (fun (j : Nat) (hj : j < m) A' c' W zs (h : RdB W A' n c' zs) => ringDesc_any A' n c' zs b k (j : Int) W h hb hk (hJ j hj).1)
  have H10 := Lib.hid (fun (j : Nat) (hj : j < m) A' c' W zs (h : RdB W A' n c' zs) => ringUsedAt_any A' n c' zs b k j W h hb hk (hJ j hj).2.1)
  have H11 := Lib.hid (fun W => ringSize_any k W hk)
  have HJE := Lib.hid (fun (j : Nat) (hj : j < m) => (hJ j hj).2.2)
  rw [hE, ← hy1, show (⟨d0, d1, d2, d3⟩ : Dsc).v = #[.int .u64 (d0 : Int), .int .u32 (d1 : Int), .int .u16 (d2 : Int), .int .u16 (d3 : Int)] from rfl] at H1
  rw [hE2, hxm, ← hy2] at H2
  rw [hE2, ← hy3] at H3
  rw [hE, g1, show (⟨d0, d1, d2, d3⟩ : Dsc).v = #[.int .u64 (d0 : Int), .int .u32 (d1 : Int), .int .u16 (d2 : Int), .int .u16 (d3 : Int)] from rfl] at H4
  rw [hE2, g2] at H5
  rw [hE2, g3] at H6
  rw [hE2, g4] at H7
  rw [hE2, g5.1, g5.2] at H8
  rw [hE2] at H10
  have hLes : bn ≤ n ∧ en ≤ n := by omega
  have G6 := Lib.hid g6
  have G7 := Lib.hid g7
  have GT := Lib.hid gt
  have GD := Lib.hid gd
  have HEN := Lib.hid henI
  have HSZ := Lib.hid hsz
  clear hE hE2 hy1 hy2 hy3 g1 g2 g3 g4 g5 g6 g7 gin gt gd hdo hJ hen hnx har henI hsz o4 o7 hC hxm hmk hszl hxl hl1 hl2 hik
  subst hbd hkd hid
  have hn := hr.n63
  have HCk := Lib.hid (fun W => refCheck7_any A n c (bn : Int) (m : Int) W hr.n63 hb hk)
  obtain ⟨W0, hW0⟩ : ∃ W, W = ((w.alloc (.cells #[.slice A n c] 28)).alloc (.cells #[.int .u64 (d0 : Int), .int .u32 (d1 : Int), .int .u16 (d2 : Int), .int .u16 (d3 : Int)] 44)).alloc (.cells #[.int .u32 (u : Int), .int .u32 (v : Int)] 25) := ⟨_, rfl⟩
  have B : Below w.heap.size w W0 := by rw [hW0]; exact (((below_self w).alloc (Nat.le_refl _) _).alloc (by simp) _).alloc (by simp; omega) _
  have qm : BoxAt W0 w.heap.size 28 (.slice A n c) := by rw [hW0]; exact row_old _ (row_old _ (row_at _ rfl))
  have qd : W0.heap[w.heap.size + 1]? = some (.cells #[.int .u64 (d0 : Int), .int .u32 (d1 : Int), .int .u16 (d2 : Int), .int .u16 (d3 : Int)] 44 (0, 0)) := by rw [hW0]; exact row_old _ (row_at _ (by simp))
  have qu : W0.heap[w.heap.size + 2]? = some (.cells #[.int .u32 (u : Int), .int .u32 (v : Int)] 25 (0, 0)) := by rw [hW0]; exact row_at _ (by simp)
  have zW : W0.heap.size = w.heap.size + 3 := by rw [hW0]; simp
  have rx := hr.below B
  have HW0 := Lib.hid hW0
  clear hW0
  go_enter Try.func5, Try.ntmps5
  have km := qm.c
  go_wp2_with fail
  rw [← HW0.out]
  refine (few_any A n c W0 hn).mono ?_
  rintro e w1 ⟨rfl, hb1⟩
  rw [DF]
  have B := below_then B hb1
  have zs1 := hb1.size
  have qm : BoxAt _ _ _ _ := row_up qm hb1
  have qd := row_up qd hb1
  have qu := row_up qu hb1
  have rx := rx.below hb1
  clear km
  have km := qm.c
  go_wp2_with fail
  refine (HCk.out w1).mono ?_
  rintro e w2 ⟨rfl, hb2⟩
  rw [DC]
  have B := below_then B hb2
  have zs2 := hb2.size
  clear km
  have qm : BoxAt _ _ _ _ := row_up qm hb2
  have qd := row_up qd hb2
  have qu := row_up qu hb2
  have rx := rx.below hb2
  have km := qm.c
  have kd0 := (cell_of_row _ _ 0 _ _ _ qd).trans (show (#[.int .u64 (d0 : Int), .int .u32 (d1 : Int), .int .u16 (d2 : Int), .int .u16 (d3 : Int)] : Array Value)[0]? = some (.int .u64 (d0 : Int)) from rfl)
  have kd1 := (cell_of_row _ _ 1 _ _ _ qd).trans (show (#[.int .u64 (d0 : Int), .int .u32 (d1 : Int), .int .u16 (d2 : Int), .int .u16 (d3 : Int)] : Array Value)[1]? = some (.int .u32 (d1 : Int)) from rfl)
  have kd2 := (cell_of_row _ _ 2 _ _ _ qd).trans (show (#[.int .u64 (d0 : Int), .int .u32 (d1 : Int), .int .u16 (d2 : Int), .int .u16 (d3 : Int)] : Array Value)[2]? = some (.int .u16 (d2 : Int)) from rfl)
  have kd3 := (cell_of_row _ _ 3 _ _ _ qd).trans (show (#[.int .u64 (d0 : Int), .int .u32 (d1 : Int), .int .u16 (d2 : Int), .int .u16 (d3 : Int)] : Array Value)[3]? = some (.int .u16 (d3 : Int)) from rfl)
  go_wp2_with fail
  refine (H1.out w2 rx).mono ?_
  rintro e w3 ⟨Ap, cp, rfl, rp, fp, hb3⟩
  clear km kd0 kd1 kd2 kd3
  have qm : BoxAt _ _ _ _ := row_up qm hb3
  have qd := row_up qd hb3
  have qu := row_up qu hb3
  have rx := rx.below hb3
  have B := below_then B hb3
  have zs3 := hb3.size
  have oP0 : 0 < n → Old Ap w3.heap.size := fun h0 => rp.old h0
  go_wp2_with fail
  refine named ?_
  intro W3 hW3
  have bW3 : Below w3.heap.size w3 W3 := by rw [hW3]; repeat' (first | exact Below.refl _ _ | (refine Below.alloc ?_ ?_ _; rotate_left; (simp <;> omega)) | refine Below.drew ?_)
  have zW3 := bW3.size
  have qp : BoxAt W3 w3.heap.size 28 (.slice Ap n cp) := by rw [hW3]; exact row_at _ rfl
  have HW3 := Lib.hid hW3
  clear hW3
  have qm : BoxAt _ _ _ _ := row_up qm bW3
  have qd := row_up qd bW3
  have qu := row_up qu bW3
  have rx := rx.below bW3
  have B := below_then B bW3
  have rp := rp.below bW3
  obtain ⟨gp, hgp⟩ : ∃ g, g = w3.heap.size := ⟨_, rfl⟩
  have lp : w.heap.size + 3 ≤ gp := by omega
  have oP : 0 < n → Off Ap gp := fun h0 a e => by have := oP0 h0 a e; omega
  rw [← hgp] at qp
  have HGP := Lib.hid hgp
  clear hgp
  refine (H2.out Ap cp _ rp).mono ?_
  rintro e w4 ⟨Aq, cq, rfl, rq, fq, hb4⟩
  rw [← HGP.out]
  obtain ⟨mp, qp', sp', bt, bl⟩ := mm_stepC (g := gp) qp hb4 rq fq oP
  have kp := mp.c
  have up := mp.f
  have B := B.trans (bl.mono (show w.heap.size ≤ gp by omega))
  have lgp := row_lt qp
  have qm := row_but qm bt (show w.heap.size ≠ gp by omega)
  have qd := row_but qd bt (show w.heap.size + 1 ≠ gp by omega)
  have qu := row_but qu bt (show w.heap.size + 2 ≠ gp by omega)
  have rx := rdB_but rx bt (oA gp (by omega))
  have zs4 := bt.size
  have oP : 0 < n → Off Aq gp := fun h0 a e => by
    rcases fq with rfl | h
    · exact oP h0 a e
    · have := h a e; omega
  have kpn : World.cell? _ _ = _ := BoxAt.c qp'
  have ku0 := (cell_of_row _ _ 0 _ _ _ qu).trans (show (#[.int .u32 (u : Int), .int .u32 (v : Int)] : Array Value)[0]? = some (.int .u32 (u : Int)) from rfl)
  have ku1 := (cell_of_row _ _ 1 _ _ _ qu).trans (show (#[.int .u32 (u : Int), .int .u32 (v : Int)] : Array Value)[1]? = some (.int .u32 (v : Int)) from rfl)
  obtain ⟨V4, hV4⟩ : ∃ V, V = w4.setCell ⟨gp, 0, none⟩ (.slice Aq n cq) := ⟨_, rfl⟩
  clear rp qp mp rq
  have rp := sp'
  have qp := qp'
  clear sp' qp'
  rw [← hV4] at qm qd qu qp rx rp B bt zs4
  have HV4 := Lib.hid hV4
  clear hV4
  go_wp2_with fail
  rw [← HV4.out]
  clear kp up kpn ku0 ku1 bl bt
  refine (H3.out Aq cq _ rp).mono ?_
  rintro e w5 ⟨As, cs, rfl, rs, fq, hb5⟩
  skip
  obtain ⟨mp, qp', sp', bt, bl⟩ := mm_stepC (g := gp) qp hb5 rs fq oP
  have kp := mp.c
  have up := mp.f
  have B := B.trans (bl.mono (show w.heap.size ≤ gp by omega))
  have lgp := row_lt qp
  have qm := row_but qm bt (show w.heap.size ≠ gp by omega)
  have qd := row_but qd bt (show w.heap.size + 1 ≠ gp by omega)
  have qu := row_but qu bt (show w.heap.size + 2 ≠ gp by omega)
  have rx := rdB_but rx bt (oA gp (by omega))
  have zs5 := bt.size
  have oP : 0 < n → Off As gp := fun h0 a e => by
    rcases fq with rfl | h
    · exact oP h0 a e
    · have := h a e; omega
  have kpn : World.cell? _ _ = _ := BoxAt.c qp'
  obtain ⟨V5, hV5⟩ : ∃ V, V = w5.setCell ⟨gp, 0, none⟩ (.slice As n cs) := ⟨_, rfl⟩
  clear rp qp mp rs
  have rp := sp'
  have qp := qp'
  clear sp' qp'
  rw [← hV5] at qm qd qu qp rx rp B bt zs5
  have HV5 := Lib.hid hV5
  clear hV5
  go_wp2_with fail
  rw [← HV5.out]
  clear kp up kpn bl bt oP fq fp
  refine (H4.out As cs V5 rp).mono ?_
  rintro e w6 ⟨rfl, hb6⟩
  have qm : BoxAt _ _ _ _ := row_up qm hb6
  have qp : BoxAt _ _ _ _ := row_up qp hb6
  have qd := row_up qd hb6
  have qu := row_up qu hb6
  have rx := rx.below hb6
  have rp := rp.below hb6
  have B := below_then B hb6
  have zs6 := hb6.size
  have kp := (BoxAt.al qp (.cells #[.int .u64 (d0 : Int), .int .u32 (d1 : Int), .int .u16 (d2 : Int), .int .u16 (d3 : Int)] 44)).c
  go_wp2_with fail
  refine named ?_
  intro W6 hW6
  have bW6 : Below w6.heap.size w6 W6 := by rw [hW6]; repeat' (first | exact Below.refl _ _ | (refine Below.alloc ?_ ?_ _; rotate_left; (simp <;> omega)) | refine Below.drew ?_)
  have zW6 := bW6.size
  have qa : W6.heap[w6.heap.size]? = some (.cells #[.int .u64 (d0 : Int), .int .u32 (d1 : Int), .int .u16 (d2 : Int), .int .u16 (d3 : Int)] 44 (0, 0)) := by rw [hW6]; exact row_at _ rfl
  have HW6 := Lib.hid hW6
  clear hW6
  have qm : BoxAt _ _ _ _ := row_up qm bW6
  have qp : BoxAt _ _ _ _ := row_up qp bW6
  have qd := row_up qd bW6
  have qu := row_up qu bW6
  have rx := rx.below bW6
  have rp := rp.below bW6
  have B := below_then B bW6
  clear kp
  refine (H5.out As cs W6 rp).mono ?_
  rintro e w7 ⟨rfl, hb7⟩
  have qm : BoxAt _ _ _ _ := row_up qm hb7
  have qp : BoxAt _ _ _ _ := row_up qp hb7
  have qd := row_up qd hb7
  have qu := row_up qu hb7
  have qa := row_up qa hb7
  have rx := rx.below hb7
  have rp := rp.below hb7
  have B := below_then B hb7
  have zs7 := hb7.size
  have kp := BoxAt.c qp
  go_wp2_with fail
  clear kp
  refine (H6.out As cs w7 rp).mono ?_
  rintro e w8 ⟨rfl, hb8⟩
  have qm : BoxAt _ _ _ _ := row_up qm hb8
  have qp : BoxAt _ _ _ _ := row_up qp hb8
  have qd := row_up qd hb8
  have qu := row_up qu hb8
  have qa := row_up qa hb8
  have rx := rx.below hb8
  have rp := rp.below hb8
  have B := below_then B hb8
  have zs8 := hb8.size
  have kp := BoxAt.c qp
  go_wp2_with fail
  clear kp
  refine (H7.out As cs w8 rp).mono ?_
  rintro e w9 ⟨rfl, hb9⟩
  have qm : BoxAt _ _ _ _ := row_up qm hb9
  have qp : BoxAt _ _ _ _ := row_up qp hb9
  have qd := row_up qd hb9
  have qu := row_up qu hb9
  have qa := row_up qa hb9
  have rx := rx.below hb9
  have rp := rp.below hb9
  have B := below_then B hb9
  have zs9 := hb9.size
  have kp := BoxAt.c qp
  go_wp2_with fail
  clear kp
  refine (H8.out As cs w9 rp).mono ?_
  rintro e w10 ⟨rfl, hb10⟩
  have qm : BoxAt _ _ _ _ := row_up qm hb10
  have qp : BoxAt _ _ _ _ := row_up qp hb10
  have qd := row_up qd hb10
  have qu := row_up qu hb10
  have qa := row_up qa hb10
  have rx := rx.below hb10
  have rp := rp.below hb10
  have B := below_then B hb10
  have zs10 := hb10.size
  obtain ⟨L, hL⟩ : ∃ Z, Z = w10.alloc (.cells #[.int .u32 (u : Int), .int .u32 (v : Int)] 25) := ⟨_, rfl⟩
  have bL : Below w10.heap.size w10 L := by rw [hL]; exact (below_self _).alloc (Nat.le_refl _) _
  have qb : L.heap[w10.heap.size]? = some (.cells #[.int .u32 (u : Int), .int .u32 (v : Int)] 25 (0, 0)) := by rw [hL]; exact row_at _ rfl
  have qm : BoxAt _ _ _ _ := row_up qm bL
  have qp : BoxAt _ _ _ _ := row_up qp bL
  have qd := row_up qd bL
  have qu := row_up qu bL
  have qa := row_up qa bL
  have rx := rx.below bL
  have rp := rp.below bL
  have B := below_then B bL
  have kp := BoxAt.c qp
  have km := BoxAt.c qm
  have ka0 := (cell_of_row _ _ 0 _ _ _ qa).trans (show (#[.int .u64 (d0 : Int), .int .u32 (d1 : Int), .int .u16 (d2 : Int), .int .u16 (d3 : Int)] : Array Value)[0]? = some (.int .u64 (d0 : Int)) from rfl)
  have ka1 := (cell_of_row _ _ 1 _ _ _ qa).trans (show (#[.int .u64 (d0 : Int), .int .u32 (d1 : Int), .int .u16 (d2 : Int), .int .u16 (d3 : Int)] : Array Value)[1]? = some (.int .u32 (d1 : Int)) from rfl)
  have ka2 := (cell_of_row _ _ 2 _ _ _ qa).trans (show (#[.int .u64 (d0 : Int), .int .u32 (d1 : Int), .int .u16 (d2 : Int), .int .u16 (d3 : Int)] : Array Value)[2]? = some (.int .u16 (d2 : Int)) from rfl)
  have ka3 := (cell_of_row _ _ 3 _ _ _ qa).trans (show (#[.int .u64 (d0 : Int), .int .u32 (d1 : Int), .int .u16 (d2 : Int), .int .u16 (d3 : Int)] : Array Value)[3]? = some (.int .u16 (d3 : Int)) from rfl)
  have kd0 := (cell_of_row _ _ 0 _ _ _ qd).trans (show (#[.int .u64 (d0 : Int), .int .u32 (d1 : Int), .int .u16 (d2 : Int), .int .u16 (d3 : Int)] : Array Value)[0]? = some (.int .u64 (d0 : Int)) from rfl)
  have kd1 := (cell_of_row _ _ 1 _ _ _ qd).trans (show (#[.int .u64 (d0 : Int), .int .u32 (d1 : Int), .int .u16 (d2 : Int), .int .u16 (d3 : Int)] : Array Value)[1]? = some (.int .u32 (d1 : Int)) from rfl)
  have kd2 := (cell_of_row _ _ 2 _ _ _ qd).trans (show (#[.int .u64 (d0 : Int), .int .u32 (d1 : Int), .int .u16 (d2 : Int), .int .u16 (d3 : Int)] : Array Value)[2]? = some (.int .u16 (d2 : Int)) from rfl)
  have kd3 := (cell_of_row _ _ 3 _ _ _ qd).trans (show (#[.int .u64 (d0 : Int), .int .u32 (d1 : Int), .int .u16 (d2 : Int), .int .u16 (d3 : Int)] : Array Value)[3]? = some (.int .u16 (d3 : Int)) from rfl)
  have kb0 := (cell_of_row _ _ 0 _ _ _ qb).trans (show (#[.int .u32 (u : Int), .int .u32 (v : Int)] : Array Value)[0]? = some (.int .u32 (u : Int)) from rfl)
  have kb1 := (cell_of_row _ _ 1 _ _ _ qb).trans (show (#[.int .u32 (u : Int), .int .u32 (v : Int)] : Array Value)[1]? = some (.int .u32 (v : Int)) from rfl)
  have ku0 := (cell_of_row _ _ 0 _ _ _ qu).trans (show (#[.int .u32 (u : Int), .int .u32 (v : Int)] : Array Value)[0]? = some (.int .u32 (u : Int)) from rfl)
  have ku1 := (cell_of_row _ _ 1 _ _ _ qu).trans (show (#[.int .u32 (u : Int), .int .u32 (v : Int)] : Array Value)[1]? = some (.int .u32 (v : Int)) from rfl)
  rw [hL] at ka0 ka1 ka2 ka3 kd0 kd1 kd2 kd3 kb0 kb1 ku0 ku1 kp km
  have HL := Lib.hid hL
  clear hL
  go_wp2_with fail
  clear ka0 ka1 ka2 ka3 kd0 kd1 kd2 kd3 kb0 kb1 ku0 ku1 kp km qa qb qd qu
  rw [← HL.out]
  go_loopw [29] (KeI L m) (fun s _ => m - (intOf s).toNat)
  case atStart => exact ⟨0, Nat.zero_le _, rfl, Below.refl _ _⟩
  case round =>
    obtain ⟨j, hj, rfl, hB⟩ := hrel
    have qm : BoxAt _ _ _ _ := row_up qm hB
    have qp : BoxAt _ _ _ _ := row_up qp hB
    have rx := rx.below hB
    have rp := rp.below hB
    have B := below_then B hB
    by_cases hlt : j < m
    · have k2 : (j : Int) < (m : Int) := by omega
      have wj : IntKind.u16.wrap (j : Int) = (j : Int) := by rw [IntKind.wrap_u16]; omega
      have hjm : j % m = j := Nat.mod_eq_of_lt hlt
      have hjE := HJE.out j hlt
      obtain ⟨⟨c0, c1, c2, c3⟩, hcd⟩ : ∃ d, rgDesc ys3 (bn : Int) (m : Int) (j : Int) = d := ⟨_, rfl⟩
      obtain ⟨⟨s0, s1, s2, s3⟩, hsd⟩ : ∃ d, rgDesc xs (bn : Int) (m : Int) (j : Int) = d := ⟨_, rfl⟩
      obtain ⟨e0, he0⟩ : ∃ d, rgUId ys3 (bn : Int) (m : Int) j = d := ⟨_, rfl⟩
      obtain ⟨e1, he1⟩ : ∃ d, rgULen ys3 (bn : Int) (m : Int) j = d := ⟨_, rfl⟩
      obtain ⟨f0, hf0⟩ : ∃ d, rgUId xs (bn : Int) (m : Int) j = d := ⟨_, rfl⟩
      obtain ⟨f1, hf1⟩ : ∃ d, rgULen xs (bn : Int) (m : Int) j = d := ⟨_, rfl⟩
      have D1 := Lib.hid (fun W (h : RdB W As n cs ys3) => H9.out j hlt As cs W ys3 h)
      have D2 := Lib.hid (fun W (h : RdB W A n c xs) => H9.out j hlt A c W xs h)
      have U1 := Lib.hid (fun W (h : RdB W As n cs ys3) => H10.out j hlt As cs W ys3 h)
      have U2 := Lib.hid (fun W (h : RdB W A n c xs) => H10.out j hlt A c W xs h)
      rw [hcd, hjE, show (⟨c0, c1, c2, c3⟩ : Dsc).v = #[.int .u64 (c0 : Int), .int .u32 (c1 : Int), .int .u16 (c2 : Int), .int .u16 (c3 : Int)] from rfl] at D1
      rw [hsd, hjE, show (⟨s0, s1, s2, s3⟩ : Dsc).v = #[.int .u64 (s0 : Int), .int .u32 (s1 : Int), .int .u16 (s2 : Int), .int .u16 (s3 : Int)] from rfl] at D2
      rw [he0, he1] at U1
      rw [hf0, hf1] at U2
      have hds : j ≠ jn → c0 = s0 ∧ c1 = s1 ∧ c2 = s2 ∧ c3 = s3 := fun hh => by
        have := G6.out (j : Int) (by omega)
        rw [hcd, hsd] at this
        injection this with t1 t2 t3 t4
        exact ⟨t1, t2, t3, t4⟩
      have hus : j ≠ ar → e0 = f0 ∧ e1 = f1 := fun hh => by
        have := G7.out j (by rw [hjm]; exact hh)
        rw [he0, he1, hf0, hf1] at this
        exact this
      clear hcd hsd he0 he1 hf0 hf1 hjE hjm
      have kp := BoxAt.c qp
      by_cases hji : j = jn
      · by_cases hja : j = ar
        · subst hji
          subst hja
          clear hds hus
          go_wp2_with fail
          refine (D1.out wr rp).mono ?_
          rintro e x1 ⟨rfl, hx1⟩
          clear kp
          have qm : BoxAt _ _ _ _ := row_up qm hx1
          have qp : BoxAt _ _ _ _ := row_up qp hx1
          have rx := rx.below hx1
          have rp := rp.below hx1
          have B := below_then B hx1
          have hB := below_then hB hx1
          have km := (BoxAt.al qm (.cells #[.int .u64 (c0 : Int), .int .u32 (c1 : Int), .int .u16 (c2 : Int), .int .u16 (c3 : Int)] 44)).c
          go_wp2_with fail
          clear km
          refine named ?_
          intro X1 hX1
          have bX1 : Below x1.heap.size x1 X1 := by rw [hX1]; repeat' (first | exact Below.refl _ _ | (refine Below.alloc ?_ ?_ _; rotate_left; (simp <;> omega)) | refine Below.drew ?_)
          have zX1 := bX1.size
          have y1 : X1.heap[x1.heap.size]? = some (.cells #[.int .u64 (c0 : Int), .int .u32 (c1 : Int), .int .u16 (c2 : Int), .int .u16 (c3 : Int)] 44 (0, 0)) := by rw [hX1]; exact row_at _ rfl
          have HX1 := Lib.hid hX1
          clear hX1
          have qm : BoxAt _ _ _ _ := row_up qm bX1
          have qp : BoxAt _ _ _ _ := row_up qp bX1
          have rx := rx.below bX1
          have rp := rp.below bX1
          have B := below_then B bX1
          have hB := below_then hB bX1
          refine (D2.out X1 rx).mono ?_
          rintro e x2 ⟨rfl, hx2⟩
          have qm : BoxAt _ _ _ _ := row_up qm hx2
          have qp : BoxAt _ _ _ _ := row_up qp hx2
          have rx := rx.below hx2
          have rp := rp.below hx2
          have y1 := row_up y1 hx2
          have B := below_then B hx2
          have hB := below_then hB hx2
          have kp := (BoxAt.al qp (.cells #[.int .u64 (s0 : Int), .int .u32 (s1 : Int), .int .u16 (s2 : Int), .int .u16 (s3 : Int)] 44)).c
          go_wp2_with fail
          clear kp
          refine named ?_
          intro X2 hX2
          have bX2 : Below x2.heap.size x2 X2 := by rw [hX2]; repeat' (first | exact Below.refl _ _ | (refine Below.alloc ?_ ?_ _; rotate_left; (simp <;> omega)) | refine Below.drew ?_)
          have zX2 := bX2.size
          have y2 : X2.heap[x2.heap.size]? = some (.cells #[.int .u64 (s0 : Int), .int .u32 (s1 : Int), .int .u16 (s2 : Int), .int .u16 (s3 : Int)] 44 (0, 0)) := by rw [hX2]; exact row_at _ rfl
          have HX2 := Lib.hid hX2
          clear hX2
          have qm : BoxAt _ _ _ _ := row_up qm bX2
          have qp : BoxAt _ _ _ _ := row_up qp bX2
          have rx := rx.below bX2
          have rp := rp.below bX2
          have y1 := row_up y1 bX2
          have B := below_then B bX2
          have hB := below_then hB bX2
          refine (U1.out X2 rp).mono ?_
          rintro e x3 ⟨rfl, hx3⟩
          have qm : BoxAt _ _ _ _ := row_up qm hx3
          have qp : BoxAt _ _ _ _ := row_up qp hx3
          have rx := rx.below hx3
          have rp := rp.below hx3
          have y1 := row_up y1 hx3
          have y2 := row_up y2 hx3
          have B := below_then B hx3
          have hB := below_then hB hx3
          have km := (BoxAt.al qm (.cells #[.int .u32 (e0 : Int), .int .u32 (e1 : Int)] 25)).c
          go_wp2_with fail
          clear km
          refine named ?_
          intro X3 hX3
          have bX3 : Below x3.heap.size x3 X3 := by rw [hX3]; repeat' (first | exact Below.refl _ _ | (refine Below.alloc ?_ ?_ _; rotate_left; (simp <;> omega)) | refine Below.drew ?_)
          have zX3 := bX3.size
          have y3 : X3.heap[x3.heap.size]? = some (.cells #[.int .u32 (e0 : Int), .int .u32 (e1 : Int)] 25 (0, 0)) := by rw [hX3]; exact row_at _ rfl
          have HX3 := Lib.hid hX3
          clear hX3
          have qm : BoxAt _ _ _ _ := row_up qm bX3
          have qp : BoxAt _ _ _ _ := row_up qp bX3
          have rx := rx.below bX3
          have rp := rp.below bX3
          have y1 := row_up y1 bX3
          have y2 := row_up y2 bX3
          have B := below_then B bX3
          have hB := below_then hB bX3
          refine (U2.out X3 rx).mono ?_
          rintro e x4 ⟨rfl, hx4⟩
          have qm : BoxAt _ _ _ _ := row_up qm hx4
          have qp : BoxAt _ _ _ _ := row_up qp hx4
          have rx := rx.below hx4
          have rp := rp.below hx4
          have y1 := row_up y1 hx4
          have y2 := row_up y2 hx4
          have y3 := row_up y3 hx4
          have B := below_then B hx4
          have hB := below_then hB hx4
          obtain ⟨X4, hX4⟩ : ∃ Z, Z = x4.alloc (.cells #[.int .u32 (f0 : Int), .int .u32 (f1 : Int)] 25) := ⟨_, rfl⟩
          have bX4 : Below x4.heap.size x4 X4 := by rw [hX4]; exact (below_self _).alloc (Nat.le_refl _) _
          have y4 : X4.heap[x4.heap.size]? = some (.cells #[.int .u32 (f0 : Int), .int .u32 (f1 : Int)] 25 (0, 0)) := by rw [hX4]; exact row_at _ rfl
          have qm : BoxAt _ _ _ _ := row_up qm bX4
          have qp : BoxAt _ _ _ _ := row_up qp bX4
          have rx := rx.below bX4
          have rp := rp.below bX4
          have y1 := row_up y1 bX4
          have y2 := row_up y2 bX4
          have y3 := row_up y3 bX4
          have B := below_then B bX4
          have hB := below_then hB bX4
          have ya0 := (cell_of_row _ _ 0 _ _ _ y1).trans (show (#[.int .u64 (c0 : Int), .int .u32 (c1 : Int), .int .u16 (c2 : Int), .int .u16 (c3 : Int)] : Array Value)[0]? = some (.int .u64 (c0 : Int)) from rfl)
          have ya1 := (cell_of_row _ _ 1 _ _ _ y1).trans (show (#[.int .u64 (c0 : Int), .int .u32 (c1 : Int), .int .u16 (c2 : Int), .int .u16 (c3 : Int)] : Array Value)[1]? = some (.int .u32 (c1 : Int)) from rfl)
          have ya2 := (cell_of_row _ _ 2 _ _ _ y1).trans (show (#[.int .u64 (c0 : Int), .int .u32 (c1 : Int), .int .u16 (c2 : Int), .int .u16 (c3 : Int)] : Array Value)[2]? = some (.int .u16 (c2 : Int)) from rfl)
          have ya3 := (cell_of_row _ _ 3 _ _ _ y1).trans (show (#[.int .u64 (c0 : Int), .int .u32 (c1 : Int), .int .u16 (c2 : Int), .int .u16 (c3 : Int)] : Array Value)[3]? = some (.int .u16 (c3 : Int)) from rfl)
          have yb0 := (cell_of_row _ _ 0 _ _ _ y2).trans (show (#[.int .u64 (s0 : Int), .int .u32 (s1 : Int), .int .u16 (s2 : Int), .int .u16 (s3 : Int)] : Array Value)[0]? = some (.int .u64 (s0 : Int)) from rfl)
          have yb1 := (cell_of_row _ _ 1 _ _ _ y2).trans (show (#[.int .u64 (s0 : Int), .int .u32 (s1 : Int), .int .u16 (s2 : Int), .int .u16 (s3 : Int)] : Array Value)[1]? = some (.int .u32 (s1 : Int)) from rfl)
          have yb2 := (cell_of_row _ _ 2 _ _ _ y2).trans (show (#[.int .u64 (s0 : Int), .int .u32 (s1 : Int), .int .u16 (s2 : Int), .int .u16 (s3 : Int)] : Array Value)[2]? = some (.int .u16 (s2 : Int)) from rfl)
          have yb3 := (cell_of_row _ _ 3 _ _ _ y2).trans (show (#[.int .u64 (s0 : Int), .int .u32 (s1 : Int), .int .u16 (s2 : Int), .int .u16 (s3 : Int)] : Array Value)[3]? = some (.int .u16 (s3 : Int)) from rfl)
          have yc0 := (cell_of_row _ _ 0 _ _ _ y3).trans (show (#[.int .u32 (e0 : Int), .int .u32 (e1 : Int)] : Array Value)[0]? = some (.int .u32 (e0 : Int)) from rfl)
          have yc1 := (cell_of_row _ _ 1 _ _ _ y3).trans (show (#[.int .u32 (e0 : Int), .int .u32 (e1 : Int)] : Array Value)[1]? = some (.int .u32 (e1 : Int)) from rfl)
          have yd0 := (cell_of_row _ _ 0 _ _ _ y4).trans (show (#[.int .u32 (f0 : Int), .int .u32 (f1 : Int)] : Array Value)[0]? = some (.int .u32 (f0 : Int)) from rfl)
          have yd1 := (cell_of_row _ _ 1 _ _ _ y4).trans (show (#[.int .u32 (f0 : Int), .int .u32 (f1 : Int)] : Array Value)[1]? = some (.int .u32 (f1 : Int)) from rfl)
          rw [hX4] at ya0 ya1 ya2 ya3 yb0 yb1 yb2 yb3 yc0 yc1 yd0 yd1 hB
          clear y1 y2 y3 y4 hX4
          go_wp2_with fail
          go_roundw
          case rel => exact ⟨j + 1, by omega, by go_num, hB⟩
          case measure => simp [intOf]; omega
        · subst hji
          have hna : ¬ ((j : Int) = (ar : Int)) := by omega
          have hnc : ((j : Int) != (ar : Int)) = true := bne_iff_ne.2 hna
          obtain ⟨z0, z1⟩ := hus (by omega)
          rw [← z0, ← z1] at U2
          clear z0 z1
          clear hds hus hja
          go_wp2_with fail
          refine (D1.out wr rp).mono ?_
          rintro e x1 ⟨rfl, hx1⟩
          clear kp
          have qm : BoxAt _ _ _ _ := row_up qm hx1
          have qp : BoxAt _ _ _ _ := row_up qp hx1
          have rx := rx.below hx1
          have rp := rp.below hx1
          have B := below_then B hx1
          have hB := below_then hB hx1
          have km := (BoxAt.al qm (.cells #[.int .u64 (c0 : Int), .int .u32 (c1 : Int), .int .u16 (c2 : Int), .int .u16 (c3 : Int)] 44)).c
          go_wp2_with fail
          clear km
          refine named ?_
          intro X1 hX1
          have bX1 : Below x1.heap.size x1 X1 := by rw [hX1]; repeat' (first | exact Below.refl _ _ | (refine Below.alloc ?_ ?_ _; rotate_left; (simp <;> omega)) | refine Below.drew ?_)
          have zX1 := bX1.size
          have y1 : X1.heap[x1.heap.size]? = some (.cells #[.int .u64 (c0 : Int), .int .u32 (c1 : Int), .int .u16 (c2 : Int), .int .u16 (c3 : Int)] 44 (0, 0)) := by rw [hX1]; exact row_at _ rfl
          have HX1 := Lib.hid hX1
          clear hX1
          have qm : BoxAt _ _ _ _ := row_up qm bX1
          have qp : BoxAt _ _ _ _ := row_up qp bX1
          have rx := rx.below bX1
          have rp := rp.below bX1
          have B := below_then B bX1
          have hB := below_then hB bX1
          refine (D2.out X1 rx).mono ?_
          rintro e x2 ⟨rfl, hx2⟩
          have qm : BoxAt _ _ _ _ := row_up qm hx2
          have qp : BoxAt _ _ _ _ := row_up qp hx2
          have rx := rx.below hx2
          have rp := rp.below hx2
          have y1 := row_up y1 hx2
          have B := below_then B hx2
          have hB := below_then hB hx2
          have kp := (BoxAt.al qp (.cells #[.int .u64 (s0 : Int), .int .u32 (s1 : Int), .int .u16 (s2 : Int), .int .u16 (s3 : Int)] 44)).c
          go_wp2_with fail
          clear kp
          refine named ?_
          intro X2 hX2
          have bX2 : Below x2.heap.size x2 X2 := by rw [hX2]; repeat' (first | exact Below.refl _ _ | (refine Below.alloc ?_ ?_ _; rotate_left; (simp <;> omega)) | refine Below.drew ?_)
          have zX2 := bX2.size
          have y2 : X2.heap[x2.heap.size]? = some (.cells #[.int .u64 (s0 : Int), .int .u32 (s1 : Int), .int .u16 (s2 : Int), .int .u16 (s3 : Int)] 44 (0, 0)) := by rw [hX2]; exact row_at _ rfl
          have HX2 := Lib.hid hX2
          clear hX2
          have qm : BoxAt _ _ _ _ := row_up qm bX2
          have qp : BoxAt _ _ _ _ := row_up qp bX2
          have rx := rx.below bX2
          have rp := rp.below bX2
          have y1 := row_up y1 bX2
          have B := below_then B bX2
          have hB := below_then hB bX2
          refine (U1.out X2 rp).mono ?_
          rintro e x3 ⟨rfl, hx3⟩
          have qm : BoxAt _ _ _ _ := row_up qm hx3
          have qp : BoxAt _ _ _ _ := row_up qp hx3
          have rx := rx.below hx3
          have rp := rp.below hx3
          have y1 := row_up y1 hx3
          have y2 := row_up y2 hx3
          have B := below_then B hx3
          have hB := below_then hB hx3
          have km := (BoxAt.al qm (.cells #[.int .u32 (e0 : Int), .int .u32 (e1 : Int)] 25)).c
          go_wp2_with fail
          clear km
          refine named ?_
          intro X3 hX3
          have bX3 : Below x3.heap.size x3 X3 := by rw [hX3]; repeat' (first | exact Below.refl _ _ | (refine Below.alloc ?_ ?_ _; rotate_left; (simp <;> omega)) | refine Below.drew ?_)
          have zX3 := bX3.size
          have y3 : X3.heap[x3.heap.size]? = some (.cells #[.int .u32 (e0 : Int), .int .u32 (e1 : Int)] 25 (0, 0)) := by rw [hX3]; exact row_at _ rfl
          have HX3 := Lib.hid hX3
          clear hX3
          have qm : BoxAt _ _ _ _ := row_up qm bX3
          have qp : BoxAt _ _ _ _ := row_up qp bX3
          have rx := rx.below bX3
          have rp := rp.below bX3
          have y1 := row_up y1 bX3
          have y2 := row_up y2 bX3
          have B := below_then B bX3
          have hB := below_then hB bX3
          refine (U2.out X3 rx).mono ?_
          rintro e x4 ⟨rfl, hx4⟩
          have qm : BoxAt _ _ _ _ := row_up qm hx4
          have qp : BoxAt _ _ _ _ := row_up qp hx4
          have rx := rx.below hx4
          have rp := rp.below hx4
          have y1 := row_up y1 hx4
          have y2 := row_up y2 hx4
          have y3 := row_up y3 hx4
          have B := below_then B hx4
          have hB := below_then hB hx4
          obtain ⟨X4, hX4⟩ : ∃ Z, Z = x4.alloc (.cells #[.int .u32 (e0 : Int), .int .u32 (e1 : Int)] 25) := ⟨_, rfl⟩
          have bX4 : Below x4.heap.size x4 X4 := by rw [hX4]; exact (below_self _).alloc (Nat.le_refl _) _
          have y4 : X4.heap[x4.heap.size]? = some (.cells #[.int .u32 (e0 : Int), .int .u32 (e1 : Int)] 25 (0, 0)) := by rw [hX4]; exact row_at _ rfl
          have qm : BoxAt _ _ _ _ := row_up qm bX4
          have qp : BoxAt _ _ _ _ := row_up qp bX4
          have rx := rx.below bX4
          have rp := rp.below bX4
          have y1 := row_up y1 bX4
          have y2 := row_up y2 bX4
          have y3 := row_up y3 bX4
          have B := below_then B bX4
          have hB := below_then hB bX4
          have ya0 := (cell_of_row _ _ 0 _ _ _ y1).trans (show (#[.int .u64 (c0 : Int), .int .u32 (c1 : Int), .int .u16 (c2 : Int), .int .u16 (c3 : Int)] : Array Value)[0]? = some (.int .u64 (c0 : Int)) from rfl)
          have ya1 := (cell_of_row _ _ 1 _ _ _ y1).trans (show (#[.int .u64 (c0 : Int), .int .u32 (c1 : Int), .int .u16 (c2 : Int), .int .u16 (c3 : Int)] : Array Value)[1]? = some (.int .u32 (c1 : Int)) from rfl)
          have ya2 := (cell_of_row _ _ 2 _ _ _ y1).trans (show (#[.int .u64 (c0 : Int), .int .u32 (c1 : Int), .int .u16 (c2 : Int), .int .u16 (c3 : Int)] : Array Value)[2]? = some (.int .u16 (c2 : Int)) from rfl)
          have ya3 := (cell_of_row _ _ 3 _ _ _ y1).trans (show (#[.int .u64 (c0 : Int), .int .u32 (c1 : Int), .int .u16 (c2 : Int), .int .u16 (c3 : Int)] : Array Value)[3]? = some (.int .u16 (c3 : Int)) from rfl)
          have yb0 := (cell_of_row _ _ 0 _ _ _ y2).trans (show (#[.int .u64 (s0 : Int), .int .u32 (s1 : Int), .int .u16 (s2 : Int), .int .u16 (s3 : Int)] : Array Value)[0]? = some (.int .u64 (s0 : Int)) from rfl)
          have yb1 := (cell_of_row _ _ 1 _ _ _ y2).trans (show (#[.int .u64 (s0 : Int), .int .u32 (s1 : Int), .int .u16 (s2 : Int), .int .u16 (s3 : Int)] : Array Value)[1]? = some (.int .u32 (s1 : Int)) from rfl)
          have yb2 := (cell_of_row _ _ 2 _ _ _ y2).trans (show (#[.int .u64 (s0 : Int), .int .u32 (s1 : Int), .int .u16 (s2 : Int), .int .u16 (s3 : Int)] : Array Value)[2]? = some (.int .u16 (s2 : Int)) from rfl)
          have yb3 := (cell_of_row _ _ 3 _ _ _ y2).trans (show (#[.int .u64 (s0 : Int), .int .u32 (s1 : Int), .int .u16 (s2 : Int), .int .u16 (s3 : Int)] : Array Value)[3]? = some (.int .u16 (s3 : Int)) from rfl)
          have yc0 := (cell_of_row _ _ 0 _ _ _ y3).trans (show (#[.int .u32 (e0 : Int), .int .u32 (e1 : Int)] : Array Value)[0]? = some (.int .u32 (e0 : Int)) from rfl)
          have yc1 := (cell_of_row _ _ 1 _ _ _ y3).trans (show (#[.int .u32 (e0 : Int), .int .u32 (e1 : Int)] : Array Value)[1]? = some (.int .u32 (e1 : Int)) from rfl)
          have yd0 := (cell_of_row _ _ 0 _ _ _ y4).trans (show (#[.int .u32 (e0 : Int), .int .u32 (e1 : Int)] : Array Value)[0]? = some (.int .u32 (e0 : Int)) from rfl)
          have yd1 := (cell_of_row _ _ 1 _ _ _ y4).trans (show (#[.int .u32 (e0 : Int), .int .u32 (e1 : Int)] : Array Value)[1]? = some (.int .u32 (e1 : Int)) from rfl)
          rw [hX4] at ya0 ya1 ya2 ya3 yb0 yb1 yb2 yb3 yc0 yc1 yd0 yd1 hB
          clear y1 y2 y3 y4 hX4
          go_wp2_with fail
          go_roundw
          case rel => exact ⟨j + 1, by omega, by go_num, hB⟩
          case measure => simp [intOf]; omega
      · by_cases hja : j = ar
        · have hne : ¬ ((j : Int) = (jn : Int)) := by omega
          have hnb : ((j : Int) != (jn : Int)) = true := bne_iff_ne.2 hne
          subst hja
          obtain ⟨z0, z1, z2, z3⟩ := hds (by omega)
          rw [← z0, ← z1, ← z2, ← z3] at D2
          clear z0 z1 z2 z3
          clear hds hus hji
          go_wp2_with fail
          refine (D1.out wr rp).mono ?_
          rintro e x1 ⟨rfl, hx1⟩
          clear kp
          have qm : BoxAt _ _ _ _ := row_up qm hx1
          have qp : BoxAt _ _ _ _ := row_up qp hx1
          have rx := rx.below hx1
          have rp := rp.below hx1
          have B := below_then B hx1
          have hB := below_then hB hx1
          have km := (BoxAt.al qm (.cells #[.int .u64 (c0 : Int), .int .u32 (c1 : Int), .int .u16 (c2 : Int), .int .u16 (c3 : Int)] 44)).c
          go_wp2_with fail
          clear km
          refine named ?_
          intro X1 hX1
          have bX1 : Below x1.heap.size x1 X1 := by rw [hX1]; repeat' (first | exact Below.refl _ _ | (refine Below.alloc ?_ ?_ _; rotate_left; (simp <;> omega)) | refine Below.drew ?_)
          have zX1 := bX1.size
          have y1 : X1.heap[x1.heap.size]? = some (.cells #[.int .u64 (c0 : Int), .int .u32 (c1 : Int), .int .u16 (c2 : Int), .int .u16 (c3 : Int)] 44 (0, 0)) := by rw [hX1]; exact row_at _ rfl
          have HX1 := Lib.hid hX1
          clear hX1
          have qm : BoxAt _ _ _ _ := row_up qm bX1
          have qp : BoxAt _ _ _ _ := row_up qp bX1
          have rx := rx.below bX1
          have rp := rp.below bX1
          have B := below_then B bX1
          have hB := below_then hB bX1
          refine (D2.out X1 rx).mono ?_
          rintro e x2 ⟨rfl, hx2⟩
          have qm : BoxAt _ _ _ _ := row_up qm hx2
          have qp : BoxAt _ _ _ _ := row_up qp hx2
          have rx := rx.below hx2
          have rp := rp.below hx2
          have y1 := row_up y1 hx2
          have B := below_then B hx2
          have hB := below_then hB hx2
          have kp := (BoxAt.al qp (.cells #[.int .u64 (c0 : Int), .int .u32 (c1 : Int), .int .u16 (c2 : Int), .int .u16 (c3 : Int)] 44)).c
          go_wp2_with fail
          clear kp
          refine named ?_
          intro X2 hX2
          have bX2 : Below x2.heap.size x2 X2 := by rw [hX2]; repeat' (first | exact Below.refl _ _ | (refine Below.alloc ?_ ?_ _; rotate_left; (simp <;> omega)) | refine Below.drew ?_)
          have zX2 := bX2.size
          have y2 : X2.heap[x2.heap.size]? = some (.cells #[.int .u64 (c0 : Int), .int .u32 (c1 : Int), .int .u16 (c2 : Int), .int .u16 (c3 : Int)] 44 (0, 0)) := by rw [hX2]; exact row_at _ rfl
          have HX2 := Lib.hid hX2
          clear hX2
          have qm : BoxAt _ _ _ _ := row_up qm bX2
          have qp : BoxAt _ _ _ _ := row_up qp bX2
          have rx := rx.below bX2
          have rp := rp.below bX2
          have y1 := row_up y1 bX2
          have B := below_then B bX2
          have hB := below_then hB bX2
          refine (U1.out X2 rp).mono ?_
          rintro e x3 ⟨rfl, hx3⟩
          have qm : BoxAt _ _ _ _ := row_up qm hx3
          have qp : BoxAt _ _ _ _ := row_up qp hx3
          have rx := rx.below hx3
          have rp := rp.below hx3
          have y1 := row_up y1 hx3
          have y2 := row_up y2 hx3
          have B := below_then B hx3
          have hB := below_then hB hx3
          have km := (BoxAt.al qm (.cells #[.int .u32 (e0 : Int), .int .u32 (e1 : Int)] 25)).c
          go_wp2_with fail
          clear km
          refine named ?_
          intro X3 hX3
          have bX3 : Below x3.heap.size x3 X3 := by rw [hX3]; repeat' (first | exact Below.refl _ _ | (refine Below.alloc ?_ ?_ _; rotate_left; (simp <;> omega)) | refine Below.drew ?_)
          have zX3 := bX3.size
          have y3 : X3.heap[x3.heap.size]? = some (.cells #[.int .u32 (e0 : Int), .int .u32 (e1 : Int)] 25 (0, 0)) := by rw [hX3]; exact row_at _ rfl
          have HX3 := Lib.hid hX3
          clear hX3
          have qm : BoxAt _ _ _ _ := row_up qm bX3
          have qp : BoxAt _ _ _ _ := row_up qp bX3
          have rx := rx.below bX3
          have rp := rp.below bX3
          have y1 := row_up y1 bX3
          have y2 := row_up y2 bX3
          have B := below_then B bX3
          have hB := below_then hB bX3
          refine (U2.out X3 rx).mono ?_
          rintro e x4 ⟨rfl, hx4⟩
          have qm : BoxAt _ _ _ _ := row_up qm hx4
          have qp : BoxAt _ _ _ _ := row_up qp hx4
          have rx := rx.below hx4
          have rp := rp.below hx4
          have y1 := row_up y1 hx4
          have y2 := row_up y2 hx4
          have y3 := row_up y3 hx4
          have B := below_then B hx4
          have hB := below_then hB hx4
          obtain ⟨X4, hX4⟩ : ∃ Z, Z = x4.alloc (.cells #[.int .u32 (f0 : Int), .int .u32 (f1 : Int)] 25) := ⟨_, rfl⟩
          have bX4 : Below x4.heap.size x4 X4 := by rw [hX4]; exact (below_self _).alloc (Nat.le_refl _) _
          have y4 : X4.heap[x4.heap.size]? = some (.cells #[.int .u32 (f0 : Int), .int .u32 (f1 : Int)] 25 (0, 0)) := by rw [hX4]; exact row_at _ rfl
          have qm : BoxAt _ _ _ _ := row_up qm bX4
          have qp : BoxAt _ _ _ _ := row_up qp bX4
          have rx := rx.below bX4
          have rp := rp.below bX4
          have y1 := row_up y1 bX4
          have y2 := row_up y2 bX4
          have y3 := row_up y3 bX4
          have B := below_then B bX4
          have hB := below_then hB bX4
          have ya0 := (cell_of_row _ _ 0 _ _ _ y1).trans (show (#[.int .u64 (c0 : Int), .int .u32 (c1 : Int), .int .u16 (c2 : Int), .int .u16 (c3 : Int)] : Array Value)[0]? = some (.int .u64 (c0 : Int)) from rfl)
          have ya1 := (cell_of_row _ _ 1 _ _ _ y1).trans (show (#[.int .u64 (c0 : Int), .int .u32 (c1 : Int), .int .u16 (c2 : Int), .int .u16 (c3 : Int)] : Array Value)[1]? = some (.int .u32 (c1 : Int)) from rfl)
          have ya2 := (cell_of_row _ _ 2 _ _ _ y1).trans (show (#[.int .u64 (c0 : Int), .int .u32 (c1 : Int), .int .u16 (c2 : Int), .int .u16 (c3 : Int)] : Array Value)[2]? = some (.int .u16 (c2 : Int)) from rfl)
          have ya3 := (cell_of_row _ _ 3 _ _ _ y1).trans (show (#[.int .u64 (c0 : Int), .int .u32 (c1 : Int), .int .u16 (c2 : Int), .int .u16 (c3 : Int)] : Array Value)[3]? = some (.int .u16 (c3 : Int)) from rfl)
          have yb0 := (cell_of_row _ _ 0 _ _ _ y2).trans (show (#[.int .u64 (c0 : Int), .int .u32 (c1 : Int), .int .u16 (c2 : Int), .int .u16 (c3 : Int)] : Array Value)[0]? = some (.int .u64 (c0 : Int)) from rfl)
          have yb1 := (cell_of_row _ _ 1 _ _ _ y2).trans (show (#[.int .u64 (c0 : Int), .int .u32 (c1 : Int), .int .u16 (c2 : Int), .int .u16 (c3 : Int)] : Array Value)[1]? = some (.int .u32 (c1 : Int)) from rfl)
          have yb2 := (cell_of_row _ _ 2 _ _ _ y2).trans (show (#[.int .u64 (c0 : Int), .int .u32 (c1 : Int), .int .u16 (c2 : Int), .int .u16 (c3 : Int)] : Array Value)[2]? = some (.int .u16 (c2 : Int)) from rfl)
          have yb3 := (cell_of_row _ _ 3 _ _ _ y2).trans (show (#[.int .u64 (c0 : Int), .int .u32 (c1 : Int), .int .u16 (c2 : Int), .int .u16 (c3 : Int)] : Array Value)[3]? = some (.int .u16 (c3 : Int)) from rfl)
          have yc0 := (cell_of_row _ _ 0 _ _ _ y3).trans (show (#[.int .u32 (e0 : Int), .int .u32 (e1 : Int)] : Array Value)[0]? = some (.int .u32 (e0 : Int)) from rfl)
          have yc1 := (cell_of_row _ _ 1 _ _ _ y3).trans (show (#[.int .u32 (e0 : Int), .int .u32 (e1 : Int)] : Array Value)[1]? = some (.int .u32 (e1 : Int)) from rfl)
          have yd0 := (cell_of_row _ _ 0 _ _ _ y4).trans (show (#[.int .u32 (f0 : Int), .int .u32 (f1 : Int)] : Array Value)[0]? = some (.int .u32 (f0 : Int)) from rfl)
          have yd1 := (cell_of_row _ _ 1 _ _ _ y4).trans (show (#[.int .u32 (f0 : Int), .int .u32 (f1 : Int)] : Array Value)[1]? = some (.int .u32 (f1 : Int)) from rfl)
          rw [hX4] at ya0 ya1 ya2 ya3 yb0 yb1 yb2 yb3 yc0 yc1 yd0 yd1 hB
          clear y1 y2 y3 y4 hX4
          go_wp2_with fail
          go_roundw
          case rel => exact ⟨j + 1, by omega, by go_num, hB⟩
          case measure => simp [intOf]; omega
        · have hne : ¬ ((j : Int) = (jn : Int)) := by omega
          have hnb : ((j : Int) != (jn : Int)) = true := bne_iff_ne.2 hne
          have hna : ¬ ((j : Int) = (ar : Int)) := by omega
          have hnc : ((j : Int) != (ar : Int)) = true := bne_iff_ne.2 hna
          obtain ⟨z0, z1, z2, z3⟩ := hds (by omega)
          rw [← z0, ← z1, ← z2, ← z3] at D2
          clear z0 z1 z2 z3
          obtain ⟨z0, z1⟩ := hus (by omega)
          rw [← z0, ← z1] at U2
          clear z0 z1
          clear hds hus hji hja
          go_wp2_with fail
          refine (D1.out wr rp).mono ?_
          rintro e x1 ⟨rfl, hx1⟩
          clear kp
          have qm : BoxAt _ _ _ _ := row_up qm hx1
          have qp : BoxAt _ _ _ _ := row_up qp hx1
          have rx := rx.below hx1
          have rp := rp.below hx1
          have B := below_then B hx1
          have hB := below_then hB hx1
          have km := (BoxAt.al qm (.cells #[.int .u64 (c0 : Int), .int .u32 (c1 : Int), .int .u16 (c2 : Int), .int .u16 (c3 : Int)] 44)).c
          go_wp2_with fail
          clear km
          refine named ?_
          intro X1 hX1
          have bX1 : Below x1.heap.size x1 X1 := by rw [hX1]; repeat' (first | exact Below.refl _ _ | (refine Below.alloc ?_ ?_ _; rotate_left; (simp <;> omega)) | refine Below.drew ?_)
          have zX1 := bX1.size
          have y1 : X1.heap[x1.heap.size]? = some (.cells #[.int .u64 (c0 : Int), .int .u32 (c1 : Int), .int .u16 (c2 : Int), .int .u16 (c3 : Int)] 44 (0, 0)) := by rw [hX1]; exact row_at _ rfl
          have HX1 := Lib.hid hX1
          clear hX1
          have qm : BoxAt _ _ _ _ := row_up qm bX1
          have qp : BoxAt _ _ _ _ := row_up qp bX1
          have rx := rx.below bX1
          have rp := rp.below bX1
          have B := below_then B bX1
          have hB := below_then hB bX1
          refine (D2.out X1 rx).mono ?_
          rintro e x2 ⟨rfl, hx2⟩
          have qm : BoxAt _ _ _ _ := row_up qm hx2
          have qp : BoxAt _ _ _ _ := row_up qp hx2
          have rx := rx.below hx2
          have rp := rp.below hx2
          have y1 := row_up y1 hx2
          have B := below_then B hx2
          have hB := below_then hB hx2
          have kp := (BoxAt.al qp (.cells #[.int .u64 (c0 : Int), .int .u32 (c1 : Int), .int .u16 (c2 : Int), .int .u16 (c3 : Int)] 44)).c
          go_wp2_with fail
          clear kp
          refine named ?_
          intro X2 hX2
          have bX2 : Below x2.heap.size x2 X2 := by rw [hX2]; repeat' (first | exact Below.refl _ _ | (refine Below.alloc ?_ ?_ _; rotate_left; (simp <;> omega)) | refine Below.drew ?_)
          have zX2 := bX2.size
          have y2 : X2.heap[x2.heap.size]? = some (.cells #[.int .u64 (c0 : Int), .int .u32 (c1 : Int), .int .u16 (c2 : Int), .int .u16 (c3 : Int)] 44 (0, 0)) := by rw [hX2]; exact row_at _ rfl
          have HX2 := Lib.hid hX2
          clear hX2
          have qm : BoxAt _ _ _ _ := row_up qm bX2
          have qp : BoxAt _ _ _ _ := row_up qp bX2
          have rx := rx.below bX2
          have rp := rp.below bX2
          have y1 := row_up y1 bX2
          have B := below_then B bX2
          have hB := below_then hB bX2
          refine (U1.out X2 rp).mono ?_
          rintro e x3 ⟨rfl, hx3⟩
          have qm : BoxAt _ _ _ _ := row_up qm hx3
          have qp : BoxAt _ _ _ _ := row_up qp hx3
          have rx := rx.below hx3
          have rp := rp.below hx3
          have y1 := row_up y1 hx3
          have y2 := row_up y2 hx3
          have B := below_then B hx3
          have hB := below_then hB hx3
          have km := (BoxAt.al qm (.cells #[.int .u32 (e0 : Int), .int .u32 (e1 : Int)] 25)).c
          go_wp2_with fail
          clear km
          refine named ?_
          intro X3 hX3
          have bX3 : Below x3.heap.size x3 X3 := by rw [hX3]; repeat' (first | exact Below.refl _ _ | (refine Below.alloc ?_ ?_ _; rotate_left; (simp <;> omega)) | refine Below.drew ?_)
          have zX3 := bX3.size
          have y3 : X3.heap[x3.heap.size]? = some (.cells #[.int .u32 (e0 : Int), .int .u32 (e1 : Int)] 25 (0, 0)) := by rw [hX3]; exact row_at _ rfl
          have HX3 := Lib.hid hX3
          clear hX3
          have qm : BoxAt _ _ _ _ := row_up qm bX3
          have qp : BoxAt _ _ _ _ := row_up qp bX3
          have rx := rx.below bX3
          have rp := rp.below bX3
          have y1 := row_up y1 bX3
          have y2 := row_up y2 bX3
          have B := below_then B bX3
          have hB := below_then hB bX3
          refine (U2.out X3 rx).mono ?_
          rintro e x4 ⟨rfl, hx4⟩
          have qm : BoxAt _ _ _ _ := row_up qm hx4
          have qp : BoxAt _ _ _ _ := row_up qp hx4
          have rx := rx.below hx4
          have rp := rp.below hx4
          have y1 := row_up y1 hx4
          have y2 := row_up y2 hx4
          have y3 := row_up y3 hx4
          have B := below_then B hx4
          have hB := below_then hB hx4
          obtain ⟨X4, hX4⟩ : ∃ Z, Z = x4.alloc (.cells #[.int .u32 (e0 : Int), .int .u32 (e1 : Int)] 25) := ⟨_, rfl⟩
          have bX4 : Below x4.heap.size x4 X4 := by rw [hX4]; exact (below_self _).alloc (Nat.le_refl _) _
          have y4 : X4.heap[x4.heap.size]? = some (.cells #[.int .u32 (e0 : Int), .int .u32 (e1 : Int)] 25 (0, 0)) := by rw [hX4]; exact row_at _ rfl
          have qm : BoxAt _ _ _ _ := row_up qm bX4
          have qp : BoxAt _ _ _ _ := row_up qp bX4
          have rx := rx.below bX4
          have rp := rp.below bX4
          have y1 := row_up y1 bX4
          have y2 := row_up y2 bX4
          have y3 := row_up y3 bX4
          have B := below_then B bX4
          have hB := below_then hB bX4
          have ya0 := (cell_of_row _ _ 0 _ _ _ y1).trans (show (#[.int .u64 (c0 : Int), .int .u32 (c1 : Int), .int .u16 (c2 : Int), .int .u16 (c3 : Int)] : Array Value)[0]? = some (.int .u64 (c0 : Int)) from rfl)
          have ya1 := (cell_of_row _ _ 1 _ _ _ y1).trans (show (#[.int .u64 (c0 : Int), .int .u32 (c1 : Int), .int .u16 (c2 : Int), .int .u16 (c3 : Int)] : Array Value)[1]? = some (.int .u32 (c1 : Int)) from rfl)
          have ya2 := (cell_of_row _ _ 2 _ _ _ y1).trans (show (#[.int .u64 (c0 : Int), .int .u32 (c1 : Int), .int .u16 (c2 : Int), .int .u16 (c3 : Int)] : Array Value)[2]? = some (.int .u16 (c2 : Int)) from rfl)
          have ya3 := (cell_of_row _ _ 3 _ _ _ y1).trans (show (#[.int .u64 (c0 : Int), .int .u32 (c1 : Int), .int .u16 (c2 : Int), .int .u16 (c3 : Int)] : Array Value)[3]? = some (.int .u16 (c3 : Int)) from rfl)
          have yb0 := (cell_of_row _ _ 0 _ _ _ y2).trans (show (#[.int .u64 (c0 : Int), .int .u32 (c1 : Int), .int .u16 (c2 : Int), .int .u16 (c3 : Int)] : Array Value)[0]? = some (.int .u64 (c0 : Int)) from rfl)
          have yb1 := (cell_of_row _ _ 1 _ _ _ y2).trans (show (#[.int .u64 (c0 : Int), .int .u32 (c1 : Int), .int .u16 (c2 : Int), .int .u16 (c3 : Int)] : Array Value)[1]? = some (.int .u32 (c1 : Int)) from rfl)
          have yb2 := (cell_of_row _ _ 2 _ _ _ y2).trans (show (#[.int .u64 (c0 : Int), .int .u32 (c1 : Int), .int .u16 (c2 : Int), .int .u16 (c3 : Int)] : Array Value)[2]? = some (.int .u16 (c2 : Int)) from rfl)
          have yb3 := (cell_of_row _ _ 3 _ _ _ y2).trans (show (#[.int .u64 (c0 : Int), .int .u32 (c1 : Int), .int .u16 (c2 : Int), .int .u16 (c3 : Int)] : Array Value)[3]? = some (.int .u16 (c3 : Int)) from rfl)
          have yc0 := (cell_of_row _ _ 0 _ _ _ y3).trans (show (#[.int .u32 (e0 : Int), .int .u32 (e1 : Int)] : Array Value)[0]? = some (.int .u32 (e0 : Int)) from rfl)
          have yc1 := (cell_of_row _ _ 1 _ _ _ y3).trans (show (#[.int .u32 (e0 : Int), .int .u32 (e1 : Int)] : Array Value)[1]? = some (.int .u32 (e1 : Int)) from rfl)
          have yd0 := (cell_of_row _ _ 0 _ _ _ y4).trans (show (#[.int .u32 (e0 : Int), .int .u32 (e1 : Int)] : Array Value)[0]? = some (.int .u32 (e0 : Int)) from rfl)
          have yd1 := (cell_of_row _ _ 1 _ _ _ y4).trans (show (#[.int .u32 (e0 : Int), .int .u32 (e1 : Int)] : Array Value)[1]? = some (.int .u32 (e1 : Int)) from rfl)
          rw [hX4] at ya0 ya1 ya2 ya3 yb0 yb1 yb2 yb3 yc0 yc1 yd0 yd1 hB
          clear y1 y2 y3 y4 hX4
          go_wp2_with fail
          go_roundw
          case rel => exact ⟨j + 1, by omega, by go_num, hB⟩
          case measure => simp [intOf]; omega
    · have hjm : j = m := by omega
      subst hjm
      go_wp2_with fail
      refine (H11.out wr).mono ?_
      rintro e wx ⟨rfl, rfl⟩
      obtain ⟨z, hz⟩ : ∃ z, rgSize (j : Int) = z := ⟨_, rfl⟩
      have hzE : (bn : Int) + z = (en : Int) := by rw [← hz]; exact HEN.out
      rw [hz]
      have wen : IntKind.i64.wrap (en : Int) = (en : Int) := wi64n (by omega)
      obtain ⟨T, hT⟩ : ∃ T, xs.take bn = T := ⟨_, rfl⟩
      obtain ⟨T2, hT2⟩ : ∃ T, xs.drop en = T := ⟨_, rfl⟩
      have RP := Lib.hid (fun W (hW : Below wr.heap.size wr W) => (GT.out.trans hT) ▸ ((rp.below hW).take bn (by omega)).str)
      have RX := Lib.hid (fun W (hW : Below wr.heap.size wr W) => hT ▸ ((rx.below hW).take bn (by omega)).str)
      have RP2 := Lib.hid (fun W (hW : Below wr.heap.size wr W) => (GD.out.trans hT2) ▸ ((rp.below hW).drop en (by omega)).str)
      have RX2 := Lib.hid (fun W (hW : Below wr.heap.size wr W) => hT2 ▸ ((rx.below hW).drop en (by omega)).str)
      have lc := rx.2.2.1
      have lcs := rp.2.2.1
      have p1 : (bn : Int) ≤ (cs : Int) := by omega
      have p2 : (bn : Int) ≤ (c : Int) := by omega
      have p3 : (en : Int) ≤ (n : Int) := by omega
      have p4 : (n : Int) ≤ (cs : Int) := by omega
      have p5 : (n : Int) ≤ (c : Int) := by omega
      have lm := row_lt qm
      have lgp := row_lt qp
      have km := BoxAt.c qm
      have kp := BoxAt.c qp
      clear hz hT hT2 rp rx qm qp
      go_wp2_with fail
      have HX := (Below.refl wr.heap.size wr).drew
      refine wp_region_plan (S := fun w' => Below wr.heap.size wr w') [(0, true), (1, true), (2, true), (3, true), (4, true), (5, true), (6, true), (7, true), (8, true), (9, true), (10, true), (11, true), (12, true), (13, true), (14, true), (15, true), (16, true), (17, true), (18, true), (19, true), (20, true), (21, true), (22, true), (23, true), (24, true), (25, false), (26, true), (27, true)] (by kernel_rfl) (by kernel_rfl) (fun _ _ d _ _ h => by cases d <;> exact h) ((Below.refl _ wr).drew) ?_
      iterate 12 (refine plan_take (v := ?_) rfl (Or.inl ⟨by rfl, ?_⟩) ?_; rotate_left; (focus (intro w' hw'; have jm := (hw'.cell (p := ⟨w.heap.size, 0, none⟩) lm).trans km; have jp := (hw'.cell (p := ⟨gp, 0, none⟩) lgp).trans kp; have t1 := RP.out _ hw'; have t2 := RX.out _ hw'; have t3 := RP2.out _ hw'; have t4 := RX2.out _ hw'; go_simp <;> with_reducible rfl)); try simp only [Act.put, List.setIfInBounds_toArray, List.set_cons_zero, List.set_cons_succ])
      iterate 11 ((first | refine plan_take (v := undef) rfl (Or.inr ⟨by rfl, rfl⟩) ?_ | (refine plan_take (v := ?_) rfl (Or.inl ⟨by rfl, ?_⟩) ?_; rotate_left; (focus (intro w' hw'; have jm := (hw'.cell (p := ⟨w.heap.size, 0, none⟩) lm).trans km; have jp := (hw'.cell (p := ⟨gp, 0, none⟩) lgp).trans kp; have t1 := RP.out _ hw'; have t2 := RX.out _ hw'; have t3 := RP2.out _ hw'; have t4 := RX2.out _ hw'; go_simp <;> with_reducible rfl)))); try simp only [Act.put, List.setIfInBounds_toArray, List.set_cons_zero, List.set_cons_succ])
      iterate 2 (refine plan_take (v := ?_) rfl (Or.inl ⟨by rfl, ?_⟩) ?_; rotate_left; (focus (intro w' hw'; have jm := (hw'.cell (p := ⟨w.heap.size, 0, none⟩) lm).trans km; have jp := (hw'.cell (p := ⟨gp, 0, none⟩) lgp).trans kp; have t1 := RP.out _ hw'; have t2 := RX.out _ hw'; have t3 := RP2.out _ hw'; have t4 := RX2.out _ hw'; go_simp <;> with_reducible rfl)); try simp only [Act.put, List.setIfInBounds_toArray, List.set_cons_zero, List.set_cons_succ])
      refine plan_run rfl (fun K hK => ?_)
      go_simp
      refine (heads07 _).mono ?_
      rintro e_ wy ⟨rfl, hby⟩
      have HY := below_then HX hby
      refine hK.out _ _ (HY) ?_
      clear hK
      try simp only [Act.put, List.setIfInBounds_toArray, List.set_cons_zero, List.set_cons_succ]
      iterate 2 (refine plan_take (v := ?_) rfl (Or.inl ⟨by rfl, ?_⟩) ?_; rotate_left; (focus (intro w' hw'; have jm := (hw'.cell (p := ⟨w.heap.size, 0, none⟩) lm).trans km; have jp := (hw'.cell (p := ⟨gp, 0, none⟩) lgp).trans kp; have t1 := RP.out _ hw'; have t2 := RX.out _ hw'; have t3 := RP2.out _ hw'; have t4 := RX2.out _ hw'; go_simp <;> with_reducible rfl)); try simp only [Act.put, List.setIfInBounds_toArray, List.set_cons_zero, List.set_cons_succ])
      refine plan_done ?_
      go_wp2
      all_goals (go_ret; exact ⟨rfl, below_then B HY⟩)
theorem ringKeeps_law (A : Option Addr) (n c : Nat) (xs : List UInt8) (b k i : Int) (d0 d1 d2 d3 : Nat) (a : Nat) (u v : Nat) (w : World) (hr : RdB w A n c xs) (hb : (-9223372036854775808 ≤ b ∧ b ≤ 9223372036854775807)) (hk : (-9223372036854775808 ≤ k ∧ k ≤ 9223372036854775807)) (hi : (-9223372036854775808 ≤ i ∧ i ≤ 9223372036854775807)) (h0 : d0 < 18446744073709551616) (h1 : d1 < 4294967296) (h2 : d2 < 65536) (h3 : d3 < 65536) (ha : a < 65536) (hu : u < 4294967296) (hv : v < 4294967296) :
    Calls Try.prog 5 #[.agg #[.slice A n c], .int .i64 b, .int .i64 k, .int .i64 i, .agg #[.int .u64 (d0 : Int), .int .u32 (d1 : Int), .int .u16 (d2 : Int), .int .u16 (d3 : Int)], .int .u16 (a : Int), .agg #[.int .u32 (u : Int), .int .u32 (v : Int)]] w (RetV w (.bool true)) := by
  by_cases hF : n ≤ 3000
  · by_cases hC : rgCheck n b k = true
    · by_cases hi0 : i < 0
      · exact ringKeeps_low A n c xs b k i d0 d1 d2 d3 a u v w hr hb hk hi h0 h1 h2 h3 ha hu hv hF hC hi0
      · by_cases hi1 : k ≤ i
        · exact ringKeeps_high A n c xs b k i d0 d1 d2 d3 a u v w hr hb hk hi h0 h1 h2 h3 ha hu hv hF hC hi0 hi1
        · obtain ⟨o1, o2, o3, o4, o5, o6, o7⟩ := rgCheck_ok hC
          obtain ⟨bn, rfl⟩ : ∃ x : Nat, b = x := ⟨b.toNat, by omega⟩
          obtain ⟨m, rfl⟩ : ∃ x : Nat, k = x := ⟨k.toNat, by omega⟩
          obtain ⟨jn, rfl⟩ : ∃ x : Nat, i = x := ⟨i.toNat, by omega⟩
          exact ringKeeps_main A n c xs bn m jn d0 d1 d2 d3 a u v w hr h0 h1 h2 h3 ha hu hv hF hC (by omega)
    · exact ringKeeps_none A n c xs b k i d0 d1 d2 d3 a u v w hr hb hk hi h0 h1 h2 h3 ha hu hv hF (by simpa using hC)
  · exact ringKeeps_great A n c xs b k i d0 d1 d2 d3 a u v w hr hb hk hi h0 h1 h2 h3 ha hu hv hF
end Go.Proofs.Ytnfepikgbdeomaa
