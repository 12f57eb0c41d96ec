/-
  The law PortsTell.
-/
import Derived.Test.YtieilgphcfiapaaPortsF
namespace Go.Proofs.Ytieilgphcfiapaa
set_option maxRecDepth 20000
open Go.RowKit
set_option linter.unusedVariables false
set_option linter.unusedSimpArgs false
set_option maxHeartbeats 8000000

abbrev ptRow (l m k : Nat) (A : Option Addr) (n c : Nat) : Array Value := #[.int .u32 l, .int .u32 m, .int .u64 k, .slice A n c]
theorem PtAt.set {V : World} {g l m k : Nat} {A : Option Addr} {n c : Nat} (h : PtAt V g l m k A n c) (l' m' k' : Nat) (A' : Option Addr) (n' c' : Nat) : PtAt (V.setRow g #[.int .u32 l', .int .u32 m', .int .u64 k', .slice A' n' c']) g l' m' k' A' n' c' := setRow_heap V g _ _ _ _ h
theorem PtAt.setOther {V : World} {g l m k : Nat} {A : Option Addr} {n c : Nat} (h : PtAt V g l m k A n c) (g' : Nat) (cs : Array Value) (hne : g ≠ g') : PtAt (V.setRow g' cs) g l m k A n c := by
  unfold PtAt; rw [setRow_other V g' g cs hne]; exact h
theorem rd_ne_pt {w : World} {A : Option Addr} {n c : Nat} {xs : List UInt8} (h : RdB w A n c xs) {g l m k : Nat} {A' : Option Addr} {n' c' : Nat} (hp : PtAt w g l m k A' n' c') : 0 < n → ∀ a, A = some a → a.block ≠ g := by
  intro h0 a ha e
  obtain ⟨b, o, u, hA, _, _, hc⟩ := h.at_ 0 h0
  rw [hA] at ha
  injection ha with ha
  subst ha
  subst e
  rw [cell_of_row _ _ (o + 0) _ _ _ hp] at hc
  match o, hc with
  | 0, hc => injection hc with hc; injection hc with hc; cases hc
  | 1, hc => injection hc with hc; injection hc with hc; cases hc
  | 2, hc => injection hc with hc; injection hc with hc; cases hc
  | 3, hc => injection hc with hc; cases hc
  | o + 4, hc => simp at hc
theorem RdB.setPt {w : World} {A : Option Addr} {n c : Nat} {xs : List UInt8} (h : RdB w A n c xs) {g l m k : Nat} {A' : Option Addr} {n' c' : Nat} (hp : PtAt w g l m k A' n' c') (cs : Array Value) : RdB (w.setRow g cs) A n c xs := rd_row h g cs (rd_ne_pt h hp)

structure TellSt (w V : World) (g13 g15 : Nat) (l m k : Nat) (A : Option Addr) (n c : Nat) : Prop where
  b : Below w.heap.size w V
  p : PtAt V w.heap.size l m k A n c
  r13 : ∃ l m k A n c, PtAt V g13 l m k A n c
  r15 : ∃ l m k A n c, PtAt V g15 l m k A n c
  lt1 : w.heap.size < g13
  lt2 : g13 < g15
theorem TellSt.call {w V V' : World} {g13 g15 l m k : Nat} {A : Option Addr} {n c : Nat} (h : TellSt w V g13 g15 l m k A n c) (hb : Below V.heap.size V V') : TellSt w V' g13 g15 l m k A n c := by
  obtain ⟨b, q, ⟨l1, m1, k1, A1, n1, c1, r1⟩, ⟨l2, m2, k2, A2, n2, c2, r2⟩, h1, h2⟩ := h
  exact ⟨below_then b hb, q.below hb q.lt, ⟨_, _, _, _, _, _, r1.below hb r1.lt⟩, ⟨_, _, _, _, _, _, r2.below hb r2.lt⟩, h1, h2⟩
theorem TellSt.set13 {w V : World} {g13 g15 l m k : Nat} {A : Option Addr} {n c : Nat} (h : TellSt w V g13 g15 l m k A n c) (l' m' k' : Nat) (A' : Option Addr) (n' c' : Nat) :
    TellSt w (V.setRow g13 #[.int .u32 l', .int .u32 m', .int .u64 k', .slice A' n' c']) g13 g15 l m k A n c ∧ PtAt (V.setRow g13 #[.int .u32 l', .int .u32 m', .int .u64 k', .slice A' n' c']) g13 l' m' k' A' n' c' := by
  obtain ⟨b, q, ⟨l1, m1, k1, A1, n1, c1, r1⟩, ⟨l2, m2, k2, A2, n2, c2, r2⟩, h1, h2⟩ := h
  have r := r1.set l' m' k' A' n' c'
  exact ⟨⟨below_setRow b (by omega) _, q.setOther _ _ (by omega), ⟨_, _, _, _, _, _, r⟩, ⟨_, _, _, _, _, _, r2.setOther _ _ (by omega)⟩, h1, h2⟩, r⟩
theorem TellSt.set15 {w V : World} {g13 g15 l m k : Nat} {A : Option Addr} {n c : Nat} (h : TellSt w V g13 g15 l m k A n c) (l' m' k' : Nat) (A' : Option Addr) (n' c' : Nat) :
    TellSt w (V.setRow g15 #[.int .u32 l', .int .u32 m', .int .u64 k', .slice A' n' c']) g13 g15 l m k A n c ∧ PtAt (V.setRow g15 #[.int .u32 l', .int .u32 m', .int .u64 k', .slice A' n' c']) g15 l' m' k' A' n' c' := by
  obtain ⟨b, q, ⟨l1, m1, k1, A1, n1, c1, r1⟩, ⟨l2, m2, k2, A2, n2, c2, r2⟩, h1, h2⟩ := h
  have r := r2.set l' m' k' A' n' c'
  exact ⟨⟨below_setRow b (by omega) _, q.setOther _ _ (by omega), ⟨_, _, _, _, _, _, r1.setOther _ _ (by omega)⟩, ⟨_, _, _, _, _, _, r⟩, h1, h2⟩, r⟩

theorem portsTell_early (l m k : Nat) (A : Option Addr) (n c : Nat) (xs : List UInt8) (line : Int) (on : Bool) (t : Nat) (B : Option Addr) (j d : Nat) (ys : List UInt8) (q : Int) (w : World) (hr : RdB w A n c xs) (hs : RdB w B j d ys) (h : 300 < n ∨ 300 < j) :
    Calls Try.prog 10 #[.agg #[.int .u32 l, .int .u32 m, .int .u64 k, .slice A n c], .int .i64 line, .bool on, .int .u64 t, .slice B j d, .int .i64 q] w (RetV w (.bool true)) := by
  have hn63 := hr.n63
  have hm63 := hs.n63
  by_cases h1 : 300 < n
  · have d1 : decide ((300 : Int) < (n : Int)) = true := decide_eq_true (by omega)
    clear h
    go_enter Try.func10, Try.ntmps10
    go_wp2_with fail
    refine (heads06 _).mono ?_
    rintro e w9 ⟨rfl, hb9⟩
    go_wp2
    go_ret
    exact ⟨rfl, bstep (below_self w) hb9⟩
  · have d1 : decide ((300 : Int) < (n : Int)) = false := decide_eq_false (by omega)
    have d2 : decide ((300 : Int) < (j : Int)) = true := decide_eq_true (by omega)
    clear h
    go_enter Try.func10, Try.ntmps10
    go_wp2_with fail
    refine (heads06 _).mono ?_
    rintro e w9 ⟨rfl, hb9⟩
    go_wp2
    go_ret
    exact ⟨rfl, bstep (below_self w) hb9⟩

theorem portsTell_main (l m k : Nat) (A : Option Addr) (n c : Nat) (xs : List UInt8) (line : Int) (on : Bool) (t : Nat) (B : Option Addr) (j d : Nat) (ys : List UInt8) (q : Int) (w : World) (hl : l < 4294967296) (hm : m < 4294967296) (hk : k < 18446744073709551616) (hr : RdB w A n c xs) (ht : t < 18446744073709551616) (hs : RdB w B j d ys) (h1 : n ≤ 300) (h2 : j ≤ 300) :
    Calls Try.prog 10 #[.agg #[.int .u32 l, .int .u32 m, .int .u64 k, .slice A n c], .int .i64 line, .bool on, .int .u64 t, .slice B j d, .int .i64 q] w (RetV w (.bool true)) := by
  have hn := hr.n63
  have hj := hs.n63
  have d1 : decide ((300 : Int) < (n : Int)) = false := decide_eq_false (by omega)
  have d2 : decide ((300 : Int) < (j : Int)) = false := decide_eq_false (by omega)
  obtain ⟨e1, he1⟩ : ∃ e1, askedE line k n = e1 := ⟨askedE line k n, rfl⟩
  have HE1 := Lib.hid he1
  obtain ⟨V1, hv1⟩ : ∃ V1, chL line true e1 l = V1 := ⟨chL line true e1 l, rfl⟩
  have HV1 := Lib.hid hv1
  obtain ⟨V2, hv2⟩ : ∃ V2, chL line on e1 m = V2 := ⟨chL line on e1 m, rfl⟩
  have HV2 := Lib.hid hv2
  obtain ⟨V3, hv3⟩ : ∃ V3, chL line false e1 l = V3 := ⟨chL line false e1 l, rfl⟩
  have HV3 := Lib.hid hv3
  obtain ⟨e4, he4⟩ : ∃ e4, tickE t k n = e4 := ⟨tickE t k n, rfl⟩
  have HE4 := Lib.hid he4
  obtain ⟨V4, hv4⟩ : ∃ V4, tickK t k e4 = V4 := ⟨tickK t k e4, rfl⟩
  have HV4 := Lib.hid hv4
  obtain ⟨e5, he5⟩ : ∃ e5, fillE k n j = e5 := ⟨fillE k n j, rfl⟩
  have HE5 := Lib.hid he5
  obtain ⟨zs, hzs⟩ : ∃ zs, fillL xs ys e5 = zs := ⟨fillL xs ys e5, rfl⟩
  have HZS := Lib.hid hzs
  obtain ⟨e6, he6⟩ : ∃ e6, drawE k n q = e6 := ⟨drawE k n q, rfl⟩
  have HE6 := Lib.hid he6
  obtain ⟨zd, hzd⟩ : ∃ zd, drawZ xs q e6 = zd := ⟨drawZ xs q e6, rfl⟩
  have HZD := Lib.hid hzd
  obtain ⟨ds, hds⟩ : ∃ ds, drawD xs q e6 = ds := ⟨drawD xs q e6, rfl⟩
  have HDS := Lib.hid hds
  clear he1 hv1 hv2 hv3 he4 hv4 he5 hzs he6 hzd hds
  have ke1 : (e1 != e1) = false := by simp
  have we1 : (e1 == e1) = true := by simp
  have ke4 : (e4 != e4) = false := by simp
  have we4 : (e4 == e4) = true := by simp
  have ke5 : (e5 != e5) = false := by simp
  have we5 : (e5 == e5) = true := by simp
  have ke6 : (e6 != e6) = false := by simp
  have we6 : (e6 == e6) = true := by simp
  go_enter Try.func10, Try.ntmps10
  go_wp2_with fail
  refine named ?_
  intro W1 hW1
  have bW1 : Below w.heap.size w W1 := by rw [hW1]; repeat' (first | exact Below.refl _ _ | (refine Below.alloc ?_ ?_ _; rotate_left; (simp <;> omega)) | refine Below.drew ?_)
  have zW1 := bW1.size
  have P1 : PtAt W1 w.heap.size l m k A n c := by rw [hW1]; exact row1 ..
  have HW1 := Lib.hid hW1
  clear hW1
  have hh := ptRaise_any line l m k A n c W1 hn hl hm hk
  rw [HE1.out, HV1.out] at hh
  refine hh.mono ?_
  clear hh
  rintro e w2 ⟨rfl, hb2⟩
  obtain ⟨W2, hW2⟩ : ∃ W : World, W = w2.alloc (.cells #[.int .u32 V1, .int .u32 m, .int .u64 k, .slice A n c] 63) := ⟨_, rfl⟩
  have bW2 : Below w2.heap.size w2 W2 := by rw [hW2]; repeat' (first | exact Below.refl _ _ | (refine Below.alloc ?_ ?_ _; rotate_left; (simp <;> omega)) | refine Below.drew ?_)
  have zW2 := bW2.size
  have xW2 : w2.heap.size < W2.heap.size := by rw [hW2]; simp <;> omega
  have R13 : PtAt W2 w2.heap.size V1 m k A n c := by rw [hW2]; exact row1 ..
  have P2 := P1.below (below_then hb2 bW2) P1.lt
  obtain ⟨a0, a1, a2, a3, af⟩ := P2.cells
  clear af
  rw [hW2] at a0 a1 a2 a3
  have HW2 := Lib.hid hW2
  clear hW2
  go_wp2_with fail
  rw [← HW2.out]
  clear a0 a1 a2 a3
  have hh := refPtRaise_any line l m k A n c W2 hn hl hm hk
  rw [HE1.out, HV1.out] at hh
  refine hh.mono ?_
  clear hh
  rintro e w3 ⟨rfl, hb3⟩
  obtain ⟨W3, hW3⟩ : ∃ W : World, W = w3.alloc (.cells #[.int .u32 V1, .int .u32 m, .int .u64 k, .slice A n c] 63) := ⟨_, rfl⟩
  have bW3 : Below w3.heap.size w3 W3 := by rw [hW3]; repeat' (first | exact Below.refl _ _ | (refine Below.alloc ?_ ?_ _; rotate_left; (simp <;> omega)) | refine Below.drew ?_)
  have zW3 := bW3.size
  have xW3 : w3.heap.size < W3.heap.size := by rw [hW3]; simp <;> omega
  have R15 : PtAt W3 w3.heap.size V1 m k A n c := by rw [hW3]; exact row1 ..
  have Q13 := R13.below (below_then hb3 bW3) R13.lt
  have S3 : TellSt w W3 w2.heap.size w3.heap.size l m k A n c := ⟨below_then bW1 (below_then (below_then hb2 bW2) (below_then hb3 bW3)), P2.below (below_then hb3 bW3) P2.lt, ⟨_, _, _, _, _, _, Q13⟩, ⟨_, _, _, _, _, _, R15⟩, Nat.lt_of_lt_of_le P1.lt hb2.size, Nat.lt_of_lt_of_le R13.lt hb3.size⟩
  obtain ⟨a0, a1, a2, a3, af⟩ := Q13.cells
  clear af
  obtain ⟨b0, b1, b2, b3, bf⟩ := R15.cells
  clear bf
  rw [hW3] at a0 a1 a2 a3 b0 b1 b2 b3
  have HW3 := Lib.hid hW3
  clear hW3
  go_wp2_with fail
  rw [← HW3.out]
  clear a0 a1 a2 a3 b0 b1 b2 b3
  refine (same06_any V1 m k A n c xs V1 m k A n c xs W3 (hr.below S3.b) (hr.below S3.b) rfl rfl rfl rfl).mono ?_
  rintro e w4 ⟨rfl, hb4⟩
  have S4 := S3.call hb4
  obtain ⟨a0, a1, a2, a3, af⟩ := S4.p.cells
  clear af
  go_wp2_with fail
  have hh := ptHear_any line on l m k A n c w4 hn hl hm hk
  rw [HE1.out, HV2.out] at hh
  refine hh.mono ?_
  clear hh
  rintro e w5 ⟨rfl, hb5⟩
  clear a0 a1 a2 a3
  have S5 := S4.call hb5
  obtain ⟨z1, z2, z3, z4, z5, z6, Z5⟩ := S5.r13
  have T5 := S5.set13 l V2 k A n c
  obtain ⟨T5, Q5⟩ := T5
  obtain ⟨a0, a1, a2, a3, af⟩ := T5.p.cells
  clear af
  have HZ5 := Lib.hid Z5
  clear Z5
  go_wp2_with (refine wpList_store_row rfl _ _ _ rfl (w2.heap.size) #[.int .u32 l, .int .u32 V2, .int .u64 k, .slice A n c] rfl rfl _ _ HZ5.out (by kernel_rfl : (Try.prog.info? 63).map (·.size) = some 4) rfl (by simp [Value.oneCell']) ?_)
  clear a0 a1 a2 a3
  refine named ?_
  intro X5 hX5
  rw [← hX5] at T5 Q5
  have HX5 := Lib.hid hX5
  clear hX5
  have hh := refPtHear_any line on l m k A n c X5 hn hl hm hk
  rw [HE1.out, HV2.out] at hh
  refine hh.mono ?_
  clear hh
  rintro e w6 ⟨rfl, hb6⟩
  have S6 := T5.call hb6
  obtain ⟨z1, z2, z3, z4, z5, z6, Z6⟩ := S6.r15
  have T6 := S6.set15 l V2 k A n c
  obtain ⟨T6, Y6⟩ := T6
  have U6 := (Q5.below hb6 Q5.lt).setOther w3.heap.size #[.int .u32 l, .int .u32 V2, .int .u64 k, .slice A n c] (by have := S6.lt2; omega)
  have HZ6 := Lib.hid Z6
  clear Z6
  obtain ⟨a0, a1, a2, a3, af⟩ := U6.cells
  clear af
  obtain ⟨b0, b1, b2, b3, bf⟩ := Y6.cells
  clear bf
  go_wp2_with (refine wpList_store_row rfl _ _ _ rfl (w3.heap.size) #[.int .u32 l, .int .u32 V2, .int .u64 k, .slice A n c] rfl rfl _ _ HZ6.out (by kernel_rfl : (Try.prog.info? 63).map (·.size) = some 4) rfl (by simp [Value.oneCell']) ?_)
  clear a0 a1 a2 a3 b0 b1 b2 b3
  refine named ?_
  intro X6 hX6
  rw [← hX6] at T6 U6 Y6
  have HX6 := Lib.hid hX6
  clear hX6
  refine (same06_any l V2 k A n c xs l V2 k A n c xs X6 (hr.below T6.b) (hr.below T6.b) rfl rfl rfl rfl).mono ?_
  rintro e w7 ⟨rfl, hb7⟩
  have S7 := T6.call hb7
  obtain ⟨a0, a1, a2, a3, af⟩ := S7.p.cells
  clear af
  go_wp2_with fail
  have hh := ptDone_any line l m k A n c w7 hn hl hm hk
  rw [HE1.out, HV3.out] at hh
  refine hh.mono ?_
  clear hh
  rintro e w8 ⟨rfl, hb8⟩
  clear a0 a1 a2 a3
  have S8 := S7.call hb8
  obtain ⟨z1, z2, z3, z4, z5, z6, Z8⟩ := S8.r13
  have T8 := S8.set13 V3 m k A n c
  obtain ⟨T8, Q8⟩ := T8
  obtain ⟨a0, a1, a2, a3, af⟩ := T8.p.cells
  clear af
  have HZ8 := Lib.hid Z8
  clear Z8
  go_wp2_with (refine wpList_store_row rfl _ _ _ rfl (w2.heap.size) #[.int .u32 V3, .int .u32 m, .int .u64 k, .slice A n c] rfl rfl _ _ HZ8.out (by kernel_rfl : (Try.prog.info? 63).map (·.size) = some 4) rfl (by simp [Value.oneCell']) ?_)
  clear a0 a1 a2 a3
  refine named ?_
  intro X8 hX8
  rw [← hX8] at T8 Q8
  have HX8 := Lib.hid hX8
  clear hX8
  have hh := refPtDone_any line l m k A n c X8 hn hl hm hk
  rw [HE1.out, HV3.out] at hh
  refine hh.mono ?_
  clear hh
  rintro e w9 ⟨rfl, hb9⟩
  have S9 := T8.call hb9
  obtain ⟨z1, z2, z3, z4, z5, z6, Z9⟩ := S9.r15
  have T9 := S9.set15 V3 m k A n c
  obtain ⟨T9, Y9⟩ := T9
  have U9 := (Q8.below hb9 Q8.lt).setOther w3.heap.size #[.int .u32 V3, .int .u32 m, .int .u64 k, .slice A n c] (by have := S9.lt2; omega)
  have HZ9 := Lib.hid Z9
  clear Z9
  obtain ⟨a0, a1, a2, a3, af⟩ := U9.cells
  clear af
  obtain ⟨b0, b1, b2, b3, bf⟩ := Y9.cells
  clear bf
  go_wp2_with (refine wpList_store_row rfl _ _ _ rfl (w3.heap.size) #[.int .u32 V3, .int .u32 m, .int .u64 k, .slice A n c] rfl rfl _ _ HZ9.out (by kernel_rfl : (Try.prog.info? 63).map (·.size) = some 4) rfl (by simp [Value.oneCell']) ?_)
  clear a0 a1 a2 a3 b0 b1 b2 b3
  refine named ?_
  intro X9 hX9
  rw [← hX9] at T9 U9 Y9
  have HX9 := Lib.hid hX9
  clear hX9
  refine (same06_any V3 m k A n c xs V3 m k A n c xs X9 (hr.below T9.b) (hr.below T9.b) rfl rfl rfl rfl).mono ?_
  rintro e w10 ⟨rfl, hb10⟩
  have S10 := T9.call hb10
  obtain ⟨a0, a1, a2, a3, af⟩ := S10.p.cells
  clear af
  go_wp2_with fail
  have hh := ptTick_any t l m k A n c w10 hn hl hm hk ht
  rw [HE4.out, HV4.out] at hh
  refine hh.mono ?_
  clear hh
  rintro e w11 ⟨rfl, hb11⟩
  clear a0 a1 a2 a3
  have S11 := S10.call hb11
  obtain ⟨z1, z2, z3, z4, z5, z6, Z11⟩ := S11.r13
  have T11 := S11.set13 l m V4 A n c
  obtain ⟨T11, Q11⟩ := T11
  obtain ⟨a0, a1, a2, a3, af⟩ := T11.p.cells
  clear af
  have HZ11 := Lib.hid Z11
  clear Z11
  go_wp2_with (refine wpList_store_row rfl _ _ _ rfl (w2.heap.size) #[.int .u32 l, .int .u32 m, .int .u64 V4, .slice A n c] rfl rfl _ _ HZ11.out (by kernel_rfl : (Try.prog.info? 63).map (·.size) = some 4) rfl (by simp [Value.oneCell']) ?_)
  clear a0 a1 a2 a3
  refine named ?_
  intro X11 hX11
  rw [← hX11] at T11 Q11
  have HX11 := Lib.hid hX11
  clear hX11
  have hh := refPtTick_any t l m k A n c X11 hn hl hm hk ht
  rw [HE4.out, HV4.out] at hh
  refine hh.mono ?_
  clear hh
  rintro e w12 ⟨rfl, hb12⟩
  have S12 := T11.call hb12
  obtain ⟨z1, z2, z3, z4, z5, z6, Z12⟩ := S12.r15
  have T12 := S12.set15 l m V4 A n c
  obtain ⟨T12, Y12⟩ := T12
  have U12 := (Q11.below hb12 Q11.lt).setOther w3.heap.size #[.int .u32 l, .int .u32 m, .int .u64 V4, .slice A n c] (by have := S12.lt2; omega)
  have HZ12 := Lib.hid Z12
  clear Z12
  obtain ⟨a0, a1, a2, a3, af⟩ := U12.cells
  clear af
  obtain ⟨b0, b1, b2, b3, bf⟩ := Y12.cells
  clear bf
  go_wp2_with (refine wpList_store_row rfl _ _ _ rfl (w3.heap.size) #[.int .u32 l, .int .u32 m, .int .u64 V4, .slice A n c] rfl rfl _ _ HZ12.out (by kernel_rfl : (Try.prog.info? 63).map (·.size) = some 4) rfl (by simp [Value.oneCell']) ?_)
  clear a0 a1 a2 a3 b0 b1 b2 b3
  refine named ?_
  intro X12 hX12
  rw [← hX12] at T12 U12 Y12
  have HX12 := Lib.hid hX12
  clear hX12
  refine (same06_any l m V4 A n c xs l m V4 A n c xs X12 (hr.below T12.b) (hr.below T12.b) rfl rfl rfl rfl).mono ?_
  rintro e w13 ⟨rfl, hb13⟩
  have S13 := T12.call hb13
  obtain ⟨a0, a1, a2, a3, af⟩ := S13.p.cells
  clear af
  go_wp2_with fail
  have hh := ptFill_any l m k A n c xs B j d ys w13 (hr.below S13.b) (hs.below S13.b) hk
  rw [HE5.out, HZS.out] at hh
  refine hh.mono ?_
  clear hh
  rintro e w14 ⟨A14, n14, c14, rfl, hr14, hb14⟩
  clear a0 a1 a2 a3
  have S14 := S13.call hb14
  obtain ⟨z1, z2, z3, z4, z5, z6, Z14⟩ := S14.r13
  have T14 := S14.set13 l m k A14 n14 c14
  obtain ⟨T14, Q14⟩ := T14
  obtain ⟨a0, a1, a2, a3, af⟩ := T14.p.cells
  clear af
  have rd14 := hr14.setPt Z14 #[.int .u32 l, .int .u32 m, .int .u64 k, .slice A14 n14 c14]
  have HZ14 := Lib.hid Z14
  clear Z14
  go_wp2_with (refine wpList_store_row rfl _ _ _ rfl (w2.heap.size) #[.int .u32 l, .int .u32 m, .int .u64 k, .slice A14 n14 c14] rfl rfl _ _ HZ14.out (by kernel_rfl : (Try.prog.info? 63).map (·.size) = some 4) rfl (by simp [Value.oneCell']) ?_)
  clear a0 a1 a2 a3
  refine named ?_
  intro X14 hX14
  rw [← hX14] at T14 Q14 rd14
  have HX14 := Lib.hid hX14
  clear hX14
  have hh := refPtFill_any l m k A n c xs B j d ys X14 (hr.below T14.b) (hs.below T14.b) hk
  rw [HE5.out, HZS.out] at hh
  refine hh.mono ?_
  clear hh
  rintro e w15 ⟨A15, n15, c15, rfl, hr15, hb15⟩
  have S15 := T14.call hb15
  obtain ⟨z1, z2, z3, z4, z5, z6, Z15⟩ := S15.r15
  have T15 := S15.set15 l m k A15 n15 c15
  obtain ⟨T15, Y15⟩ := T15
  have U15 := (Q14.below hb15 Q14.lt).setOther w3.heap.size #[.int .u32 l, .int .u32 m, .int .u64 k, .slice A15 n15 c15] (by have := S15.lt2; omega)
  have rd15 := hr15.setPt Z15 #[.int .u32 l, .int .u32 m, .int .u64 k, .slice A15 n15 c15]
  have re15 := (rd14.below hb15).setPt Z15 #[.int .u32 l, .int .u32 m, .int .u64 k, .slice A15 n15 c15]
  have HZ15 := Lib.hid Z15
  clear Z15
  obtain ⟨a0, a1, a2, a3, af⟩ := U15.cells
  clear af
  obtain ⟨b0, b1, b2, b3, bf⟩ := Y15.cells
  clear bf
  go_wp2_with (refine wpList_store_row rfl _ _ _ rfl (w3.heap.size) #[.int .u32 l, .int .u32 m, .int .u64 k, .slice A15 n15 c15] rfl rfl _ _ HZ15.out (by kernel_rfl : (Try.prog.info? 63).map (·.size) = some 4) rfl (by simp [Value.oneCell']) ?_)
  clear a0 a1 a2 a3 b0 b1 b2 b3
  refine named ?_
  intro X15 hX15
  rw [← hX15] at T15 U15 Y15 rd15 re15
  have HX15 := Lib.hid hX15
  clear hX15
  refine (same06_any l m k A14 n14 c14 zs l m k A15 n15 c15 zs X15 re15 rd15 rfl rfl rfl rfl).mono ?_
  rintro e w16 ⟨rfl, hb16⟩
  have S16 := T15.call hb16
  obtain ⟨a0, a1, a2, a3, af⟩ := S16.p.cells
  clear af
  go_wp2_with fail
  have hh := ptDraw_any l m k A n c xs q w16 (hr.below S16.b) hk
  rw [HE6.out, HZD.out, HDS.out] at hh
  refine hh.mono ?_
  clear hh
  rintro e w17 ⟨A17, n17, c17, B17, j17, d17, rfl, hr17, hs17, hb17⟩
  clear a0 a1 a2 a3
  have S17 := S16.call hb17
  obtain ⟨z1, z2, z3, z4, z5, z6, Z17⟩ := S17.r13
  have T17 := S17.set13 l m k A17 n17 c17
  obtain ⟨T17, Q17⟩ := T17
  obtain ⟨a0, a1, a2, a3, af⟩ := T17.p.cells
  clear af
  have rd17 := hr17.setPt Z17 #[.int .u32 l, .int .u32 m, .int .u64 k, .slice A17 n17 c17]
  have rs17 := hs17.setPt Z17 #[.int .u32 l, .int .u32 m, .int .u64 k, .slice A17 n17 c17]
  have HZ17 := Lib.hid Z17
  clear Z17
  go_wp2_with (refine wpList_store_row rfl _ _ _ rfl (w2.heap.size) #[.int .u32 l, .int .u32 m, .int .u64 k, .slice A17 n17 c17] rfl rfl _ _ HZ17.out (by kernel_rfl : (Try.prog.info? 63).map (·.size) = some 4) rfl (by simp [Value.oneCell']) ?_)
  clear a0 a1 a2 a3
  refine named ?_
  intro X17 hX17
  rw [← hX17] at T17 Q17 rd17 rs17
  have HX17 := Lib.hid hX17
  clear hX17
  have hh := refPtDraw_any l m k A n c xs q X17 (hr.below T17.b) hk
  rw [HE6.out, HZD.out, HDS.out] at hh
  refine hh.mono ?_
  clear hh
  rintro e w18 ⟨A18, n18, c18, B18, j18, d18, rfl, hr18, hs18, hb18⟩
  have S18 := T17.call hb18
  obtain ⟨z1, z2, z3, z4, z5, z6, Z18⟩ := S18.r15
  have T18 := S18.set15 l m k A18 n18 c18
  obtain ⟨T18, Y18⟩ := T18
  have U18 := (Q17.below hb18 Q17.lt).setOther w3.heap.size #[.int .u32 l, .int .u32 m, .int .u64 k, .slice A18 n18 c18] (by have := S18.lt2; omega)
  have rd18 := hr18.setPt Z18 #[.int .u32 l, .int .u32 m, .int .u64 k, .slice A18 n18 c18]
  have re18 := (rd17.below hb18).setPt Z18 #[.int .u32 l, .int .u32 m, .int .u64 k, .slice A18 n18 c18]
  have rs18 := hs18.setPt Z18 #[.int .u32 l, .int .u32 m, .int .u64 k, .slice A18 n18 c18]
  have rt18 := (rs17.below hb18).setPt Z18 #[.int .u32 l, .int .u32 m, .int .u64 k, .slice A18 n18 c18]
  have HZ18 := Lib.hid Z18
  clear Z18
  go_wp2_with (refine wpList_store_row rfl _ _ _ rfl (w3.heap.size) #[.int .u32 l, .int .u32 m, .int .u64 k, .slice A18 n18 c18] rfl rfl _ _ HZ18.out (by kernel_rfl : (Try.prog.info? 63).map (·.size) = some 4) rfl (by simp [Value.oneCell']) ?_)
  obtain ⟨V, hV⟩ : ∃ V, V = w18.setRow w3.heap.size #[.int .u32 l, .int .u32 m, .int .u64 k, .slice A18 n18 c18] := ⟨_, rfl⟩
  rw [← hV] at T18 Y18 U18 rd18 re18 rs18 rt18 ⊢
  have HV := Lib.hid hV
  clear hV
  have pV := T18.p
  have xa := pV.lt
  have xb := U18.lt
  have xc := Y18.lt
  have kp : (pendN l m k n == pendN l m k n) = true := by simp
  have kq : (ptCheck k n == ptCheck k n) = true := by simp
  refine wp_region_plan (S := fun w' => Below V.heap.size V w') [(0, true), (1, true), (2, false), (3, true), (4, true), (5, true), (6, false), (7, true), (8, true), (9, true), (10, true), (11, true), (12, true), (13, true), (14, true), (16, true), (15, false), (17, false), (18, true), (19, true), (20, true), (21, true), (23, true), (22, false), (24, false), (25, true), (26, true), (27, true), (28, false), (29, true), (30, true)] (by kernel_rfl) (by kernel_rfl) (fun _ _ d _ _ h => by cases d <;> exact h) ((Below.refl _ V).drew) ?_
  iterate 2 (refine plan_take (v := ?_) rfl (Or.inl ⟨by rfl, ?_⟩) ?_; rotate_left; (focus (intro w' hw'; obtain ⟨a0, a1, a2, a3, af⟩ := (pV.below hw' xa).cells; obtain ⟨b0, b1, b2, b3, bf⟩ := (U18.below hw' xb).cells; obtain ⟨c0, c1, c2, c3, cf⟩ := (Y18.below hw' xc).cells; clear af bf cf; go_simp <;> with_reducible rfl)); try simp only [Act.put, List.setIfInBounds_toArray, List.set_cons_zero, List.set_cons_succ])
  refine plan_run rfl (fun K hK => ?_)
  go_simp
  refine (same06_any l m k A17 n17 c17 zd l m k A18 n18 c18 zd _ re18.drew rd18.drew rfl rfl rfl rfl).mono ?_
  rintro e v1 ⟨rfl, hv1⟩
  refine hK.out _ _ (undrew hv1) ?_
  clear hK
  try simp only [Act.put, List.setIfInBounds_toArray, List.set_cons_zero, List.set_cons_succ]
  iterate 1 (refine plan_take (v := ?_) rfl (Or.inl ⟨by rfl, ?_⟩) ?_; rotate_left; (focus (intro w' hw'; obtain ⟨a0, a1, a2, a3, af⟩ := (pV.below hw' xa).cells; obtain ⟨b0, b1, b2, b3, bf⟩ := (U18.below hw' xb).cells; obtain ⟨c0, c1, c2, c3, cf⟩ := (Y18.below hw' xc).cells; clear af bf cf; go_simp <;> with_reducible rfl)); try simp only [Act.put, List.setIfInBounds_toArray, List.set_cons_zero, List.set_cons_succ])
  iterate 2 ((first | refine plan_take (v := undef) rfl (Or.inr ⟨by rfl, rfl⟩) ?_ | (refine plan_take (v := ?_) rfl (Or.inl ⟨by rfl, ?_⟩) ?_; rotate_left; (focus (intro w' hw'; obtain ⟨a0, a1, a2, a3, af⟩ := (pV.below hw' xa).cells; obtain ⟨b0, b1, b2, b3, bf⟩ := (U18.below hw' xb).cells; obtain ⟨c0, c1, c2, c3, cf⟩ := (Y18.below hw' xc).cells; clear af bf cf; go_simp <;> with_reducible rfl)))); try simp only [Act.put, List.setIfInBounds_toArray, List.set_cons_zero, List.set_cons_succ])
  refine plan_run rfl (fun K hK => ?_)
  go_simp
  refine (bytes_any _ _ _ _ _ _ ds ds v1 (rt18.below (undrew hv1)) (rs18.below (undrew hv1))).mono ?_
  rintro e v1b ⟨rfl, rfl⟩
  rw [decide_eq_true rfl]
  refine hK.out _ _ (undrew hv1) ?_
  clear hK
  try simp only [Act.put, List.setIfInBounds_toArray, List.set_cons_zero, List.set_cons_succ]
  iterate 2 (refine plan_take (v := ?_) rfl (Or.inl ⟨by rfl, ?_⟩) ?_; rotate_left; (focus (intro w' hw'; obtain ⟨a0, a1, a2, a3, af⟩ := (pV.below hw' xa).cells; obtain ⟨b0, b1, b2, b3, bf⟩ := (U18.below hw' xb).cells; obtain ⟨c0, c1, c2, c3, cf⟩ := (Y18.below hw' xc).cells; clear af bf cf; go_simp <;> with_reducible rfl)); try simp only [Act.put, List.setIfInBounds_toArray, List.set_cons_zero, List.set_cons_succ])
  iterate 3 ((first | refine plan_take (v := undef) rfl (Or.inr ⟨by rfl, rfl⟩) ?_ | (refine plan_take (v := ?_) rfl (Or.inl ⟨by rfl, ?_⟩) ?_; rotate_left; (focus (intro w' hw'; obtain ⟨a0, a1, a2, a3, af⟩ := (pV.below hw' xa).cells; obtain ⟨b0, b1, b2, b3, bf⟩ := (U18.below hw' xb).cells; obtain ⟨c0, c1, c2, c3, cf⟩ := (Y18.below hw' xc).cells; clear af bf cf; go_simp <;> with_reducible rfl)))); try simp only [Act.put, List.setIfInBounds_toArray, List.set_cons_zero, List.set_cons_succ])
  iterate 2 (refine plan_take (v := ?_) rfl (Or.inl ⟨by rfl, ?_⟩) ?_; rotate_left; (focus (intro w' hw'; obtain ⟨a0, a1, a2, a3, af⟩ := (pV.below hw' xa).cells; obtain ⟨b0, b1, b2, b3, bf⟩ := (U18.below hw' xb).cells; obtain ⟨c0, c1, c2, c3, cf⟩ := (Y18.below hw' xc).cells; clear af bf cf; go_simp <;> with_reducible rfl)); try simp only [Act.put, List.setIfInBounds_toArray, List.set_cons_zero, List.set_cons_succ])
  iterate 2 ((first | refine plan_take (v := undef) rfl (Or.inr ⟨by rfl, rfl⟩) ?_ | (refine plan_take (v := ?_) rfl (Or.inl ⟨by rfl, ?_⟩) ?_; rotate_left; (focus (intro w' hw'; obtain ⟨a0, a1, a2, a3, af⟩ := (pV.below hw' xa).cells; obtain ⟨b0, b1, b2, b3, bf⟩ := (U18.below hw' xb).cells; obtain ⟨c0, c1, c2, c3, cf⟩ := (Y18.below hw' xc).cells; clear af bf cf; go_simp <;> with_reducible rfl)))); try simp only [Act.put, List.setIfInBounds_toArray, List.set_cons_zero, List.set_cons_succ])
  refine plan_run rfl (fun K hK => ?_)
  go_simp
  refine (ptPend_any l m k A n c v1 hn hl hm hk).mono ?_
  rintro e v2 ⟨rfl, hv2⟩
  refine hK.out _ _ ((below_then (undrew hv1) hv2)) ?_
  clear hK
  try simp only [Act.put, List.setIfInBounds_toArray, List.set_cons_zero, List.set_cons_succ]
  refine plan_run rfl (fun K hK => ?_)
  go_simp
  refine (refPtPend_any l m k A n c v2 hn hl hm hk).mono ?_
  rintro e v3 ⟨rfl, hv3⟩
  refine hK.out _ _ ((below_then (below_then (undrew hv1) hv2) hv3)) ?_
  clear hK
  try simp only [Act.put, List.setIfInBounds_toArray, List.set_cons_zero, List.set_cons_succ]
  iterate 1 ((first | refine plan_take (v := undef) rfl (Or.inr ⟨by rfl, rfl⟩) ?_ | (refine plan_take (v := ?_) rfl (Or.inl ⟨by rfl, ?_⟩) ?_; rotate_left; (focus (intro w' hw'; obtain ⟨a0, a1, a2, a3, af⟩ := (pV.below hw' xa).cells; obtain ⟨b0, b1, b2, b3, bf⟩ := (U18.below hw' xb).cells; obtain ⟨c0, c1, c2, c3, cf⟩ := (Y18.below hw' xc).cells; clear af bf cf; go_simp <;> with_reducible rfl)))); try simp only [Act.put, List.setIfInBounds_toArray, List.set_cons_zero, List.set_cons_succ])
  iterate 2 (refine plan_take (v := ?_) rfl (Or.inl ⟨by rfl, ?_⟩) ?_; rotate_left; (focus (intro w' hw'; obtain ⟨a0, a1, a2, a3, af⟩ := (pV.below hw' xa).cells; obtain ⟨b0, b1, b2, b3, bf⟩ := (U18.below hw' xb).cells; obtain ⟨c0, c1, c2, c3, cf⟩ := (Y18.below hw' xc).cells; clear af bf cf; go_simp <;> with_reducible rfl)); try simp only [Act.put, List.setIfInBounds_toArray, List.set_cons_zero, List.set_cons_succ])
  iterate 2 ((first | refine plan_take (v := undef) rfl (Or.inr ⟨by rfl, rfl⟩) ?_ | (refine plan_take (v := ?_) rfl (Or.inl ⟨by rfl, ?_⟩) ?_; rotate_left; (focus (intro w' hw'; obtain ⟨a0, a1, a2, a3, af⟩ := (pV.below hw' xa).cells; obtain ⟨b0, b1, b2, b3, bf⟩ := (U18.below hw' xb).cells; obtain ⟨c0, c1, c2, c3, cf⟩ := (Y18.below hw' xc).cells; clear af bf cf; go_simp <;> with_reducible rfl)))); try simp only [Act.put, List.setIfInBounds_toArray, List.set_cons_zero, List.set_cons_succ])
  refine plan_run rfl (fun K hK => ?_)
  go_simp
  refine (ptCheck_any l m k A n c v3 hn hk).mono ?_
  rintro e v4 ⟨rfl, hv4⟩
  refine hK.out _ _ ((below_then (below_then (below_then (undrew hv1) hv2) hv3) hv4)) ?_
  clear hK
  try simp only [Act.put, List.setIfInBounds_toArray, List.set_cons_zero, List.set_cons_succ]
  refine plan_run rfl (fun K hK => ?_)
  go_simp
  refine (refCheck06_any l m k A n c v4 hn hk).mono ?_
  rintro e v5 ⟨rfl, hv5⟩
  refine hK.out _ _ ((below_then (below_then (below_then (below_then (undrew hv1) hv2) hv3) hv4) hv5)) ?_
  clear hK
  try simp only [Act.put, List.setIfInBounds_toArray, List.set_cons_zero, List.set_cons_succ]
  iterate 1 ((first | refine plan_take (v := undef) rfl (Or.inr ⟨by rfl, rfl⟩) ?_ | (refine plan_take (v := ?_) rfl (Or.inl ⟨by rfl, ?_⟩) ?_; rotate_left; (focus (intro w' hw'; obtain ⟨a0, a1, a2, a3, af⟩ := (pV.below hw' xa).cells; obtain ⟨b0, b1, b2, b3, bf⟩ := (U18.below hw' xb).cells; obtain ⟨c0, c1, c2, c3, cf⟩ := (Y18.below hw' xc).cells; clear af bf cf; go_simp <;> with_reducible rfl)))); try simp only [Act.put, List.setIfInBounds_toArray, List.set_cons_zero, List.set_cons_succ])
  iterate 2 (refine plan_take (v := ?_) rfl (Or.inl ⟨by rfl, ?_⟩) ?_; rotate_left; (focus (intro w' hw'; obtain ⟨a0, a1, a2, a3, af⟩ := (pV.below hw' xa).cells; obtain ⟨b0, b1, b2, b3, bf⟩ := (U18.below hw' xb).cells; obtain ⟨c0, c1, c2, c3, cf⟩ := (Y18.below hw' xc).cells; clear af bf cf; go_simp <;> with_reducible rfl)); try simp only [Act.put, List.setIfInBounds_toArray, List.set_cons_zero, List.set_cons_succ])
  refine plan_run rfl (fun K hK => ?_)
  go_simp
  refine (heads06 v5).mono ?_
  rintro e v6 ⟨rfl, hv6⟩
  refine hK.out _ _ ((below_then (below_then (below_then (below_then (below_then (undrew hv1) hv2) hv3) hv4) hv5) hv6)) ?_
  clear hK
  try simp only [Act.put, List.setIfInBounds_toArray, List.set_cons_zero, List.set_cons_succ]
  iterate 2 (refine plan_take (v := ?_) rfl (Or.inl ⟨by rfl, ?_⟩) ?_; rotate_left; (focus (intro w' hw'; obtain ⟨a0, a1, a2, a3, af⟩ := (pV.below hw' xa).cells; obtain ⟨b0, b1, b2, b3, bf⟩ := (U18.below hw' xb).cells; obtain ⟨c0, c1, c2, c3, cf⟩ := (Y18.below hw' xc).cells; clear af bf cf; go_simp <;> with_reducible rfl)); try simp only [Act.put, List.setIfInBounds_toArray, List.set_cons_zero, List.set_cons_succ])
  refine plan_done ?_
  go_wp2
  go_ret
  exact ⟨rfl, below_then T18.b (below_then (below_then (below_then (below_then (below_then (undrew hv1) hv2) hv3) hv4) hv5) hv6)⟩

theorem portsTell_law (l m k : Nat) (A : Option Addr) (n c : Nat) (xs : List UInt8) (line : Int) (on : Bool) (t : Nat) (B : Option Addr) (j d : Nat) (ys : List UInt8) (q : Int) (w : World) (hl : l < 4294967296) (hm : m < 4294967296) (hk : k < 18446744073709551616) (hr : RdB w A n c xs) (hline : -9223372036854775808 ≤ line ∧ line ≤ 9223372036854775807) (ht : t < 18446744073709551616) (hs : RdB w B j d ys) (hq : -9223372036854775808 ≤ q ∧ q ≤ 9223372036854775807) :
    Calls Try.prog 10 #[.agg #[.int .u32 l, .int .u32 m, .int .u64 k, .slice A n c], .int .i64 line, .bool on, .int .u64 t, .slice B j d, .int .i64 q] w (RetV w (.bool true)) := by
  by_cases h : 300 < n ∨ 300 < j
  · exact portsTell_early l m k A n c xs line on t B j d ys q w hr hs h
  · exact portsTell_main l m k A n c xs line on t B j d ys q w hl hm hk hr ht hs (by omega) (by omega)
end Go.Proofs.Ytieilgphcfiapaa
