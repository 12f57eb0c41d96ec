/-
  Layer 21: frag: Expire of one whose time is over; Take of a whole packet, and of one that is dropped (genfrgl.py).
-/
import Derived.Test.YteajboafcjeagaaFrgK
namespace Go.Proofs.Yteajboafcjeagaa
set_option maxRecDepth 20000
open Go.RowKit
set_option linter.unusedVariables false
set_option linter.unusedSimpArgs false
set_option maxHeartbeats 8000000
theorem frgExpire1_any (x : Fr) (hok : x.ok) (now h : Nat) (w : World) (hh : w.heap[h]? = some (.cells #[.int .u64 (now : Int)] 64 (0, 0))) (hx : x.till ≤ now) :
    Calls Try.prog 63 #[.agg (frA x), .pointer (some ⟨h, 0, none⟩)] w (RetV w (.bool true)) := by
  obtain ⟨V, hV⟩ : ∃ V, V = w.alloc (.cells (frA x) 85) := ⟨_, rfl⟩
  have bV : Below w.heap.size w V := by rw [hV]; exact (below_self w).alloc (Nat.le_refl _) _
  have q : FrgAt V w.heap.size x := by rw [hV]; exact frw_at _ rfl
  have x7 : V.cell? ⟨w.heap.size, 261, none⟩ = some (.int .u64 (x.till : Int)) := (q.cell 261).trans (frV_till hok)
  have ch : V.cell? ⟨h, 0, none⟩ = some (.int .u64 (now : Int)) := (cell_of_row V h 0 _ _ _ (frw_up hh bV)).trans rfl
  have d1 : decide ((x.till : Int) ≤ (now : Int)) = true := decide_eq_true (by omega)
  have d2 : decide (x.till ≤ now) = true := decide_eq_true hx
  have HV := Lib.hid hV
  clear hV hh q hx
  go_enter Try.func63, Try.ntmps63
  go_wp2_with (rw [← HV.out])
  go_ret
  exact ⟨rfl, bV⟩
theorem idxExF_any (A : Option Addr) (c : Nat) (x : Fr) (now h : Nat) (w : World) (hr : RdFr w A 1 c [x]) (hh : w.heap[h]? = some (.cells #[.int .u64 (now : Int)] 64 (0, 0))) (hx : x.till ≤ now) :
    Calls Try.prog 64 #[.slice A 1 c, .func (.func 63) #[] #[.pointer (some ⟨h, 0, none⟩)]] w (RetV w (.int .i64 0)) := by
  obtain ⟨b, o, rfl, hb, hok, hin⟩ := hr.fr 0 (by omega)
  rw [Nat.zero_mul, Nat.add_zero] at hin
  have hin : FrIn w b o x := hin
  have HOK : Hid x.ok := Lib.hid hok
  have HIN := Lib.hid hin
  have H := Lib.hid (frgExpire1_any x hok now h w hh hx)
  clear hr hh hx hin
  go_enter Try.func64, Try.ntmps64
  go_wp2_with fail
  go_loopw [8] (fun i wr => i = .int .i64 0 ∧ wr = w) (fun i _ => 0)
  case atStart => exact ⟨rfl, rfl⟩
  case round =>
  obtain ⟨rfl, rfl⟩ := hrel
  go_wp2_with (refine fr_mid HOK.out rfl _ rfl b o rfl HIN.out ?_)
  refine H.out.mono ?_
  rintro e w2 ⟨rfl, hb2⟩
  go_wp2_with fail
  go_ret
  exact ⟨rfl, hb2⟩
def RetF0 (w : World) (base : Nat) (e : Ending) (w' : World) : Prop := ∃ A c, e = .returned (.slice A 0 c) ∧ Below base w w'
theorem delExF_any (base : Nat) (A : Option Addr) (c : Nat) (x : Fr) (now h : Nat) (w : World) (hown : OwFr w base A 1 c [x]) (hok : x.ok) (hbw : base ≤ w.heap.size) (hh : w.heap[h]? = some (.cells #[.int .u64 (now : Int)] 64 (0, 0))) (hx : x.till ≤ now) :
    Calls Try.prog 61 #[.slice A 1 c, .func (.func 63) #[] #[.pointer (some ⟨h, 0, none⟩)]] w (RetF0 w base) := by
  have hr : RdFr w A 1 c [x] := hown.rd
  have H := Lib.hid (idxExF_any A c x now h w hr hh hx)
  obtain ⟨g, zs, rfl, hb, hrow, hz, hnc, hcm, ht, hl⟩ := hown.row (by omega)
  have hc63 : c ≤ 9223372036854775807 := by unfold maxLen at hcm; omega
  have HROW := Lib.hid hrow
  have HZ := Lib.hid hz
  have hc0 : ¬ (c = 0) := by omega
  have w1 : IntKind.i64.wrap (0 + 1) = 1 := by decide
  clear hown hr hrow hz ht hh
  go_enter Try.func61, Try.ntmps61
  go_wp2_with fail
  refine H.out.mono ?_
  rintro e w2 ⟨rfl, hb2⟩
  go_wp2_with fail
  go_loopw [5, 6] (fun q i wr => q = .int .i64 0 ∧ i = .int .i64 1 ∧ wr = w2) (fun q i _ => 0)
  case atStart => exact ⟨rfl, rfl, rfl⟩
  case round =>
  obtain ⟨rfl, rfl, rfl⟩ := hrel
  obtain ⟨w3, hr3, hW3⟩ := run_clearK elemFr (by intro v hv; exact frV_one fr0 v (by simpa [frA, Value.cells] using hv)) (HROW.out.up hb2) 56 0 1 c (by rw [HZ.out]; omega)
  have HW3 := Lib.hid hW3
  have HR3 := Lib.hid hr3
  clear hW3 hr3
  go_wp2_with (refine wp_clearRun rfl _ _ rfl _ rfl HR3.out ?_)
  go_ret
  exact ⟨_, _, rfl, (hb2.mono hbw).trans (HW3.out.below base hb)⟩
theorem frgExpire_any (A : Option Addr) (c : Nat) (x : Fr) (now : Nat) (w : World) (hr : RdFr w A 1 c [x]) (hok : FrS [x]) (hx : x.till ≤ now) :
    Calls Try.prog 47 #[.slice A 1 c, .int .u64 (now : Int)] w (RetF0 w w.heap.size) := by
  obtain ⟨V, hV⟩ : ∃ V, V = w.alloc (.cells #[.int .u64 (now : Int)] 64) := ⟨_, rfl⟩
  have bV : Below w.heap.size w V := by rw [hV]; exact (below_self w).alloc (Nat.le_refl _) _
  have qV : V.heap[w.heap.size]? = some (.cells #[.int .u64 (now : Int)] 64 (0, 0)) := by rw [hV]; exact frw_at _ rfl
  have HV := Lib.hid hV
  have HQ := Lib.hid qV
  have HR := Lib.hid hr
  have hxo : x.ok := hr.2.2.2.2 x (by simp)
  have C1 := Lib.hid (frgCheck_yes A 1 c [x] V (hr.below bV) hok)
  clear hV qV hr hok
  go_enter Try.func47, Try.ntmps47
  go_wp2_with fail
  rw [← HV.out]
  refine C1.out.mono ?_
  rintro e w1 ⟨rfl, hb1⟩
  have B1 := below_then bV hb1
  go_wp2_with fail
  refine (cloneFr_any A 1 c [x] w1 (HR.out.below B1) (by omega)).mono ?_
  rintro e w2 ⟨A2, c2, rfl, o2, hb2⟩
  have B2 := below_then B1 hb2
  go_wp2_with fail
  refine (delExF_any w1.heap.size A2 c2 x now w.heap.size w2 o2 hxo hb2.size (frw_up (frw_up HQ.out hb1) hb2) hx).mono ?_
  rintro e w3 ⟨A3, c3, rfl, hb3⟩
  go_wp2_with fail
  go_ret
  exact ⟨A3, c3, rfl, B2.trans (hb3.mono B1.size)⟩

theorem pk_row7d {w Y : World} {g : Nat} {x0 x1 x2 x3 x4 x5 x6 v0 v1 v2 v3 v4 v5 v6 : Value} {T : TypeId} (hrow : w.heap[g]? = some (.cells #[x0, x1, x2, x3, x4, x5, x6] T (0, 0)))
    (hY : Y = (((((((w.setCell ⟨g, 0, none⟩ v0).setCell ⟨g, 1, none⟩ v1).setCell ⟨g, 2, none⟩ v2).setCell ⟨g, 3, none⟩ v3).setCell ⟨g, 4, none⟩ v4).setCell ⟨g, 5, none⟩ v5).setCell ⟨g, 6, none⟩ v6).drew) : Y.heap[g]? = some (.cells #[v0, v1, v2, v3, v4, v5, v6] T (0, 0)) := by rw [hY]; exact frw_drew (pk_set7 hrow _ _ _ _ _ _ _)
theorem pk_but7d {w Y : World} {g : Nat} {v0 v1 v2 v3 v4 v5 v6 : Value}
    (hY : Y = (((((((w.setCell ⟨g, 0, none⟩ v0).setCell ⟨g, 1, none⟩ v1).setCell ⟨g, 2, none⟩ v2).setCell ⟨g, 3, none⟩ v3).setCell ⟨g, 4, none⟩ v4).setCell ⟨g, 5, none⟩ v5).setCell ⟨g, 6, none⟩ v6).drew) : ButG g w Y := by rw [hY]; exact (pk_but7 (ButG.refl _ _) _ _ _ _ _ _ _).drew
/-- A packet that is refused. -/
def RetTd (w : World) (A : Option Addr) (n c : Nat) (e : Ending) (w' : World) : Prop := e = .returned (.tuple #[.slice A n c, .agg pk0, .bool false, .int .i64 180]) ∧ Below w.heap.size w w'
set_option maxRecDepth 100000 in
theorem frgTake_drop (A : Option Addr) (n c : Nat) (l : List Fr) (id pl : Nat) (proto : Int) (src dst : Nat) (B : Option Addr) (m d : Nat) (xs : List UInt8) (now : Nat) (w : World) (hr : RdFr w A n c l) (hS : FrS l) (hb : RdB w B m d xs) (ho : OwOk (src, dst, id, proto)) (hnow : now ≤ 1000)
    (hc : ipCheck (pl : Int) proto m = true) (hw : ipWhole (true) (pl : Int) = false) (hm1 : 1 ≤ m) (hm2 : pl + m ≤ 128) (hm3 : m % 8 ≠ 0) :
    Calls Try.prog 29 #[.slice A n c, .agg #[.int .u16 (id : Int), .bool (true), .int .i64 (pl : Int), .int .i64 proto, .int .u32 (src : Int), .int .u32 (dst : Int), .slice B m d], .int .u64 (now : Int)] w (RetTd w A n c) := by
  obtain ⟨V, hV⟩ : ∃ V, V = (w.alloc (.cells #[.int .u16 (id : Int), .bool (true), .int .i64 (pl : Int), .int .i64 proto, .int .u32 (src : Int), .int .u32 (dst : Int), .slice B m d] 61)).alloc (.cells #[.int .u16 0, .bool false, .int .i64 0, .int .i64 0, .int .u32 0, .int .u32 0, .slice none 0 0] 61) := ⟨_, rfl⟩
  have bV : Below w.heap.size w V := by rw [hV]; exact ((below_self w).alloc (Nat.le_refl _) _).alloc (by simp) _
  have qV : PkAt V w.heap.size id (true) pl proto src dst B m d := by rw [hV]; exact frw_old _ (frw_at _ rfl)
  have rV : V.heap[w.heap.size + 1]? = some (.cells #[.int .u16 0, .bool false, .int .i64 0, .int .i64 0, .int .u32 0, .int .u32 0, .slice none 0 0] 61 (0, 0)) := by rw [hV]; exact frw_at _ (by simp)
  have zV : V.heap.size = w.heap.size + 2 := by rw [hV]; simp
  have HV := Lib.hid hV
  have HQ := Lib.hid qV
  have HRV := Lib.hid rV
  have ZV := Lib.hid zV
  have HR := Lib.hid hr
  have HBD := Lib.hid hb
  have hxl := hb.2.1
  have C1 := Lib.hid (frgCheck_yes A n c l V (hr.below bV) hS)
  have C2 := Lib.hid (fun W => ipCheck_any id (true) (pl : Int) proto src dst B m d W (by omega) (by omega) ho.2.2.2)
  rw [hc] at C2
  have C3 := Lib.hid (fun W => ipWhole_any id (true) (pl : Int) proto src dst B m d W)
  rw [hw] at C3
  have e0 : ((m : Int) == 0) = false := beq_eq_false_iff_ne.2 (by omega)
  have e1 : decide ((128 : Int) - (pl : Int) < (m : Int)) = false := decide_eq_false (by omega)
  have e4 : (((m : Int) % 8) != 0) = true := by simp; omega
  have b0 : (0 : Int) ≤ 128 - (pl : Int) := by omega
  have HXL := Lib.hid hxl
  have HLN := Lib.hid hr.2.1
  obtain ⟨c0, c1, c2, c3, c4, c5, c6⟩ := qV.cells
  clear hV qV rV zV hr hb hxl hS hc hw hm3
  go_enter Try.func29, Try.ntmps29
  go_wp2_with (rw [← HV.out])
  refine C1.out.mono ?_
  rintro e w1 ⟨rfl, hb1⟩
  have B1 := hb1
  clear c0 c1 c2 c3 c4 c5 c6
  obtain ⟨c0, c1, c2, c3, c4, c5, c6⟩ := (HQ.out.up B1).cells
  go_wp2_with fail
  refine (C2.out w1).mono ?_
  rintro e w2 ⟨rfl, hb2⟩
  have B2 := below_then B1 hb2
  clear c0 c1 c2 c3 c4 c5 c6
  obtain ⟨c0, c1, c2, c3, c4, c5, c6⟩ := (HQ.out.up B2).cells
  go_wp2_with fail
  refine (C3.out w2).mono ?_
  rintro e w3 ⟨rfl, hb3⟩
  have B3 := below_then B2 hb3
  clear c0 c1 c2 c3 c4 c5 c6
  obtain ⟨c0, c1, c2, c3, c4, c5, c6⟩ := (HQ.out.up B3).cells
  have R3 := Lib.hid (HR.out.below (bV.trans (B3.mono (by have := ZV.out; omega))))
  have R8 := Lib.hid (frw_up HRV.out B3)
  have zB := B3.size
  have zZ := ZV.out
  obtain ⟨⟨x0, x1, x2, x3, x4, x5, x6⟩, xf⟩ := pk_open R8.out
  clear zZ
  go_wp2_with fail
  refine bodyPost_ret (v := .tuple #[.slice A n c, .agg pk0, .bool false, .int .i64 180]) (fres4 Try.results29 _ _ _ _ _ _ _ rfl (pk_set7 R8.out _ _ _ _ _ _ _) Try.underlying61 rfl pk_info) rfl ⟨rfl, bV.trans ((B3.mono (by have := ZV.out; omega)).trans ((pk_but7 (ButG.refl (w.heap.size + 1) w3) _ _ _ _ _ _ _).below.mono (by omega)))⟩
/-- A packet that is whole. -/
def RetTw (w : World) (A : Option Addr) (n c id : Nat) (proto : Int) (src dst : Nat) (xs : List UInt8) (e : Ending) (w' : World) : Prop := ∃ B k d, e = .returned (.tuple #[.slice A n c, .agg #[.int .u16 (id : Int), .bool false, .int .i64 0, .int .i64 proto, .int .u32 (src : Int), .int .u32 (dst : Int), .slice B k d], .bool true, .int .i64 0]) ∧ OwnB w' w.heap.size B k d xs ∧ Below w.heap.size w w'
set_option maxRecDepth 100000 in
theorem frgTake_whole (A : Option Addr) (n c : Nat) (l : List Fr) (id : Nat) (proto : Int) (src dst : Nat) (B : Option Addr) (m d : Nat) (xs : List UInt8) (now : Nat) (w : World) (hr : RdFr w A n c l) (hS : FrS l) (hb : RdB w B m d xs) (ho : OwOk (src, dst, id, proto)) (hnow : now ≤ 1000) (hmm : m ≤ 200)
    (hc : ipCheck 0 proto m = true) (hw : ipWhole false 0 = true) :
    Calls Try.prog 29 #[.slice A n c, .agg #[.int .u16 (id : Int), .bool false, .int .i64 0, .int .i64 proto, .int .u32 (src : Int), .int .u32 (dst : Int), .slice B m d], .int .u64 (now : Int)] w (RetTw w A n c id proto src dst xs) := by
  obtain ⟨V, hV⟩ : ∃ V, V = (w.alloc (.cells #[.int .u16 (id : Int), .bool false, .int .i64 0, .int .i64 proto, .int .u32 (src : Int), .int .u32 (dst : Int), .slice B m d] 61)).alloc (.cells #[.int .u16 0, .bool false, .int .i64 0, .int .i64 0, .int .u32 0, .int .u32 0, .slice none 0 0] 61) := ⟨_, rfl⟩
  have bV : Below w.heap.size w V := by rw [hV]; exact ((below_self w).alloc (Nat.le_refl _) _).alloc (by simp) _
  have qV : PkAt V w.heap.size id false 0 proto src dst B m d := by rw [hV]; exact frw_old _ (frw_at _ rfl)
  have rV : V.heap[w.heap.size + 1]? = some (.cells #[.int .u16 0, .bool false, .int .i64 0, .int .i64 0, .int .u32 0, .int .u32 0, .slice none 0 0] 61 (0, 0)) := by rw [hV]; exact frw_at _ (by simp)
  have zV : V.heap.size = w.heap.size + 2 := by rw [hV]; simp
  have HV := Lib.hid hV
  have HQ := Lib.hid qV
  have HRV := Lib.hid rV
  have ZV := Lib.hid zV
  have HR := Lib.hid hr
  have HBD := Lib.hid hb
  have hxl := hb.2.1
  have C1 := Lib.hid (frgCheck_yes A n c l V (hr.below bV) hS)
  have C2 := Lib.hid (fun W => ipCheck_any id false 0 proto src dst B m d W (by omega) (by omega) ho.2.2.2)
  rw [hc] at C2
  have C3 := Lib.hid (fun W => ipWhole_any id false 0 proto src dst B m d W)
  rw [hw] at C3
  have HXL := Lib.hid hxl
  have HLN := Lib.hid hr.2.1
  obtain ⟨c0, c1, c2, c3, c4, c5, c6⟩ := qV.cells
  clear hV qV rV zV hr hb hxl hS hc hw
  go_enter Try.func29, Try.ntmps29
  go_wp2_with (rw [← HV.out])
  refine C1.out.mono ?_
  rintro e w1 ⟨rfl, hb1⟩
  have B1 := hb1
  clear c0 c1 c2 c3 c4 c5 c6
  obtain ⟨c0, c1, c2, c3, c4, c5, c6⟩ := (HQ.out.up B1).cells
  go_wp2_with fail
  refine (C2.out w1).mono ?_
  rintro e w2 ⟨rfl, hb2⟩
  have B2 := below_then B1 hb2
  clear c0 c1 c2 c3 c4 c5 c6
  obtain ⟨c0, c1, c2, c3, c4, c5, c6⟩ := (HQ.out.up B2).cells
  go_wp2_with fail
  refine (C3.out w2).mono ?_
  rintro e w3 ⟨rfl, hb3⟩
  have B3 := below_then B2 hb3
  clear c0 c1 c2 c3 c4 c5 c6
  obtain ⟨c0, c1, c2, c3, c4, c5, c6⟩ := (HQ.out.up B3).cells
  have R3 := Lib.hid (HR.out.below (bV.trans (B3.mono (by have := ZV.out; omega))))
  have zB := B3.size
  have zZ := ZV.out
  go_wp2_with fail
  refine (clone18_any B m d xs w3 (HBD.out.below (bV.trans (B3.mono (by omega)))) (by omega)).mono ?_
  rintro e w4 ⟨BC, nC, cC, rfl, oC, hb4⟩
  have z4 := hb4.size
  have B4 := below_then B3 hb4
  have R8 := Lib.hid (frw_up HRV.out B4)
  have Q8 := Lib.hid (HQ.out.up B4)
  have OC := Lib.hid oC
  clear c0 c1 c2 c3 c4 c5 c6 oC zZ
  obtain ⟨⟨x0, x1, x2, x3, x4, x5, x6⟩, xf⟩ := pk_open R8.out
  obtain ⟨⟨c0, c1, c2, c3, c4, c5, c6⟩, cf⟩ := pk_open Q8.out
  go_wp2_with fail
  obtain ⟨w5, hw5⟩ : ∃ W, W = w4.setCell ⟨w.heap.size, 6, none⟩ (.slice BC nC cC) := ⟨_, rfl⟩
  have b5 : ButG w.heap.size w4 w5 := by rw [hw5]; exact (ButG.refl _ _).set 6 _
  have Q9 : w5.heap[w.heap.size]? = some (.cells #[.int .u16 (id : Int), .bool false, .int .i64 0, .int .i64 proto, .int .u32 (src : Int), .int .u32 (dst : Int), .slice BC nC cC] 61 (0, 0)) := by rw [hw5]; exact setc_rowT Q8.out
  have R9 := b5.row (by omega) R8.out
  have O9 := OC.out.butT b5 Q8.out (by decide)
  rw [← hw5]
  have Q10 := Lib.hid Q9
  have R10 := Lib.hid R9
  have O10 := Lib.hid O9
  clear hw5 c0 c1 c2 c3 c4 c5 c6 cf x0 x1 x2 x3 x4 x5 x6 xf Q9 R9 O9
  obtain ⟨⟨x0, x1, x2, x3, x4, x5, x6⟩, xf⟩ := pk_open R10.out
  refine wp_region_seg (S := fun w' => w'.heap[w.heap.size]? = w5.heap[w.heap.size]?) 0 #[true, true, true, true, true, true] [(0, true), (1, true), (2, true), (3, false), (4, true), (5, true)] (by kernel_rfl) (by kernel_rfl) (fun _ _ d _ _ h => by first | (cases d <;> exact h) | cases h.1) ((Eq.refl (w5.heap[w.heap.size]?))) ?_
  have HB := (Eq.refl (w5.heap[w.heap.size]?))
  iterate 3 (refine seg_take (v := ?_) rfl (Or.inl ⟨by rfl, ?_⟩) ?_; rotate_left; (focus (intro w' hw'; obtain ⟨⟨j0, j1, j2, j3, j4, j5, j6⟩, jf⟩ := pk_open (hw'.trans Q10.out); go_simp <;> with_reducible rfl)); try simp only [Act.put, List.setIfInBounds_toArray, List.set_cons_zero, List.set_cons_succ])
  refine seg_run rfl (fun K hK => ?_)
  go_simp
  refine named_k ?_
  intro Z hZ
  have hbZ := pk_but7d hZ
  have HRZ := Lib.hid (pk_row7d R10.out hZ)
  have HB := (hbZ.other w.heap.size (by omega) (frw_lt Q10.out)).trans HB
  clear hZ
  refine hK.out _ _ (HB) ?_
  clear hK
  try simp only [Act.put, List.setIfInBounds_toArray, List.set_cons_zero, List.set_cons_succ]
  iterate 2 (refine seg_take (v := ?_) rfl (Or.inl ⟨by rfl, ?_⟩) ?_; rotate_left; (focus (intro w' hw'; obtain ⟨⟨j0, j1, j2, j3, j4, j5, j6⟩, jf⟩ := pk_open (hw'.trans Q10.out); go_simp <;> with_reducible rfl)); try simp only [Act.put, List.setIfInBounds_toArray, List.set_cons_zero, List.set_cons_succ])
  refine seg_done (fun _ => ?_)
  refine wpAnyH_done (by kernel_rfl) ?_ _
  clear x0 x1 x2 x3 x4 x5 x6 xf
  go_wp2_with fail
  refine bodyPost_ret (v := .tuple #[.slice A n c, .agg #[.int .u16 (id : Int), .bool false, .int .i64 0, .int .i64 proto, .int .u32 (src : Int), .int .u32 (dst : Int), .slice BC nC cC], .bool true, .int .i64 0]) (fres4 Try.results29 _ _ _ _ _ _ _ rfl HRZ.out Try.underlying61 rfl pk_info) rfl ⟨_, _, _, rfl, ?_, ?_⟩
  · exact (O10.out.butT hbZ R10.out (by decide)).mono (by have := ZV.out; omega)
  · exact bV.trans ((B4.mono (by have := ZV.out; omega)).trans ((b5.below).trans (hbZ.below.mono (by omega))))
end Go.Proofs.Yteajboafcjeagaa
