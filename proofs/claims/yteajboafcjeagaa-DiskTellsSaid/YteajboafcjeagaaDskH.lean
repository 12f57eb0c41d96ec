/-
  Layer 5: disks: Tamper.
-/
import Derived.Test.YteajboafcjeagaaDskG
namespace Go.Proofs.Yteajboafcjeagaa
set_option maxRecDepth 20000
open Go.RowKit
set_option linter.unusedVariables false
set_option linter.unusedSimpArgs false
set_option maxHeartbeats 4000000

theorem own_rowOf {w : World} {base g n c size : Nat} {e : TypeId} {xs : List Value} (h : w.ownsRow base e size (.slice (some ⟨g, 0, none⟩) n c) n xs) : ∃ cur, w.heap[g]? = some (.cells cur e (0, 0)) := by
  rcases h.2 with ⟨h1, _⟩ | ⟨g', cap, cur, hv, _, hg, _⟩
  · cases h1
  · injection hv with hv; injection hv with hv; injection hv with hv; subst hv; exact ⟨cur, hg⟩
theorem du8_xor (u v : UInt8) : bits .xor .u8 (u.toNat : Int) (v.toNat : Int) = (((u ^^^ v).toNat : Nat) : Int) := by
  rw [u8_xor_nat _ _ u.toNat_lt v.toNat_lt, UInt8.toNat_xor]
theorem dskTamper_no (S : Option Addr) (sn sc : Nat) (Kd : Option Addr) (kn kc : Nat) (D : Dk) (a p : Int) (u : UInt8) (w : World) (hr : RdDk w S sn sc Kd kn kc D) (ha : -9223372036854775808 ≤ a ∧ a ≤ 9223372036854775807) (hp : -9223372036854775808 ≤ p ∧ p ≤ 9223372036854775807) (h : dkAsk D a ≠ 0) :
    Calls Try.prog 22 #[.agg #[.slice S sn sc, .slice Kd kn kc], .int .i64 a, .int .i64 p, .int .u8 (u.toNat : Int)] w (RetDk w D (dkAsk D a)) := by
  obtain ⟨V, hV⟩ : ∃ V, V = (w.alloc (.cells #[.slice S sn sc, .slice Kd kn kc] 25)).alloc (.cells #[.slice none 0 0, .slice none 0 0] 25) := ⟨_, rfl⟩
  have bV : Below w.heap.size w V := by rw [hV]; exact ((below_self w).alloc (Nat.le_refl _) _).alloc (by simp) _
  have qV : Hid (DkAt V w.heap.size S sn sc Kd kn kc) := by rw [hV]; exact Lib.hid (drw_old _ (drw_at _ rfl))
  have rV : Hid (DkAt V (w.heap.size + 1) none 0 0 none 0 0) := by rw [hV]; exact Lib.hid (drw_at _ (by simp))
  have HV := Lib.hid hV
  have hsl := hr.sl
  obtain ⟨E, hE⟩ : ∃ E, dkAsk D a = E := ⟨_, rfl⟩
  have H1 := Lib.hid (dskAsked_any S sn sc Kd kn kc D a V (hr.below bV) ha)
  rw [hE] at H1
  have n1 : (E != 0) = true := bne_iff_ne.2 (by rw [← hE]; exact h)
  rw [hE]
  clear hV h hE
  · skip
    go_enter Try.func22, Try.ntmps22
    go_wp2_with fail
    rw [← HV.out]
    refine H1.out.mono ?_
    rintro e w2 ⟨rfl, hb2⟩
    have q2 := qV.out.up hb2
    have r2 := rV.out.up hb2
    have x0 := q2.c0
    have x1 := q2.c1
    have y0 := r2.c0
    have y1 := r2.c1
    have f0 := r2.fr 0
    have f1 := r2.fr 1
    have QS := Lib.hid (r2.s01 S sn sc Kd kn kc)
    have B2 := below_then bV hb2
    clear q2 r2
    go_wp2_with fail
    refine bodyPost_ret (dresults_cell_tmp Try.results22 _ _ (w.heap.size + 1) 25 _ (0, 0) _ rfl QS.out Try.underlying25 rfl (dkInfo ..)) rfl ?_
    exact ⟨S, sn, sc, Kd, kn, kc, rfl, hr.far2 B2 (by omega) _ _, below2 B2 (by omega) _ _⟩
theorem dskTamper_low (S : Option Addr) (sn sc : Nat) (Kd : Option Addr) (kn kc : Nat) (D : Dk) (a p : Int) (u : UInt8) (w : World) (hr : RdDk w S sn sc Kd kn kc D) (ha : -9223372036854775808 ≤ a ∧ a ≤ 9223372036854775807) (hp : -9223372036854775808 ≤ p ∧ p ≤ 9223372036854775807) (h : dkAsk D a = 0) (hl : p < 0) :
    Calls Try.prog 22 #[.agg #[.slice S sn sc, .slice Kd kn kc], .int .i64 a, .int .i64 p, .int .u8 (u.toNat : Int)] w (RetDk w D 2) := by
  obtain ⟨V, hV⟩ : ∃ V, V = (w.alloc (.cells #[.slice S sn sc, .slice Kd kn kc] 25)).alloc (.cells #[.slice none 0 0, .slice none 0 0] 25) := ⟨_, rfl⟩
  have bV : Below w.heap.size w V := by rw [hV]; exact ((below_self w).alloc (Nat.le_refl _) _).alloc (by simp) _
  have qV : Hid (DkAt V w.heap.size S sn sc Kd kn kc) := by rw [hV]; exact Lib.hid (drw_old _ (drw_at _ rfl))
  have rV : Hid (DkAt V (w.heap.size + 1) none 0 0 none 0 0) := by rw [hV]; exact Lib.hid (drw_at _ (by simp))
  have HV := Lib.hid hV
  have hsl := hr.sl
  obtain ⟨E, hE⟩ : ∃ E, dkAsk D a = E := ⟨_, rfl⟩
  have H1 := Lib.hid (dskAsked_any S sn sc Kd kn kc D a V (hr.below bV) ha)
  rw [hE] at H1
  obtain rfl : E = 0 := by rw [← hE, h]
  have d1 : decide (p < 0) = true := decide_eq_true hl
  clear hV h hE
  · skip
    go_enter Try.func22, Try.ntmps22
    go_wp2_with fail
    rw [← HV.out]
    refine H1.out.mono ?_
    rintro e w2 ⟨rfl, hb2⟩
    have q2 := qV.out.up hb2
    have r2 := rV.out.up hb2
    have x0 := q2.c0
    have x1 := q2.c1
    have y0 := r2.c0
    have y1 := r2.c1
    have f0 := r2.fr 0
    have f1 := r2.fr 1
    have QS := Lib.hid (r2.s01 S sn sc Kd kn kc)
    have B2 := below_then bV hb2
    clear q2 r2
    go_wp2_with fail
    refine bodyPost_ret (dresults_cell_tmp Try.results22 _ _ (w.heap.size + 1) 25 _ (0, 0) _ rfl QS.out Try.underlying25 rfl (dkInfo ..)) rfl ?_
    exact ⟨S, sn, sc, Kd, kn, kc, rfl, hr.far2 B2 (by omega) _ _, below2 B2 (by omega) _ _⟩
theorem dskTamper_high (S : Option Addr) (sn sc : Nat) (Kd : Option Addr) (kn kc : Nat) (D : Dk) (a p : Int) (u : UInt8) (w : World) (hr : RdDk w S sn sc Kd kn kc D) (ha : -9223372036854775808 ≤ a ∧ a ≤ 9223372036854775807) (hp : -9223372036854775808 ≤ p ∧ p ≤ 9223372036854775807) (h : dkAsk D a = 0) (hl : 256 ≤ p) :
    Calls Try.prog 22 #[.agg #[.slice S sn sc, .slice Kd kn kc], .int .i64 a, .int .i64 p, .int .u8 (u.toNat : Int)] w (RetDk w D 2) := by
  obtain ⟨V, hV⟩ : ∃ V, V = (w.alloc (.cells #[.slice S sn sc, .slice Kd kn kc] 25)).alloc (.cells #[.slice none 0 0, .slice none 0 0] 25) := ⟨_, rfl⟩
  have bV : Below w.heap.size w V := by rw [hV]; exact ((below_self w).alloc (Nat.le_refl _) _).alloc (by simp) _
  have qV : Hid (DkAt V w.heap.size S sn sc Kd kn kc) := by rw [hV]; exact Lib.hid (drw_old _ (drw_at _ rfl))
  have rV : Hid (DkAt V (w.heap.size + 1) none 0 0 none 0 0) := by rw [hV]; exact Lib.hid (drw_at _ (by simp))
  have HV := Lib.hid hV
  have hsl := hr.sl
  obtain ⟨E, hE⟩ : ∃ E, dkAsk D a = E := ⟨_, rfl⟩
  have H1 := Lib.hid (dskAsked_any S sn sc Kd kn kc D a V (hr.below bV) ha)
  rw [hE] at H1
  obtain rfl : E = 0 := by rw [← hE, h]
  have d1 : decide (p < 0) = false := decide_eq_false (by omega)
  have d2 : decide (256 ≤ p) = true := decide_eq_true hl
  clear hV h hE
  · skip
    go_enter Try.func22, Try.ntmps22
    go_wp2_with fail
    rw [← HV.out]
    refine H1.out.mono ?_
    rintro e w2 ⟨rfl, hb2⟩
    have q2 := qV.out.up hb2
    have r2 := rV.out.up hb2
    have x0 := q2.c0
    have x1 := q2.c1
    have y0 := r2.c0
    have y1 := r2.c1
    have f0 := r2.fr 0
    have f1 := r2.fr 1
    have QS := Lib.hid (r2.s01 S sn sc Kd kn kc)
    have B2 := below_then bV hb2
    clear q2 r2
    go_wp2_with fail
    refine bodyPost_ret (dresults_cell_tmp Try.results22 _ _ (w.heap.size + 1) 25 _ (0, 0) _ rfl QS.out Try.underlying25 rfl (dkInfo ..)) rfl ?_
    exact ⟨S, sn, sc, Kd, kn, kc, rfl, hr.far2 B2 (by omega) _ _, below2 B2 (by omega) _ _⟩
theorem dskTamper_ok (S : Option Addr) (sn sc : Nat) (Kd : Option Addr) (kn kc : Nat) (D : Dk) (a p : Int) (u : UInt8) (w : World) (hr : RdDk w S sn sc Kd kn kc D) (ha : -9223372036854775808 ≤ a ∧ a ≤ 9223372036854775807) (hp : -9223372036854775808 ≤ p ∧ p ≤ 9223372036854775807) (h : dkAsk D a = 0) (hl0 : 0 ≤ p) (hl : p < 256) :
    Calls Try.prog 22 #[.agg #[.slice S sn sc, .slice Kd kn kc], .int .i64 a, .int .i64 p, .int .u8 (u.toNat : Int)] w (RetDk w ⟨D.s.set a.toNat (dkTampered (D.s.getD a.toNat []) p.toNat u), D.k⟩ 0) := by
  obtain ⟨V, hV⟩ : ∃ V, V = (w.alloc (.cells #[.slice S sn sc, .slice Kd kn kc] 25)).alloc (.cells #[.slice none 0 0, .slice none 0 0] 25) := ⟨_, rfl⟩
  have bV : Below w.heap.size w V := by rw [hV]; exact ((below_self w).alloc (Nat.le_refl _) _).alloc (by simp) _
  have qV : Hid (DkAt V w.heap.size S sn sc Kd kn kc) := by rw [hV]; exact Lib.hid (drw_old _ (drw_at _ rfl))
  have rV : Hid (DkAt V (w.heap.size + 1) none 0 0 none 0 0) := by rw [hV]; exact Lib.hid (drw_at _ (by simp))
  have HV := Lib.hid hV
  have hsl := hr.sl
  obtain ⟨E, hE⟩ : ∃ E, dkAsk D a = E := ⟨_, rfl⟩
  have H1 := Lib.hid (dskAsked_any S sn sc Kd kn kc D a V (hr.below bV) ha)
  rw [hE] at H1
  obtain rfl : E = 0 := by rw [← hE, h]
  have hok : dkOk D = true := by
    unfold dkAsk at h
    cases hx : dkOk D with
    | true => rfl
    | false => rw [if_pos hx] at h; cases h
  have hhas : dkHas D a = true := by
    unfold dkAsk at h
    rw [if_neg (by simp [hok])] at h
    cases hx : dkHas D a with
    | true => rfl
    | false => rw [if_pos hx] at h; cases h
  unfold dkHas at hhas
  rw [Bool.and_eq_true, decide_eq_true_eq, decide_eq_true_eq] at hhas
  obtain ⟨i, rfl⟩ : ∃ i : Nat, a = (i : Int) := ⟨a.toNat, by omega⟩
  obtain ⟨q, rfl⟩ : ∃ q : Nat, p = (q : Int) := ⟨p.toNat, by omega⟩
  rw [Int.toNat_natCast, Int.toNat_natCast]
  have hi : i < sn := by omega
  have hsn : sn ≤ 256 := by rw [← hsl]; exact ((dkOk_iff D).1 hok).1
  have hq : q < 256 := by omega
  have hl9 := dkOk_slen hok i (by omega)
  have d1 : decide ((q : Int) < 0) = false := decide_eq_false (by omega)
  have d2 : decide (256 ≤ (q : Int)) = false := decide_eq_false (by omega)
  have l1 : (i : Int) < (sn : Int) := by omega
  have l2 : (q : Int) < 256 := by omega
  obtain ⟨⟨vs, hs⟩, us, hus⟩ := id hr
  have hvy := hs.2.2.2.2.length
  obtain ⟨B, m, d, hvi, hy⟩ := hs.2.2.2.2.at_ i (by rw [hs.2.1]; exact hi) (by rw [← hvy, hs.2.1]; exact hi)
  have hvi2 : vs[i]? = some (.slice B m d) := by rw [List.getElem?_eq_getElem (by rw [hs.2.1]; exact hi), hvi]
  obtain ⟨Y, hY⟩ : ∃ Y, D.s.getD i [] = Y := ⟨_, rfl⟩
  have hYi : D.s[i]'(by omega) = Y := by rw [← hY]; simp [List.getD, show i < D.s.length by omega]
  rw [hYi] at hy
  rw [hY] at hl9 ⊢
  have hm : m = 256 := by rw [← hy.2.1]; exact hl9
  subst hm
  have HS := Lib.hid hs
  have HUS := Lib.hid hus
  have HVI := Lib.hid hvi2
  have HYY := Lib.hid hy
  have HHL := Lib.hid hl9
  have HSL := Lib.hid hsl
  clear hV h hE hvi hvi2 hYi hY hhas hok hs hus hvy hy hl9 hl hl0 hsl
  · skip
    go_enter Try.func22, Try.ntmps22
    go_wp2_with fail
    rw [← HV.out]
    refine H1.out.mono ?_
    rintro e w2 ⟨rfl, hb2⟩
    have q2 := qV.out.up hb2
    have r2 := rV.out.up hb2
    have x0 := q2.c0
    have x1 := q2.c1
    have y0 := r2.c0
    have y1 := r2.c1
    have f0 := r2.fr 0
    have f1 := r2.fr 1
    have QS := Lib.hid (r2.s01 S sn sc Kd kn kc)
    have B2 := below_then bV hb2
    have Q2 := Lib.hid q2
    have R2 := Lib.hid r2
    clear q2 r2 y0 y1 f0 f1 QS
    go_wp2_with fail
    refine (cloneSS_any S sn sc vs D.s w2 (HS.out.below B2) (by omega)).mono ?_
    rintro e w3 ⟨S3, c3, rfl, ho3, hb3⟩
    obtain ⟨g, cap, hv3, hbg, hlg⟩ := World.ownsRow.form ho3 (by omega)
    injection hv3 with hv3 _ hv4
    subst hv3 hv4
    have q3 := Q2.out.up hb3
    have R3 := Lib.hid (R2.out.up hb3)
    have x0 := q3.c0
    have x1 := q3.c1
    have g0 := q3.fr 0
    obtain ⟨W4, hW4⟩ : ∃ W, W = w3.setCell ⟨w.heap.size, 0, none⟩ (.slice (some ⟨g, 0, none⟩) sn c3) := ⟨_, rfl⟩
    have q4 : DkAt W4 w.heap.size (some ⟨g, 0, none⟩) sn c3 Kd kn kc := by rw [hW4]; exact q3.s0 _ _ _
    have r4 : DkAt W4 (w.heap.size + 1) none 0 0 none 0 0 := by rw [hW4]; exact (heap_setCell_other _ _ _ _ (by show w.heap.size + 1 ≠ w.heap.size; omega)).trans R3.out
    have o4 : W4.ownsRow w2.heap.size 35 1 (.slice (some ⟨g, 0, none⟩) sn c3) sn vs := by rw [hW4]; exact own_far ho3 q3 (by decide) 0 _
    have B4 : Below w.heap.size w W4 := by rw [hW4]; exact (below_then B2 hb3).setCell (p := ⟨w.heap.size, 0, none⟩) (Nat.le_refl _) _
    have HW4 := Lib.hid hW4
    have Q4 := Lib.hid q4
    have R4 := Lib.hid r4
    have O4 := Lib.hid o4
    have HBG := Lib.hid hbg
    have hz2 := B2.size
    have HZ2 := Lib.hid (show w.heap.size + 1 < w2.heap.size from R2.out.lt)
    clear hW4 q4 r4 o4 ho3 q3 R3 hlg hb3 hbg
    go_wp2_with fail
    rw [← HW4.out]
    clear x0 x1 g0
    have c0 := Q4.out.c0
    have lq := Q4.out.lt
    have ci := (World.ownsRow.cellAt O4.out i (by omega)).trans HVI.out
    have lg : g < W4.heap.size := World.block_lt_of_cell? W4 _ ci
    refine wp_region_last (S := fun w' => Below W4.heap.size W4 w') 10 #[true, true, true, true, true, true, true, true, true, true, false] [(0, true), (1, true), (2, true), (3, true), (4, true), (5, true), (6, true), (7, true), (8, false), (9, true)] (by kernel_rfl) (by kernel_rfl) (fun _ _ d _ _ h => by cases d <;> exact h) ((Below.refl _ W4).drew) ?_
    iterate 8 (refine seg_take (v := ?_) rfl (Or.inl ⟨by rfl, ?_⟩) ?_; rotate_left; (focus (intro w' hw'; have j0 := (hw'.cell (p := ⟨w.heap.size, 0, none⟩) lq).trans c0; have j1 := (hw'.cell (p := ⟨g, i, none⟩) lg).trans ci; go_simp <;> with_reducible rfl)); try simp only [Act.put, List.setIfInBounds_toArray, List.set_cons_zero, List.set_cons_succ])
    refine seg_run rfl (fun K hK => ?_)
    go_simp
    have HX := (Below.refl W4.heap.size W4).drew
    refine (clone_any B 256 d Y _ ((HYY.out.below B4).below HX) (by omega)).mono ?_
    rintro e_ w5 ⟨A5, n5, c5, rfl, ho5, hb5⟩
    refine hK.out _ _ ((below_then HX hb5)) ?_
    clear hK
    try simp only [Act.put, List.setIfInBounds_toArray, List.set_cons_zero, List.set_cons_succ]
    iterate 1 (refine seg_take (v := ?_) rfl (Or.inl ⟨by rfl, ?_⟩) ?_; rotate_left; (focus (intro w' hw'; have j0 := (hw'.cell (p := ⟨w.heap.size, 0, none⟩) lq).trans c0; have j1 := (hw'.cell (p := ⟨g, i, none⟩) lg).trans ci; go_simp <;> with_reducible rfl)); try simp only [Act.put, List.setIfInBounds_toArray, List.set_cons_zero, List.set_cons_succ])
    refine seg_done ?_
    refine last_run rfl (fun K hK => ?_)
    go_simp
    have O5 := down_keep O4.out (below_then HX hb5)
    have ci5 := (World.ownsRow.cellAt O5 i (by omega)).trans HVI.out
    have fi5 := World.ownsRow.frozenAt O5 i
    go_simp
    refine hK.out _ _ ?_
    clear hK
    try simp only [Act.put, List.setIfInBounds_toArray, List.set_cons_zero, List.set_cons_succ]
    have hb5 := below_then HX hb5
    obtain rfl : n5 = 256 := by rw [← ho5.len, HHL.out]
    obtain ⟨g5, e5, h51, h52⟩ := ho5.addr (by omega)
    subst e5
    have O5 := down_keep O4.out hb5
    obtain ⟨cur5, hc5⟩ := own_rowOf O5
    have gq := HBG.out
    have gz := HZ2.out
    have g5q : w.heap.size + 1 < g5 := by have := R4.out.lt; have : W4.drew.heap.size = W4.heap.size := rfl; omega
    have gg5 : g ≠ g5 := by obtain ⟨cr, hcr⟩ := own_rowOf ho5; exact dtyp_ne hc5 hcr (by decide)
    obtain ⟨W6, hW6⟩ : ∃ W, W = w5.setCell ⟨g, i, none⟩ (.slice (some ⟨g5, 0, none⟩) 256 c5) := ⟨_, rfl⟩
    have o6 : W6.ownsRow w2.heap.size 35 1 (.slice (some ⟨g, 0, none⟩) sn c3) sn (vs.set i (.slice (some ⟨g5, 0, none⟩) 256 c5)) := by rw [hW6]; exact (World.ownsRow.stored O5 i _).1
    have d6 : OwnB W6 W4.heap.size (some ⟨g5, 0, none⟩) 256 c5 Y := by rw [hW6]; exact own_far ho5 hc5 (by decide) i _
    have q6 : DkAt W6 w.heap.size (some ⟨g, 0, none⟩) sn c3 Kd kn kc := by rw [hW6]; exact (heap_setCell_other _ _ _ _ (by show w.heap.size ≠ g; omega)).trans (Q4.out.up hb5)
    have r6 : DkAt W6 (w.heap.size + 1) none 0 0 none 0 0 := by rw [hW6]; exact (heap_setCell_other _ _ _ _ (by show w.heap.size + 1 ≠ g; omega)).trans (R4.out.up hb5)
    have B6 : Below w.heap.size w W6 := by rw [hW6]; exact (below_then B4 hb5).setCell (p := ⟨g, i, none⟩) (by show w.heap.size ≤ g; omega) _
    have HW6 := Lib.hid hW6
    have Q6 := Lib.hid q6
    have R6 := Lib.hid r6
    have O6 := Lib.hid o6
    have D6 := Lib.hid d6
    have HO5 := Lib.hid O5
    clear hW6 q6 r6 o6 d6 O5 hc5 ho5 c0 ci
    rw [← HW6.out]
    have c0 := Q6.out.c0
    have c1 := Q6.out.c1
    have ci := (World.ownsRow.cellAt O6.out i (by omega)).trans (List.getElem?_set_self (by rw [HS.out.2.1]; exact hi))
    obtain ⟨u9, hu9, hc9⟩ := D6.out.cell_ q hq
    have hf9 := D6.out.free q
    have ex := du8_xor u9 u
    have D7 := Lib.hid (D6.out.set_ q (u9 ^^^ u))
    have HU9 := Lib.hid hu9
    have n1 : ¬ (g5 = w.heap.size) := by omega
    have n2 : ¬ (w.heap.size = g5) := by omega
    have n3 : ¬ (g5 = w.heap.size + 1) := by omega
    have n4 : ¬ (w.heap.size + 1 = g5) := by omega
    have y0 := R6.out.c0
    have y1 := R6.out.c1
    have f0 := R6.out.fr 0
    have f1 := R6.out.fr 1
    obtain ⟨bv, hbv⟩ : ∃ bv : Int, bv = (((u9 ^^^ u).toNat : Nat) : Int) := ⟨_, rfl⟩
    rw [← hbv] at ex D7
    have x0 : (W6.setCell ⟨g5, q, none⟩ (.int .u8 bv)).cell? ⟨w.heap.size, 0, none⟩ = some (.slice (some ⟨g, 0, none⟩) sn c3) := (World.cell?_of_block (heap_setCell_other _ _ _ _ n2)).trans c0
    have x1 : (W6.setCell ⟨g5, q, none⟩ (.int .u8 bv)).cell? ⟨w.heap.size, 1, none⟩ = some (.slice Kd kn kc) := (World.cell?_of_block (heap_setCell_other _ _ _ _ n2)).trans c1
    clear hu9 hbv
    go_wp2_with fail
    have r7 : DkAt (W6.setCell ⟨g5, q, none⟩ (.int .u8 bv)) (w.heap.size + 1) none 0 0 none 0 0 := (heap_setCell_other _ _ _ _ n4).trans R6.out
    have QS := Lib.hid (r7.s01 (some ⟨g, 0, none⟩) sn c3 Kd kn kc)
    have BF := below2 (B6.setCell (p := ⟨g5, q, none⟩) (by show w.heap.size ≤ g5; omega) (.int .u8 bv)) (q := w.heap.size + 1) (by omega) (.slice (some ⟨g, 0, none⟩) sn c3) (.slice Kd kn kc)
    obtain ⟨cur6, hc6⟩ := own_rowOf D6.out
    have oF := own_far (own_far (own_far O6.out hc6 (by decide) q (.int .u8 bv)) r7 (by decide) 0 (.slice (some ⟨g, 0, none⟩) sn c3)) (r7.s0 (some ⟨g, 0, none⟩) sn c3) (by decide) 1 (.slice Kd kn kc)
    have dF : OwnB _ _ (some ⟨g5, 0, none⟩) 256 c5 (Y.set q (u9 ^^^ u)) := own_far (own_far D7.out r7 (by decide) 0 (.slice (some ⟨g, 0, none⟩) sn c3)) (r7.s0 (some ⟨g, 0, none⟩) sn c3) (by decide) 1 (.slice Kd kn kc)
    refine bodyPost_ret (dresults_cell_tmp Try.results22 _ _ (w.heap.size + 1) 25 _ (0, 0) _ rfl QS.out Try.underlying25 rfl (dkInfo ..)) rfl ?_
    obtain ⟨A9, c9, hv9, e3, e4, _⟩ := own_form oF
    injection hv9 with _ _ hv9
    subst hv9
    refine ⟨some ⟨g, 0, none⟩, sn, c3, Kd, kn, kc, rfl, ⟨⟨_, Rd.of_own oF, by rw [List.length_set]; exact HS.out.2.1, e3, e4, parts_get (by rw [List.length_set, List.length_set]; exact HS.out.2.2.2.2.length) (fun k hk => ?_)⟩, us, HUS.out.below BF⟩, BF⟩
    rw [List.length_set] at hk
    by_cases hki : k = i
    · subst hki
      refine ⟨_, _, _, List.getElem?_set_self hk, ?_⟩
      have e : (D.s.set k (dkTampered Y q u)).getD k [] = Y.set q (u9 ^^^ u) := by
        rw [List.getD, List.getElem?_set_self (by rw [← HS.out.2.2.2.2.length]; exact hk)]
        unfold dkTampered
        rw [List.getD, HU9.out]; rfl
      rw [e]; exact dF.rd
    · obtain ⟨A8, m8, c8, e8, r8⟩ := HS.out.2.2.2.2.at_ k hk (by rw [← HS.out.2.2.2.2.length]; exact hk)
      refine ⟨A8, m8, c8, by rw [List.getElem?_set_ne (by omega), List.getElem?_eq_getElem hk, e8], ?_⟩
      rw [List.getD, List.getElem?_set_ne (by omega), List.getElem?_eq_getElem (by rw [← HS.out.2.2.2.2.length]; exact hk)]
      exact r8.below BF
theorem dskTamper_any (S : Option Addr) (sn sc : Nat) (Kd : Option Addr) (kn kc : Nat) (D : Dk) (a p : Int) (u : UInt8) (w : World) (hr : RdDk w S sn sc Kd kn kc D) (ha : -9223372036854775808 ≤ a ∧ a ≤ 9223372036854775807) (hp : -9223372036854775808 ≤ p ∧ p ≤ 9223372036854775807) :
    Calls Try.prog 22 #[.agg #[.slice S sn sc, .slice Kd kn kc], .int .i64 a, .int .i64 p, .int .u8 (u.toNat : Int)] w (RetDk w (dkTamper D a p u) (dkTamperE D a p)) := by
  by_cases h : dkAsk D a = 0
  · by_cases h1 : p < 0
    · have e : dkTamperE D a p = 2 := by unfold dkTamperE; rw [if_neg (by simp [h]), if_pos (.inl h1)]
      rw [e, show dkTamper D a p u = D by unfold dkTamper; rw [if_neg (by rw [e]; decide)]]
      exact dskTamper_low S sn sc Kd kn kc D a p u w hr ha hp h h1
    · by_cases h2 : 256 ≤ p
      · have e : dkTamperE D a p = 2 := by unfold dkTamperE; rw [if_neg (by simp [h]), if_pos (.inr h2)]
        rw [e, show dkTamper D a p u = D by unfold dkTamper; rw [if_neg (by rw [e]; decide)]]
        exact dskTamper_high S sn sc Kd kn kc D a p u w hr ha hp h h2
      · have e : dkTamperE D a p = 0 := by unfold dkTamperE; rw [if_neg (by simp [h]), if_neg (by omega)]
        rw [e, show dkTamper D a p u = ⟨D.s.set a.toNat (dkTampered (D.s.getD a.toNat []) p.toNat u), D.k⟩ by unfold dkTamper; rw [if_pos e]]
        exact dskTamper_ok S sn sc Kd kn kc D a p u w hr ha hp h (by omega) (by omega)
  · have e : dkTamperE D a p = dkAsk D a := by unfold dkTamperE; rw [if_pos h]
    rw [e, show dkTamper D a p u = D by unfold dkTamper; rw [if_neg (by rw [e]; exact h)]]
    exact dskTamper_no S sn sc Kd kn kc D a p u w hr ha hp h
end Go.Proofs.Yteajboafcjeagaa
