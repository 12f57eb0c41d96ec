/-
  Layer 21: frag: Take of a piece that is added.
-/
import Derived.Test.YteajboafcjeagaaFrgJ
import Derived.Test.YteajboafcjeagaaClone
namespace Go.Proofs.Yteajboafcjeagaa
set_option maxRecDepth 20000
open Go.RowKit
set_option linter.unusedVariables false
set_option linter.unusedSimpArgs false
set_option maxHeartbeats 8000000

theorem frw_drew {w : World} {g : Nat} {o : Obj} (h : w.heap[g]? = some o) : w.drew.heap[g]? = some o := h
theorem pk_born {w W : World} {cs : Array Value} {T : TypeId} (h : W = w.alloc (.cells cs T)) : W.heap[w.heap.size]? = some (.cells cs T (0, 0)) := by rw [h]; exact frw_at _ rfl
theorem pk_belw {w W : World} {o : Obj} (h : W = w.alloc o) : Below w.heap.size w W := by rw [h]; exact (below_self w).alloc (Nat.le_refl _) _
theorem dv_rd {w : World} {b o : Nat} {x : Fr} (h : FrIn w b o x) (hok : x.ok) (L : Nat) (hL : L ≤ 128) : RdB w (some ⟨b, o + 4, none⟩) L 128 (x.D.take L) := by
  refine ⟨.inr ⟨b, o + 4, rfl, h.1, fun i v hv => ?_⟩, by rw [List.length_take, hok.D]; omega, hL, by simp [maxLen]⟩
  have hi : i < L := by have := (List.getElem?_eq_some_iff.1 hv).1; simp at this; omega
  have h1 := h.2 (4 + i) v (by
    rw [frV_D hok i (by omega), ← hv]
    have : i < x.D.length := by rw [hok.D]; omega
    simp [List.getElem?_take, hi, List.getD, this, vB])
  rw [← h1, Nat.add_assoc]
theorem OwnB.butT {w w' : World} {h base : Nat} {A : Option Addr} {n c : Nat} {xs : List UInt8} (o : OwnB w base A n c xs) (k : ButG h w w') {cs : Array Value} {T : TypeId} {fr : Nat × Nat} (q : w.heap[h]? = some (.cells cs T fr)) (hT : T ≠ 5) : OwnB w' base A n c xs := by
  refine ⟨o.1, ?_⟩
  rcases o.2 with h1 | ⟨g, cap, cur, hv, hbb, hg, r⟩
  · exact .inl h1
  · refine .inr ⟨g, cap, cur, hv, hbb, (k.other g (fun e => ?_) (frw_lt hg)).trans hg, r⟩
    subst e
    rw [hg] at q
    injection q with q; injection q with _ q _
    exact hT q.symm
theorem pk_row7e {w Y : World} {g : Nat} {x0 x1 x2 x3 x4 x5 x6 v0 v1 v2 v3 v4 v5 v6 : Value} {T : TypeId} (hrow : w.heap[g]? = some (.cells #[x0, x1, x2, x3, x4, x5, x6] T (0, 0)))
    (hY : Y = ((((((w.setCell ⟨g, 0, none⟩ v0).setCell ⟨g, 1, none⟩ v1).setCell ⟨g, 2, none⟩ v2).setCell ⟨g, 3, none⟩ v3).setCell ⟨g, 4, none⟩ v4).setCell ⟨g, 5, none⟩ v5).setCell ⟨g, 6, none⟩ v6) : Y.heap[g]? = some (.cells #[v0, v1, v2, v3, v4, v5, v6] T (0, 0)) := by rw [hY]; exact pk_set7 hrow _ _ _ _ _ _ _
theorem pk_but7e {w Y : World} {g : Nat} {v0 v1 v2 v3 v4 v5 v6 : Value}
    (hY : Y = ((((((w.setCell ⟨g, 0, none⟩ v0).setCell ⟨g, 1, none⟩ v1).setCell ⟨g, 2, none⟩ v2).setCell ⟨g, 3, none⟩ v3).setCell ⟨g, 4, none⟩ v4).setCell ⟨g, 5, none⟩ v5).setCell ⟨g, 6, none⟩ v6) : ButG g w Y := by rw [hY]; exact pk_but7 (ButG.refl _ _) _ _ _ _ _ _ _
theorem butg_del {w w0 w' : World} {g base : Nat} (hb : Below base w0 w') (he : ∀ j, (∀ q : Addr, some ⟨g, 0, none⟩ = some q → q.block ≠ j) → w'.heap[j]? = w0.heap[j]?) (hg : base ≤ g) (h0 : w0.heap = w.heap) (h1 : w0.os = w.os) (h2 : w0.tape = w.tape) (h3 : w0.output = w.output) : ButG g w w' := by
  have hz : w0.heap.size = w.heap.size := by rw [h0]
  have ho : ∀ j, j ≠ g → w'.heap[j]? = w.heap[j]? := fun j hj => by
    rw [← h0]
    exact he j (fun q hq => by injection hq with hq; subst hq; exact fun e => hj e.symm)
  exact ⟨⟨hb.os.trans h1, hb.tape.trans h2, hb.output.trans h3, by rw [← hz]; exact hb.size, fun k hk => ho k (by omega)⟩, fun j hj _ => ho j hj⟩
theorem run_alloc_pk (w : World) : (execOp (fun _ => undef) ⟨none, .alloc 61, 0, "", #[], none⟩).run Try.prog w = .ok (.value (.pointer (some ⟨w.heap.size, 0, none⟩))) (w.alloc (.cells pk0 61)) := by
  kernel_rfl
theorem op_pkNew {o : Oper} {a : Act} {w : World} {K : Act → World → Prop} {Q : Exit → Act → World → Prop} (ho : o.op = .alloc 61)
    (hK : ∀ X p, p = w.heap.size → X.heap[p]? = some (.cells pk0 61 (0, 0)) → Below w.heap.size w X → K (a.put o.dst (.pointer (some ⟨p, 0, none⟩))) X) : o.wp Try.prog a w K Q := by
  have hr : (execOp a.eval o).run Try.prog w = .ok (.value (.pointer (some ⟨w.heap.size, 0, none⟩))) (w.alloc (.cells pk0 61)) := by
    have := run_alloc_pk w
    unfold execOp at this ⊢
    rw [ho]
    exact this
  unfold Oper.wp
  rw [hr]
  exact hK _ _ rfl (frw_at _ rfl) ((below_self w).alloc (Nat.le_refl _) _)
set_option maxRecDepth 100000 in
theorem frgTake_addT (A : Option Addr) (n c : Nat) (l : List Fr) (id pl : Nat) (proto : Int) (src dst : Nat) (B : Option Addr) (m d : Nat) (xs : List UInt8) (now : Nat) (w : World) (hr : RdFr w A n c l) (hS : FrS l) (hn : n ≤ 3) (hb : RdB w B m d xs) (ho : OwOk (src, dst, id, proto)) (hnow : now ≤ 1000)
    (hc : ipCheck (pl : Int) proto m = true) (hw : ipWhole (true) (pl : Int) = false) (hm1 : 1 ≤ m) (hm2 : pl + m ≤ 128) (hm3 : (true) = true → m % 8 = 0)
    (hfit : ∀ lp j, Placed l (src, dst, id, proto) now lp j → FitsY (lp.getD j fr0) (true) (pl + m) ∧ (fAdd (lp.getD j fr0) pl (true) xs).ok ∧ -1 ≤ (fAdd (lp.getD j fr0) pl (true) xs).ln ∧ (fAdd (lp.getD j fr0) pl (true) xs).ln ≤ 128) :
    Calls Try.prog 29 #[.slice A n c, .agg #[.int .u16 (id : Int), .bool (true), .int .i64 (pl : Int), .int .i64 proto, .int .u32 (src : Int), .int .u32 (dst : Int), .slice B m d], .int .u64 (now : Int)] w (RetTa w l id pl (true) proto src dst xs now) := by
  obtain ⟨V, hV⟩ : ∃ V, V = (w.alloc (.cells #[.int .u16 (id : Int), .bool (true), .int .i64 (pl : Int), .int .i64 proto, .int .u32 (src : Int), .int .u32 (dst : Int), .slice B m d] 61)).alloc (.cells #[.int .u16 0, .bool false, .int .i64 0, .int .i64 0, .int .u32 0, .int .u32 0, .slice none 0 0] 61) := ⟨_, rfl⟩
  have bV : Below w.heap.size w V := by rw [hV]; exact ((below_self w).alloc (Nat.le_refl _) _).alloc (by simp) _
  have qV : PkAt V w.heap.size id (true) pl proto src dst B m d := by rw [hV]; exact frw_old _ (frw_at _ rfl)
  have rV : V.heap[w.heap.size + 1]? = some (.cells #[.int .u16 0, .bool false, .int .i64 0, .int .i64 0, .int .u32 0, .int .u32 0, .slice none 0 0] 61 (0, 0)) := by rw [hV]; exact frw_at _ (by simp)
  have zV : V.heap.size = w.heap.size + 2 := by rw [hV]; simp
  have HV := Lib.hid hV
  have HQ := Lib.hid qV
  have HRV := Lib.hid rV
  have ZV := Lib.hid zV
  have HR := Lib.hid hr
  have HBD := Lib.hid hb
  have hxl := hb.2.1
  have C1 := Lib.hid (frgCheck_yes A n c l V (hr.below bV) hS)
  have C2 := Lib.hid (fun W => ipCheck_any id (true) (pl : Int) proto src dst B m d W (by omega) (by omega) ho.2.2.2)
  rw [hc] at C2
  have C3 := Lib.hid (fun W => ipWhole_any id (true) (pl : Int) proto src dst B m d W)
  rw [hw] at C3
  have e0 : ((m : Int) == 0) = false := beq_eq_false_iff_ne.2 (by omega)
  have e1 : decide ((128 : Int) - (pl : Int) < (m : Int)) = false := decide_eq_false (by omega)
  have e4 : (((m : Int) % 8) != 0) = false := by have := hm3 rfl; simp; omega
  have b0 : (0 : Int) ≤ 128 - (pl : Int) := by omega
  have HFIT := Lib.hid hfit
  have HXL := Lib.hid hxl
  have HLN := Lib.hid hr.2.1
  obtain ⟨c0, c1, c2, c3, c4, c5, c6⟩ := qV.cells
  clear hV qV rV zV hr hb hxl hS hc hw hm3 hfit
  go_enter Try.func29, Try.ntmps29
  go_wp2_with (rw [← HV.out])
  refine C1.out.mono ?_
  rintro e w1 ⟨rfl, hb1⟩
  have B1 := hb1
  clear c0 c1 c2 c3 c4 c5 c6
  obtain ⟨c0, c1, c2, c3, c4, c5, c6⟩ := (HQ.out.up B1).cells
  go_wp2_with fail
  refine (C2.out w1).mono ?_
  rintro e w2 ⟨rfl, hb2⟩
  have B2 := below_then B1 hb2
  clear c0 c1 c2 c3 c4 c5 c6
  obtain ⟨c0, c1, c2, c3, c4, c5, c6⟩ := (HQ.out.up B2).cells
  go_wp2_with fail
  refine (C3.out w2).mono ?_
  rintro e w3 ⟨rfl, hb3⟩
  have B3 := below_then B2 hb3
  clear c0 c1 c2 c3 c4 c5 c6
  obtain ⟨c0, c1, c2, c3, c4, c5, c6⟩ := (HQ.out.up B3).cells
  have R3 := Lib.hid (HR.out.below (bV.trans (B3.mono (by have := ZV.out; omega))))
  have e5 : (pl : Int) + (m : Int) = ((pl + m : Nat) : Int) := by omega
  have HE5 := Lib.hid e5
  have bz : w.heap.size + 2 ≤ w3.heap.size := by have := ZV.out; have := B3.size; omega
  clear e5
  go_wp2_with fail
  refine (frgPlace_any A n c l id _ (pl : Int) proto src dst B m d now w3 R3.out (by omega) ho hnow).mono ?_
  rintro e w4 hpl
  obtain ⟨A4, n4, c4', lp, j, rfl, o4, hj, hP, hb4⟩ := retPl_of hpl
  obtain ⟨hF, hyok, hyl⟩ := HFIT.out lp j hP
  obtain ⟨g, pre, post, rfl, hbg, hpre, hrow, hback⟩ := o4.at_ j hj
  have B4 := below_then B3 hb4
  have hn4 : n4 ≤ 4 := by
    have h1 := o4.lent
    have h2 := HLN.out
    rcases hP with ⟨h, _⟩ | ⟨h, _⟩
    · rw [h] at h1; omega
    · rw [h, List.length_append, List.length_singleton] at h1; omega
  obtain ⟨mm, hmm⟩ : ∃ q, q + 1 = n4 := ⟨n4 - 1, by omega⟩
  have hxok : (lp.getD j fr0).ok := by
    have hjl : j < lp.length := by rw [o4.lent]; exact hj
    rw [List.getD, List.getElem?_eq_getElem hjl]; exact o4.2 _ (List.getElem_mem hjl)
  obtain ⟨x, hx⟩ : ∃ x, lp.getD j fr0 = x := ⟨_, rfl⟩
  rw [hx] at hF hyok hyl hrow hxok
  have HX := Lib.hid hx
  have hin := hrow.in_
  rw [hpre] at hin
  have HIN := Lib.hid hin
  have HROW := Lib.hid hrow
  have HBACK := Lib.hid hback
  have HP := Lib.hid hP
  have HO4 := Lib.hid o4
  have HPRE := Lib.hid hpre
  have lj : (j : Int) < (n4 : Int) := by omega
  have e5 := HE5.out
  obtain ⟨N, hN⟩ : ∃ N, N = pl + m := ⟨_, rfl⟩
  rw [← hN] at e5 hF
  have HN := Lib.hid hN
  have HF := Lib.hid hF
  clear c0 c1 c2 c3 c4 c5 c6 hx hin hrow hback hP o4 hpre hN hF hpl
  obtain ⟨c0, c1, c2, c3, c4, c5, c6⟩ := (HQ.out.up B4).cells
  go_wp2_with fail
  refine (frgFits_yes g (j * 262) x _ N w4 HIN.out hxok HF.out).mono ?_
  rintro e w5 ⟨rfl, rfl⟩
  clear e5
  have hgB : ∀ q, B = some q → 0 < m → q.block ≠ g := fun q hq hm => by have := HBD.out.lt hm q hq; omega
  go_wp2_with fail
  refine (frgAdd_any g (j * 262) pre post HPRE.out.symm x hxok id pl _ proto src dst B m d xs _ HROW.out (HBD.out.below (bV.trans (B4.mono (by have := ZV.out; omega)))) (fun q hq => hgB q hq (by omega)) hm2).mono ?_
  rintro e w6 ⟨rfl, hrow6, hbut⟩
  obtain ⟨y, hy⟩ : ∃ y, fAdd x pl (true) xs = y := ⟨_, rfl⟩
  rw [hy] at hrow6 hyok hyl
  have HY := Lib.hid hy
  have h4z : w3.heap.size ≤ w5.heap.size := hb4.size
  have hw6 : Below w.heap.size w w6 := (bV.trans (B4.mono (by have := ZV.out; omega))).trans (hbut.below.mono (by omega))
  have qP6 := Lib.hid (hbut.row (h := w.heap.size) (by omega) (HQ.out.up B4))
  have r7 := hbut.row (h := w.heap.size + 1) (by omega) (frw_up HRV.out B4)
  have HR7 := Lib.hid r7
  have o6 := HBACK.out w6 y hyok hrow6
  have HO6 := Lib.hid o6
  have HROW6 := Lib.hid hrow6
  have cl := hrow6.in_.2 260 _ (frV_ln hyok)
  rw [HPRE.out] at cl
  have hg6 : g < w6.heap.size := RowAt.lt hrow6
  have hin6 := hrow6.in_
  rw [HPRE.out] at hin6
  have C9 := Lib.hid (fun W (h : FrIn W g (j * 262) y) => frgHad_any g (j * 262) y 0 false W h hyok (by omega))
  have HIN6 := Lib.hid hin6
  obtain ⟨hd, hhd⟩ : ∃ q, fHad y.H 0 false = q := ⟨_, rfl⟩
  rw [hhd] at C9
  have HHD := Lib.hid hhd
  have z6 : w.heap.size + 2 ≤ w6.heap.size := by have := hbut.below.size; omega
  have z36 : w3.heap.size ≤ w6.heap.size := by have := hbut.below.size; omega
  clear hy c0 c1 c2 c3 c4 c5 c6 hrow6 hin6 hhd r7 o6
  by_cases hln : y.ln = -1
  · have e6 : (y.ln == -1) = true := by simp [hln]
    have hWh : Hid (frWhole y = false) := Lib.hid (by unfold frWhole; simp [hln])
    clear hln
    go_wp2_with fail
    refine wp_region_seg (S := fun w' => Below w6.heap.size w6 w') 0 #[true, true, true, true, true, true, true, true, true, true, true, true, true, true] [(0, true), (1, true), (2, true), (3, true), (4, true), (5, true), (6, true), (7, true), (8, true), (9, true), (10, true), (11, true), (12, true), (13, true)] (by kernel_rfl) (by kernel_rfl) (fun _ _ d _ _ h => by first | (cases d <;> exact h) | cases h.1) ((Below.refl w6.heap.size w6).drew) ?_
    have HB := (Below.refl w6.heap.size w6).drew
    iterate 6 (refine seg_take (v := ?_) rfl (Or.inl ⟨by rfl, ?_⟩) ?_; rotate_left; (focus (intro w' hw'; have j9 := (hw'.cell (p := ⟨g, j * 262 + 260, none⟩) hg6).trans cl; go_simp <;> with_reducible rfl)); try simp only [Act.put, List.setIfInBounds_toArray, List.set_cons_zero, List.set_cons_succ])
    iterate 7 ((first | refine seg_take (v := undef) rfl (Or.inr ⟨by rfl, rfl⟩) ?_ | (refine seg_take (v := ?_) rfl (Or.inl ⟨by rfl, ?_⟩) ?_; rotate_left; (focus (intro w' hw'; have j9 := (hw'.cell (p := ⟨g, j * 262 + 260, none⟩) hg6).trans cl; go_simp <;> with_reducible rfl)))); try simp only [Act.put, List.setIfInBounds_toArray, List.set_cons_zero, List.set_cons_succ])
    iterate 1 (refine seg_take (v := ?_) rfl (Or.inl ⟨by rfl, ?_⟩) ?_; rotate_left; (focus (intro w' hw'; have j9 := (hw'.cell (p := ⟨g, j * 262 + 260, none⟩) hg6).trans cl; go_simp <;> with_reducible rfl)); try simp only [Act.put, List.setIfInBounds_toArray, List.set_cons_zero, List.set_cons_succ])
    refine seg_done (fun _ => ?_)
    refine wpAnyH_done (by kernel_rfl) ?_ _
    obtain ⟨⟨c0, c1, c2, c3, c4, c5, c6⟩, cf⟩ := pk_open HR7.out
    go_wp2_with fail
    refine bodyPost_ret (v := .tuple #[.slice (some ⟨g, 0, none⟩) n4 c4', .agg pk0, .bool false, .int .i64 0]) (fres4 Try.results29 _ _ _ _ _ _ _ rfl (frw_drew (pk_set7 HR7.out _ _ _ _ _ _ _)) Try.underlying61 rfl pk_info) rfl ⟨lp, j, HP.out, .inl ⟨by rw [HX.out, HY.out]; exact hWh.out, _, _, _, rfl, by rw [HX.out, HY.out]; exact ((HO6.out.but (pk_but7 (ButG.refl _ _) _ _ _ _ _ _ _).drew (fun a ha => by injection ha with ha; subst ha; show g ≠ _; omega)).mono (by omega)), hw6.trans ((pk_but7 (ButG.refl (w.heap.size + 1) w6) _ _ _ _ _ _ _).drew.below.mono (by omega))⟩⟩
  · have e6 : (y.ln == -1) = false := by simp [hln]
    by_cases hlt : (hd : Int) < y.ln
    · have e7 : decide ((hd : Int) < y.ln) = true := decide_eq_true hlt
      have hWh : Hid (frWhole y = false) := Lib.hid (by unfold frWhole; rw [HHD.out]; simp [hlt])
      clear hln
      go_wp2_with fail
      refine wp_region_seg (S := fun w' => Below w6.heap.size w6 w') 0 #[true, true, true, true, true, true, true, true, true, true, true, true, true, true] [(0, true), (1, true), (2, true), (3, true), (4, true), (5, true), (6, true), (7, true), (8, true), (9, true), (10, true), (11, true), (12, true), (13, true)] (by kernel_rfl) (by kernel_rfl) (fun _ _ d _ _ h => by first | (cases d <;> exact h) | cases h.1) ((Below.refl w6.heap.size w6).drew) ?_
      have HB := (Below.refl w6.heap.size w6).drew
      iterate 6 (refine seg_take (v := ?_) rfl (Or.inl ⟨by rfl, ?_⟩) ?_; rotate_left; (focus (intro w' hw'; have j9 := (hw'.cell (p := ⟨g, j * 262 + 260, none⟩) hg6).trans cl; go_simp <;> with_reducible rfl)); try simp only [Act.put, List.setIfInBounds_toArray, List.set_cons_zero, List.set_cons_succ])
      iterate 1 ((first | refine seg_take (v := undef) rfl (Or.inr ⟨by rfl, rfl⟩) ?_ | (refine seg_take (v := ?_) rfl (Or.inl ⟨by rfl, ?_⟩) ?_; rotate_left; (focus (intro w' hw'; have j9 := (hw'.cell (p := ⟨g, j * 262 + 260, none⟩) hg6).trans cl; go_simp <;> with_reducible rfl)))); try simp only [Act.put, List.setIfInBounds_toArray, List.set_cons_zero, List.set_cons_succ])
      refine seg_pure (v := .int .i64 (hd : Int)) (f := ?_) (args := ?_) rfl (by rfl) (fun w' hw' => ?_) (fun w' hw' => ?_) ?_
      rotate_left 2
      focus (have j9 := (hw'.cell (p := ⟨g, j * 262 + 260, none⟩) hg6).trans cl; go_simp <;> first | (refine ⟨?_, ?_⟩ <;> with_reducible rfl) | with_reducible rfl)
      focus (exact (C9.out w' (HIN6.out.up hw')).mono (fun e w1 h => ⟨h.1, h.2.symm⟩))
      try simp only [Act.put, List.setIfInBounds_toArray, List.set_cons_zero, List.set_cons_succ]
      iterate 5 ((first | refine seg_take (v := undef) rfl (Or.inr ⟨by rfl, rfl⟩) ?_ | (refine seg_take (v := ?_) rfl (Or.inl ⟨by rfl, ?_⟩) ?_; rotate_left; (focus (intro w' hw'; have j9 := (hw'.cell (p := ⟨g, j * 262 + 260, none⟩) hg6).trans cl; go_simp <;> with_reducible rfl)))); try simp only [Act.put, List.setIfInBounds_toArray, List.set_cons_zero, List.set_cons_succ])
      iterate 1 (refine seg_take (v := ?_) rfl (Or.inl ⟨by rfl, ?_⟩) ?_; rotate_left; (focus (intro w' hw'; have j9 := (hw'.cell (p := ⟨g, j * 262 + 260, none⟩) hg6).trans cl; go_simp <;> with_reducible rfl)); try simp only [Act.put, List.setIfInBounds_toArray, List.set_cons_zero, List.set_cons_succ])
      refine seg_done (fun _ => ?_)
      refine wpAnyH_done (by kernel_rfl) ?_ _
      obtain ⟨⟨c0, c1, c2, c3, c4, c5, c6⟩, cf⟩ := pk_open HR7.out
      go_wp2_with fail
      refine bodyPost_ret (v := .tuple #[.slice (some ⟨g, 0, none⟩) n4 c4', .agg pk0, .bool false, .int .i64 0]) (fres4 Try.results29 _ _ _ _ _ _ _ rfl (frw_drew (pk_set7 HR7.out _ _ _ _ _ _ _)) Try.underlying61 rfl pk_info) rfl ⟨lp, j, HP.out, .inl ⟨by rw [HX.out, HY.out]; exact hWh.out, _, _, _, rfl, by rw [HX.out, HY.out]; exact ((HO6.out.but (pk_but7 (ButG.refl _ _) _ _ _ _ _ _ _).drew (fun a ha => by injection ha with ha; subst ha; show g ≠ _; omega)).mono (by omega)), hw6.trans ((pk_but7 (ButG.refl (w.heap.size + 1) w6) _ _ _ _ _ _ _).drew.below.mono (by omega))⟩⟩
    · have e7 : decide ((hd : Int) < y.ln) = false := decide_eq_false hlt
      have hWh : Hid (frWhole y = true) := Lib.hid (by unfold frWhole; rw [HHD.out]; simp [hlt, hln])
      have hl0 : (0 : Int) ≤ y.ln := by omega
      obtain ⟨L, hL⟩ : ∃ L : Nat, y.ln = (L : Int) := ⟨y.ln.toNat, by omega⟩
      have HRB : Hid (RdB w6 (some ⟨g, j * 262 + 4, none⟩) L 128 (y.D.take L)) := Lib.hid (dv_rd HIN6.out hyok L (by omega))
      rw [hL] at cl e6 e7
      have e10 : (0 : Int) ≤ (L : Int) := by omega
      have e11 : (L : Int) ≤ 128 := by omega
      have e12 : decide (hd < L) = false := decide_eq_false (by omega)
      have HLL := Lib.hid hL
      clear hL
      clear hln
      go_wp2_with fail
      refine wp_region_seg (S := fun w' => Below w6.heap.size w6 w') 0 #[true, true, true, true, true, true, true, true, true, true, true, true, true, true] [(0, true), (1, true), (2, true), (3, true), (4, true), (5, true), (6, true), (7, true), (8, true), (9, true), (10, true), (11, true), (12, true), (13, true)] (by kernel_rfl) (by kernel_rfl) (fun _ _ d _ _ h => by first | (cases d <;> exact h) | cases h.1) ((Below.refl w6.heap.size w6).drew) ?_
      have HB := (Below.refl w6.heap.size w6).drew
      iterate 6 (refine seg_take (v := ?_) rfl (Or.inl ⟨by rfl, ?_⟩) ?_; rotate_left; (focus (intro w' hw'; have j9 := (hw'.cell (p := ⟨g, j * 262 + 260, none⟩) hg6).trans cl; go_simp <;> with_reducible rfl)); try simp only [Act.put, List.setIfInBounds_toArray, List.set_cons_zero, List.set_cons_succ])
      iterate 1 ((first | refine seg_take (v := undef) rfl (Or.inr ⟨by rfl, rfl⟩) ?_ | (refine seg_take (v := ?_) rfl (Or.inl ⟨by rfl, ?_⟩) ?_; rotate_left; (focus (intro w' hw'; have j9 := (hw'.cell (p := ⟨g, j * 262 + 260, none⟩) hg6).trans cl; go_simp <;> with_reducible rfl)))); try simp only [Act.put, List.setIfInBounds_toArray, List.set_cons_zero, List.set_cons_succ])
      refine seg_pure (v := .int .i64 (hd : Int)) (f := ?_) (args := ?_) rfl (by rfl) (fun w' hw' => ?_) (fun w' hw' => ?_) ?_
      rotate_left 2
      focus (have j9 := (hw'.cell (p := ⟨g, j * 262 + 260, none⟩) hg6).trans cl; go_simp <;> first | (refine ⟨?_, ?_⟩ <;> with_reducible rfl) | with_reducible rfl)
      focus (exact (C9.out w' (HIN6.out.up hw')).mono (fun e w1 h => ⟨h.1, h.2.symm⟩))
      try simp only [Act.put, List.setIfInBounds_toArray, List.set_cons_zero, List.set_cons_succ]
      iterate 5 ((first | refine seg_take (v := undef) rfl (Or.inr ⟨by rfl, rfl⟩) ?_ | (refine seg_take (v := ?_) rfl (Or.inl ⟨by rfl, ?_⟩) ?_; rotate_left; (focus (intro w' hw'; have j9 := (hw'.cell (p := ⟨g, j * 262 + 260, none⟩) hg6).trans cl; go_simp <;> with_reducible rfl)))); try simp only [Act.put, List.setIfInBounds_toArray, List.set_cons_zero, List.set_cons_succ])
      iterate 1 (refine seg_take (v := ?_) rfl (Or.inl ⟨by rfl, ?_⟩) ?_; rotate_left; (focus (intro w' hw'; have j9 := (hw'.cell (p := ⟨g, j * 262 + 260, none⟩) hg6).trans cl; go_simp <;> with_reducible rfl)); try simp only [Act.put, List.setIfInBounds_toArray, List.set_cons_zero, List.set_cons_succ])
      refine seg_done (fun _ => ?_)
      refine wpAnyH_done (by kernel_rfl) ?_ _
      go_wp2_with fail
      obtain ⟨⟨c0, c1, c2, c3, c4, c5, c6⟩, cf⟩ := pk_open qP6.out
      have lw6 : w.heap.size < w6.heap.size := by omega
      refine wp_region_seg (S := fun w' => Below w6.heap.size w6 w') 4 #[true, true, true, true, true, true, true, true, true, true, true, true, true, true, true, true, false, false, false, false] [(0, true), (1, true), (2, true), (3, true), (4, true), (5, true), (6, true), (7, true), (8, true), (9, true), (10, true), (11, true), (12, true), (13, true), (14, true), (15, true)] (by kernel_rfl) (by kernel_rfl) (fun _ _ d _ _ h => by first | (cases d <;> exact h) | cases h.1) ((Below.refl w6.heap.size w6).drew.drew) ?_
      have HB := (Below.refl w6.heap.size w6).drew.drew
      iterate 16 (refine seg_take (v := ?_) rfl (Or.inl ⟨by rfl, ?_⟩) ?_; rotate_left; (focus (intro w' hw'; have j0 := (hw'.cell (p := ⟨w.heap.size, 0, none⟩) lw6).trans c0; have j3 := (hw'.cell (p := ⟨w.heap.size, 3, none⟩) lw6).trans c3; have j4 := (hw'.cell (p := ⟨w.heap.size, 4, none⟩) lw6).trans c4; have j5 := (hw'.cell (p := ⟨w.heap.size, 5, none⟩) lw6).trans c5; have j9 := (hw'.cell (p := ⟨g, j * 262 + 260, none⟩) hg6).trans cl; go_simp <;> with_reducible rfl)); try simp only [Act.put, List.setIfInBounds_toArray, List.set_cons_zero, List.set_cons_succ])
      refine seg_done (fun _ => ?_)
      refine wpAnyH_two (i := 16) (j := 18) (f := 3) (by kernel_rfl) ?_ ?_
      · skip
        refine op_run rfl (fun K hK => ?_)
        go_simp
        refine (clone18_any (some ⟨g, j * 262 + 4, none⟩) L 128 (y.D.take L) _ (HRB.out.below HB) (by omega)).mono ?_
        rintro e wC ⟨AC, nC, cC, rfl, oC, hbC⟩
        have OC := Lib.hid (oC.mono (base' := w.heap.size) (by have := HB.size; omega))
        have HB := below_then HB hbC
        try (have QX := Lib.hid (frw_up QX.out hbC); obtain ⟨⟨x0, x1, x2, x3, x4, x5, x6⟩, xf⟩ := pk_open QX.out)
        clear oC
        refine hK.out _ _ (HB) ?_
        clear hK
        try simp only [Act.put, List.setIfInBounds_toArray, List.set_cons_zero, List.set_cons_succ]
        refine wpAnyH_seg (by kernel_rfl) (fun _ _ d _ _ h => by first | (cases d <;> exact h) | cases h.1) 0 #[true, true, true, true, true, true, true, true, true, true, true, true, true, true, true, true, true, true, true, true] [(17, true), (18, false), (19, false)] _ _ _ (by kernel_rfl) (HB) ?_
        iterate 1 (refine seg_take (v := ?_) rfl (Or.inl ⟨by rfl, ?_⟩) ?_; rotate_left; (focus (intro w' hw'; have j0 := (hw'.cell (p := ⟨w.heap.size, 0, none⟩) lw6).trans c0; have j3 := (hw'.cell (p := ⟨w.heap.size, 3, none⟩) lw6).trans c3; have j4 := (hw'.cell (p := ⟨w.heap.size, 4, none⟩) lw6).trans c4; have j5 := (hw'.cell (p := ⟨w.heap.size, 5, none⟩) lw6).trans c5; have j9 := (hw'.cell (p := ⟨g, j * 262 + 260, none⟩) hg6).trans cl; go_simp <;> with_reducible rfl)); try simp only [Act.put, List.setIfInBounds_toArray, List.set_cons_zero, List.set_cons_succ])
        refine seg_run rfl (fun K hK => ?_)
        rw [if_pos (by rfl)]
        refine op_pkNew rfl ?_
        intro X pX hpX qX hbX
        have HGX := Nat.le_trans HB.size (Nat.le_of_eq hpX.symm)
        clear hpX
        have QX := Lib.hid qX
        have HB := below_then HB hbX
        try have OC := Lib.hid (OC.out.below hbX)
        obtain ⟨⟨x0, x1, x2, x3, x4, x5, x6⟩, xf⟩ := pk_open QX.out
        clear qX hbX
        refine hK.out _ _ (HB) ?_
        clear hK
        try simp only [Act.put, List.setIfInBounds_toArray, List.set_cons_zero, List.set_cons_succ]
        refine seg_run rfl (fun K hK => ?_)
        go_simp
        refine named_k ?_
        intro Y hY
        have QY := Lib.hid (pk_row7e QX.out hY)
        have hbY := pk_but7e hY
        have OC := Lib.hid (OC.out.butT hbY QX.out (by decide))
        have HB := HB.trans (hbY.below.mono HGX)
        clear hY hbY
        refine hK.out _ _ (HB) ?_
        clear hK
        try simp only [Act.put, List.setIfInBounds_toArray, List.set_cons_zero, List.set_cons_succ]
        refine seg_done (fun _ => ?_)
        refine wpAnyH_done (by kernel_rfl) ?_ _
        have OY := HO6.out.up HB
        have HRY := Lib.hid (frw_up HR7.out HB)
        have HROWY := Lib.hid (HROW6.out.up HB)
        have zY := HB.size
        have HB18 := HB
        have e13 : IntKind.i64.wrap ((j : Int) + 1) = (j : Int) + 1 := IntWalk.i64_in _ (by omega)
        clear x0 x1 x2 x3 x4 x5 x6 xf c0 c1 c2 c3 c4 c5 c6 cf
        go_wp2_with fail
        refine wp_region_seg (S := fun w' => w'.heap[pX]? = Y.heap[pX]?) 0 #[true, true, true, true, true, true, true, true, true, true] [(0, true), (1, true), (2, true), (3, true), (5, true), (4, false), (6, true), (7, false), (8, true), (9, true)] (by kernel_rfl) (by kernel_rfl) (fun _ _ d _ _ h => by first | (cases d <;> exact h) | cases h.1) ((Eq.refl (Y.heap[pX]?))) ?_
        have HB := (Eq.refl (Y.heap[pX]?))
        iterate 5 (refine seg_take (v := ?_) rfl (Or.inl ⟨by rfl, ?_⟩) ?_; rotate_left; (focus (intro w' hw'; obtain ⟨⟨j0, j1, j2, j3, j4, j5, j6⟩, jf⟩ := pk_open (hw'.trans QY.out); go_simp <;> with_reducible rfl)); try simp only [Act.put, List.setIfInBounds_toArray, List.set_cons_zero, List.set_cons_succ])
        refine seg_run rfl (fun K hK => ?_)
        go_simp
        refine (delFr_any w3.heap.size (some ⟨g, 0, none⟩) n4 c4' (lp.set j y) j Y.drew OY hj (by omega) mm hmm).mono ?_
        rintro e wD ⟨rfl, oD, bD, eD⟩
        have HBD : ButG g Y wD := butg_del bD eD hbg rfl rfl rfl rfl
        have HB := HBD.other pX (by omega) (frw_lt QY.out)
        obtain ⟨⟨x0, x1, x2, x3, x4, x5, x6⟩, xf⟩ := pk_open (HBD.row (by omega) HRY.out)
        refine hK.out _ _ (HB) ?_
        clear hK
        try simp only [Act.put, List.setIfInBounds_toArray, List.set_cons_zero, List.set_cons_succ]
        iterate 1 (refine seg_take (v := ?_) rfl (Or.inl ⟨by rfl, ?_⟩) ?_; rotate_left; (focus (intro w' hw'; obtain ⟨⟨j0, j1, j2, j3, j4, j5, j6⟩, jf⟩ := pk_open (hw'.trans QY.out); go_simp <;> with_reducible rfl)); try simp only [Act.put, List.setIfInBounds_toArray, List.set_cons_zero, List.set_cons_succ])
        refine seg_run rfl (fun K hK => ?_)
        go_simp
        refine named_k ?_
        intro Z hZ
        have hbZ := pk_but7e hZ
        have HRZ := Lib.hid (pk_row7e (HBD.row (by omega) HRY.out) hZ)
        have HB := (hbZ.other pX (by omega) (frw_lt (HBD.row (by omega) QY.out))).trans HB
        clear hZ
        refine hK.out _ _ (HB) ?_
        clear hK
        try simp only [Act.put, List.setIfInBounds_toArray, List.set_cons_zero, List.set_cons_succ]
        iterate 2 (refine seg_take (v := ?_) rfl (Or.inl ⟨by rfl, ?_⟩) ?_; rotate_left; (focus (intro w' hw'; obtain ⟨⟨j0, j1, j2, j3, j4, j5, j6⟩, jf⟩ := pk_open (hw'.trans QY.out); go_simp <;> with_reducible rfl)); try simp only [Act.put, List.setIfInBounds_toArray, List.set_cons_zero, List.set_cons_succ])
        refine seg_done (fun _ => ?_)
        refine wpAnyH_done (by kernel_rfl) ?_ _
        clear x0 x1 x2 x3 x4 x5 x6 xf
        go_wp2_with fail
        refine bodyPost_ret (v := .tuple #[.slice (some ⟨g, 0, none⟩) mm c4', .agg #[.int .u16 (id : Int), .bool false, .int .i64 0, .int .i64 proto, .int .u32 (src : Int), .int .u32 (dst : Int), .slice AC nC cC], .bool true, .int .i64 0]) (fres4 Try.results29 _ _ _ _ _ _ _ rfl HRZ.out Try.underlying61 rfl pk_info) rfl ⟨lp, j, HP.out, .inr ⟨by rw [HX.out, HY.out]; exact hWh.out, _, _, _, _, _, _, rfl, ?_, ?_, ?_⟩⟩
        · rw [List.take_set_of_le (Nat.le_refl j), List.drop_set_of_lt (Nat.lt_succ_self j)] at oD
          exact (oD.but hbZ (fun a ha => by injection ha with ha; subst ha; show g ≠ _; omega)).mono (by omega)
        · rw [HX.out, HY.out, HLL.out]
          exact (OC.out.butT HBD HROWY.out (by decide)).butT hbZ (HBD.row (by omega) HRY.out) (by decide)
        · exact hw6.trans ((HB18.mono (by omega)).trans ((HBD.below.mono (by omega)).trans (hbZ.below.mono (by omega))))
      · skip
        refine op_run rfl (fun K hK => ?_)
        rw [if_pos (by rfl)]
        refine op_pkNew rfl ?_
        intro X pX hpX qX hbX
        have HGX := Nat.le_trans HB.size (Nat.le_of_eq hpX.symm)
        clear hpX
        have QX := Lib.hid qX
        have HB := below_then HB hbX
        try have OC := Lib.hid (OC.out.below hbX)
        obtain ⟨⟨x0, x1, x2, x3, x4, x5, x6⟩, xf⟩ := pk_open QX.out
        clear qX hbX
        refine hK.out _ _ (HB) ?_
        clear hK
        try simp only [Act.put, List.setIfInBounds_toArray, List.set_cons_zero, List.set_cons_succ]
        refine wpAnyH_seg (by kernel_rfl) (fun _ _ d _ _ h => by first | (cases d <;> exact h) | cases h.1) 0 #[true, true, true, true, true, true, true, true, true, true, true, true, true, true, true, true, true, true, true, true] [(16, false), (17, true), (19, false)] _ _ _ (by kernel_rfl) (HB) ?_
        refine seg_run rfl (fun K hK => ?_)
        go_simp
        refine (clone18_any (some ⟨g, j * 262 + 4, none⟩) L 128 (y.D.take L) _ (HRB.out.below HB) (by omega)).mono ?_
        rintro e wC ⟨AC, nC, cC, rfl, oC, hbC⟩
        have OC := Lib.hid (oC.mono (base' := w.heap.size) (by have := HB.size; omega))
        have HB := below_then HB hbC
        try (have QX := Lib.hid (frw_up QX.out hbC); obtain ⟨⟨x0, x1, x2, x3, x4, x5, x6⟩, xf⟩ := pk_open QX.out)
        clear oC
        refine hK.out _ _ (HB) ?_
        clear hK
        try simp only [Act.put, List.setIfInBounds_toArray, List.set_cons_zero, List.set_cons_succ]
        iterate 1 (refine seg_take (v := ?_) rfl (Or.inl ⟨by rfl, ?_⟩) ?_; rotate_left; (focus (intro w' hw'; have j0 := (hw'.cell (p := ⟨w.heap.size, 0, none⟩) lw6).trans c0; have j3 := (hw'.cell (p := ⟨w.heap.size, 3, none⟩) lw6).trans c3; have j4 := (hw'.cell (p := ⟨w.heap.size, 4, none⟩) lw6).trans c4; have j5 := (hw'.cell (p := ⟨w.heap.size, 5, none⟩) lw6).trans c5; have j9 := (hw'.cell (p := ⟨g, j * 262 + 260, none⟩) hg6).trans cl; go_simp <;> with_reducible rfl)); try simp only [Act.put, List.setIfInBounds_toArray, List.set_cons_zero, List.set_cons_succ])
        refine seg_run rfl (fun K hK => ?_)
        go_simp
        refine named_k ?_
        intro Y hY
        have QY := Lib.hid (pk_row7e QX.out hY)
        have hbY := pk_but7e hY
        have OC := Lib.hid (OC.out.butT hbY QX.out (by decide))
        have HB := HB.trans (hbY.below.mono HGX)
        clear hY hbY
        refine hK.out _ _ (HB) ?_
        clear hK
        try simp only [Act.put, List.setIfInBounds_toArray, List.set_cons_zero, List.set_cons_succ]
        refine seg_done (fun _ => ?_)
        refine wpAnyH_done (by kernel_rfl) ?_ _
        have OY := HO6.out.up HB
        have HRY := Lib.hid (frw_up HR7.out HB)
        have HROWY := Lib.hid (HROW6.out.up HB)
        have zY := HB.size
        have HB18 := HB
        have e13 : IntKind.i64.wrap ((j : Int) + 1) = (j : Int) + 1 := IntWalk.i64_in _ (by omega)
        clear x0 x1 x2 x3 x4 x5 x6 xf c0 c1 c2 c3 c4 c5 c6 cf
        go_wp2_with fail
        refine wp_region_seg (S := fun w' => w'.heap[pX]? = Y.heap[pX]?) 0 #[true, true, true, true, true, true, true, true, true, true] [(0, true), (1, true), (2, true), (3, true), (5, true), (4, false), (6, true), (7, false), (8, true), (9, true)] (by kernel_rfl) (by kernel_rfl) (fun _ _ d _ _ h => by first | (cases d <;> exact h) | cases h.1) ((Eq.refl (Y.heap[pX]?))) ?_
        have HB := (Eq.refl (Y.heap[pX]?))
        iterate 5 (refine seg_take (v := ?_) rfl (Or.inl ⟨by rfl, ?_⟩) ?_; rotate_left; (focus (intro w' hw'; obtain ⟨⟨j0, j1, j2, j3, j4, j5, j6⟩, jf⟩ := pk_open (hw'.trans QY.out); go_simp <;> with_reducible rfl)); try simp only [Act.put, List.setIfInBounds_toArray, List.set_cons_zero, List.set_cons_succ])
        refine seg_run rfl (fun K hK => ?_)
        go_simp
        refine (delFr_any w3.heap.size (some ⟨g, 0, none⟩) n4 c4' (lp.set j y) j Y.drew OY hj (by omega) mm hmm).mono ?_
        rintro e wD ⟨rfl, oD, bD, eD⟩
        have HBD : ButG g Y wD := butg_del bD eD hbg rfl rfl rfl rfl
        have HB := HBD.other pX (by omega) (frw_lt QY.out)
        obtain ⟨⟨x0, x1, x2, x3, x4, x5, x6⟩, xf⟩ := pk_open (HBD.row (by omega) HRY.out)
        refine hK.out _ _ (HB) ?_
        clear hK
        try simp only [Act.put, List.setIfInBounds_toArray, List.set_cons_zero, List.set_cons_succ]
        iterate 1 (refine seg_take (v := ?_) rfl (Or.inl ⟨by rfl, ?_⟩) ?_; rotate_left; (focus (intro w' hw'; obtain ⟨⟨j0, j1, j2, j3, j4, j5, j6⟩, jf⟩ := pk_open (hw'.trans QY.out); go_simp <;> with_reducible rfl)); try simp only [Act.put, List.setIfInBounds_toArray, List.set_cons_zero, List.set_cons_succ])
        refine seg_run rfl (fun K hK => ?_)
        go_simp
        refine named_k ?_
        intro Z hZ
        have hbZ := pk_but7e hZ
        have HRZ := Lib.hid (pk_row7e (HBD.row (by omega) HRY.out) hZ)
        have HB := (hbZ.other pX (by omega) (frw_lt (HBD.row (by omega) QY.out))).trans HB
        clear hZ
        refine hK.out _ _ (HB) ?_
        clear hK
        try simp only [Act.put, List.setIfInBounds_toArray, List.set_cons_zero, List.set_cons_succ]
        iterate 2 (refine seg_take (v := ?_) rfl (Or.inl ⟨by rfl, ?_⟩) ?_; rotate_left; (focus (intro w' hw'; obtain ⟨⟨j0, j1, j2, j3, j4, j5, j6⟩, jf⟩ := pk_open (hw'.trans QY.out); go_simp <;> with_reducible rfl)); try simp only [Act.put, List.setIfInBounds_toArray, List.set_cons_zero, List.set_cons_succ])
        refine seg_done (fun _ => ?_)
        refine wpAnyH_done (by kernel_rfl) ?_ _
        clear x0 x1 x2 x3 x4 x5 x6 xf
        go_wp2_with fail
        refine bodyPost_ret (v := .tuple #[.slice (some ⟨g, 0, none⟩) mm c4', .agg #[.int .u16 (id : Int), .bool false, .int .i64 0, .int .i64 proto, .int .u32 (src : Int), .int .u32 (dst : Int), .slice AC nC cC], .bool true, .int .i64 0]) (fres4 Try.results29 _ _ _ _ _ _ _ rfl HRZ.out Try.underlying61 rfl pk_info) rfl ⟨lp, j, HP.out, .inr ⟨by rw [HX.out, HY.out]; exact hWh.out, _, _, _, _, _, _, rfl, ?_, ?_, ?_⟩⟩
        · rw [List.take_set_of_le (Nat.le_refl j), List.drop_set_of_lt (Nat.lt_succ_self j)] at oD
          exact (oD.but hbZ (fun a ha => by injection ha with ha; subst ha; show g ≠ _; omega)).mono (by omega)
        · rw [HX.out, HY.out, HLL.out]
          exact (OC.out.butT HBD HROWY.out (by decide)).butT hbZ (HBD.row (by omega) HRY.out) (by decide)
        · exact hw6.trans ((HB18.mono (by omega)).trans ((HBD.below.mono (by omega)).trans (hbZ.below.mono (by omega))))
set_option maxRecDepth 100000 in
theorem frgTake_addF (A : Option Addr) (n c : Nat) (l : List Fr) (id pl : Nat) (proto : Int) (src dst : Nat) (B : Option Addr) (m d : Nat) (xs : List UInt8) (now : Nat) (w : World) (hr : RdFr w A n c l) (hS : FrS l) (hn : n ≤ 3) (hb : RdB w B m d xs) (ho : OwOk (src, dst, id, proto)) (hnow : now ≤ 1000)
    (hc : ipCheck (pl : Int) proto m = true) (hw : ipWhole (false) (pl : Int) = false) (hm1 : 1 ≤ m) (hm2 : pl + m ≤ 128) (hm3 : (false) = true → m % 8 = 0)
    (hfit : ∀ lp j, Placed l (src, dst, id, proto) now lp j → FitsY (lp.getD j fr0) (false) (pl + m) ∧ (fAdd (lp.getD j fr0) pl (false) xs).ok ∧ -1 ≤ (fAdd (lp.getD j fr0) pl (false) xs).ln ∧ (fAdd (lp.getD j fr0) pl (false) xs).ln ≤ 128) :
    Calls Try.prog 29 #[.slice A n c, .agg #[.int .u16 (id : Int), .bool (false), .int .i64 (pl : Int), .int .i64 proto, .int .u32 (src : Int), .int .u32 (dst : Int), .slice B m d], .int .u64 (now : Int)] w (RetTa w l id pl (false) proto src dst xs now) := by
  obtain ⟨V, hV⟩ : ∃ V, V = (w.alloc (.cells #[.int .u16 (id : Int), .bool (false), .int .i64 (pl : Int), .int .i64 proto, .int .u32 (src : Int), .int .u32 (dst : Int), .slice B m d] 61)).alloc (.cells #[.int .u16 0, .bool false, .int .i64 0, .int .i64 0, .int .u32 0, .int .u32 0, .slice none 0 0] 61) := ⟨_, rfl⟩
  have bV : Below w.heap.size w V := by rw [hV]; exact ((below_self w).alloc (Nat.le_refl _) _).alloc (by simp) _
  have qV : PkAt V w.heap.size id (false) pl proto src dst B m d := by rw [hV]; exact frw_old _ (frw_at _ rfl)
  have rV : V.heap[w.heap.size + 1]? = some (.cells #[.int .u16 0, .bool false, .int .i64 0, .int .i64 0, .int .u32 0, .int .u32 0, .slice none 0 0] 61 (0, 0)) := by rw [hV]; exact frw_at _ (by simp)
  have zV : V.heap.size = w.heap.size + 2 := by rw [hV]; simp
  have HV := Lib.hid hV
  have HQ := Lib.hid qV
  have HRV := Lib.hid rV
  have ZV := Lib.hid zV
  have HR := Lib.hid hr
  have HBD := Lib.hid hb
  have hxl := hb.2.1
  have C1 := Lib.hid (frgCheck_yes A n c l V (hr.below bV) hS)
  have C2 := Lib.hid (fun W => ipCheck_any id (false) (pl : Int) proto src dst B m d W (by omega) (by omega) ho.2.2.2)
  rw [hc] at C2
  have C3 := Lib.hid (fun W => ipWhole_any id (false) (pl : Int) proto src dst B m d W)
  rw [hw] at C3
  have e0 : ((m : Int) == 0) = false := beq_eq_false_iff_ne.2 (by omega)
  have e1 : decide ((128 : Int) - (pl : Int) < (m : Int)) = false := decide_eq_false (by omega)
  skip
  have b0 : (0 : Int) ≤ 128 - (pl : Int) := by omega
  have HFIT := Lib.hid hfit
  have HXL := Lib.hid hxl
  have HLN := Lib.hid hr.2.1
  obtain ⟨c0, c1, c2, c3, c4, c5, c6⟩ := qV.cells
  clear hV qV rV zV hr hb hxl hS hc hw hm3 hfit
  go_enter Try.func29, Try.ntmps29
  go_wp2_with (rw [← HV.out])
  refine C1.out.mono ?_
  rintro e w1 ⟨rfl, hb1⟩
  have B1 := hb1
  clear c0 c1 c2 c3 c4 c5 c6
  obtain ⟨c0, c1, c2, c3, c4, c5, c6⟩ := (HQ.out.up B1).cells
  go_wp2_with fail
  refine (C2.out w1).mono ?_
  rintro e w2 ⟨rfl, hb2⟩
  have B2 := below_then B1 hb2
  clear c0 c1 c2 c3 c4 c5 c6
  obtain ⟨c0, c1, c2, c3, c4, c5, c6⟩ := (HQ.out.up B2).cells
  go_wp2_with fail
  refine (C3.out w2).mono ?_
  rintro e w3 ⟨rfl, hb3⟩
  have B3 := below_then B2 hb3
  clear c0 c1 c2 c3 c4 c5 c6
  obtain ⟨c0, c1, c2, c3, c4, c5, c6⟩ := (HQ.out.up B3).cells
  have R3 := Lib.hid (HR.out.below (bV.trans (B3.mono (by have := ZV.out; omega))))
  have e5 : (pl : Int) + (m : Int) = ((pl + m : Nat) : Int) := by omega
  have HE5 := Lib.hid e5
  have bz : w.heap.size + 2 ≤ w3.heap.size := by have := ZV.out; have := B3.size; omega
  clear e5
  go_wp2_with fail
  refine (frgPlace_any A n c l id _ (pl : Int) proto src dst B m d now w3 R3.out (by omega) ho hnow).mono ?_
  rintro e w4 hpl
  obtain ⟨A4, n4, c4', lp, j, rfl, o4, hj, hP, hb4⟩ := retPl_of hpl
  obtain ⟨hF, hyok, hyl⟩ := HFIT.out lp j hP
  obtain ⟨g, pre, post, rfl, hbg, hpre, hrow, hback⟩ := o4.at_ j hj
  have B4 := below_then B3 hb4
  have hn4 : n4 ≤ 4 := by
    have h1 := o4.lent
    have h2 := HLN.out
    rcases hP with ⟨h, _⟩ | ⟨h, _⟩
    · rw [h] at h1; omega
    · rw [h, List.length_append, List.length_singleton] at h1; omega
  obtain ⟨mm, hmm⟩ : ∃ q, q + 1 = n4 := ⟨n4 - 1, by omega⟩
  have hxok : (lp.getD j fr0).ok := by
    have hjl : j < lp.length := by rw [o4.lent]; exact hj
    rw [List.getD, List.getElem?_eq_getElem hjl]; exact o4.2 _ (List.getElem_mem hjl)
  obtain ⟨x, hx⟩ : ∃ x, lp.getD j fr0 = x := ⟨_, rfl⟩
  rw [hx] at hF hyok hyl hrow hxok
  have HX := Lib.hid hx
  have hin := hrow.in_
  rw [hpre] at hin
  have HIN := Lib.hid hin
  have HROW := Lib.hid hrow
  have HBACK := Lib.hid hback
  have HP := Lib.hid hP
  have HO4 := Lib.hid o4
  have HPRE := Lib.hid hpre
  have lj : (j : Int) < (n4 : Int) := by omega
  have e5 := HE5.out
  obtain ⟨N, hN⟩ : ∃ N, N = pl + m := ⟨_, rfl⟩
  rw [← hN] at e5 hF
  have HN := Lib.hid hN
  have HF := Lib.hid hF
  clear c0 c1 c2 c3 c4 c5 c6 hx hin hrow hback hP o4 hpre hN hF hpl
  obtain ⟨c0, c1, c2, c3, c4, c5, c6⟩ := (HQ.out.up B4).cells
  go_wp2_with fail
  refine (frgFits_yes g (j * 262) x _ N w4 HIN.out hxok HF.out).mono ?_
  rintro e w5 ⟨rfl, rfl⟩
  clear e5
  have hgB : ∀ q, B = some q → 0 < m → q.block ≠ g := fun q hq hm => by have := HBD.out.lt hm q hq; omega
  go_wp2_with fail
  refine (frgAdd_any g (j * 262) pre post HPRE.out.symm x hxok id pl _ proto src dst B m d xs _ HROW.out (HBD.out.below (bV.trans (B4.mono (by have := ZV.out; omega)))) (fun q hq => hgB q hq (by omega)) hm2).mono ?_
  rintro e w6 ⟨rfl, hrow6, hbut⟩
  obtain ⟨y, hy⟩ : ∃ y, fAdd x pl (false) xs = y := ⟨_, rfl⟩
  rw [hy] at hrow6 hyok hyl
  have HY := Lib.hid hy
  have h4z : w3.heap.size ≤ w5.heap.size := hb4.size
  have hw6 : Below w.heap.size w w6 := (bV.trans (B4.mono (by have := ZV.out; omega))).trans (hbut.below.mono (by omega))
  have qP6 := Lib.hid (hbut.row (h := w.heap.size) (by omega) (HQ.out.up B4))
  have r7 := hbut.row (h := w.heap.size + 1) (by omega) (frw_up HRV.out B4)
  have HR7 := Lib.hid r7
  have o6 := HBACK.out w6 y hyok hrow6
  have HO6 := Lib.hid o6
  have HROW6 := Lib.hid hrow6
  have cl := hrow6.in_.2 260 _ (frV_ln hyok)
  rw [HPRE.out] at cl
  have hg6 : g < w6.heap.size := RowAt.lt hrow6
  have hin6 := hrow6.in_
  rw [HPRE.out] at hin6
  have C9 := Lib.hid (fun W (h : FrIn W g (j * 262) y) => frgHad_any g (j * 262) y 0 false W h hyok (by omega))
  have HIN6 := Lib.hid hin6
  obtain ⟨hd, hhd⟩ : ∃ q, fHad y.H 0 false = q := ⟨_, rfl⟩
  rw [hhd] at C9
  have HHD := Lib.hid hhd
  have z6 : w.heap.size + 2 ≤ w6.heap.size := by have := hbut.below.size; omega
  have z36 : w3.heap.size ≤ w6.heap.size := by have := hbut.below.size; omega
  clear hy c0 c1 c2 c3 c4 c5 c6 hrow6 hin6 hhd r7 o6
  by_cases hln : y.ln = -1
  · have e6 : (y.ln == -1) = true := by simp [hln]
    have hWh : Hid (frWhole y = false) := Lib.hid (by unfold frWhole; simp [hln])
    clear hln
    go_wp2_with fail
    refine wp_region_seg (S := fun w' => Below w6.heap.size w6 w') 0 #[true, true, true, true, true, true, true, true, true, true, true, true, true, true] [(0, true), (1, true), (2, true), (3, true), (4, true), (5, true), (6, true), (7, true), (8, true), (9, true), (10, true), (11, true), (12, true), (13, true)] (by kernel_rfl) (by kernel_rfl) (fun _ _ d _ _ h => by first | (cases d <;> exact h) | cases h.1) ((Below.refl w6.heap.size w6).drew) ?_
    have HB := (Below.refl w6.heap.size w6).drew
    iterate 6 (refine seg_take (v := ?_) rfl (Or.inl ⟨by rfl, ?_⟩) ?_; rotate_left; (focus (intro w' hw'; have j9 := (hw'.cell (p := ⟨g, j * 262 + 260, none⟩) hg6).trans cl; go_simp <;> with_reducible rfl)); try simp only [Act.put, List.setIfInBounds_toArray, List.set_cons_zero, List.set_cons_succ])
    iterate 7 ((first | refine seg_take (v := undef) rfl (Or.inr ⟨by rfl, rfl⟩) ?_ | (refine seg_take (v := ?_) rfl (Or.inl ⟨by rfl, ?_⟩) ?_; rotate_left; (focus (intro w' hw'; have j9 := (hw'.cell (p := ⟨g, j * 262 + 260, none⟩) hg6).trans cl; go_simp <;> with_reducible rfl)))); try simp only [Act.put, List.setIfInBounds_toArray, List.set_cons_zero, List.set_cons_succ])
    iterate 1 (refine seg_take (v := ?_) rfl (Or.inl ⟨by rfl, ?_⟩) ?_; rotate_left; (focus (intro w' hw'; have j9 := (hw'.cell (p := ⟨g, j * 262 + 260, none⟩) hg6).trans cl; go_simp <;> with_reducible rfl)); try simp only [Act.put, List.setIfInBounds_toArray, List.set_cons_zero, List.set_cons_succ])
    refine seg_done (fun _ => ?_)
    refine wpAnyH_done (by kernel_rfl) ?_ _
    obtain ⟨⟨c0, c1, c2, c3, c4, c5, c6⟩, cf⟩ := pk_open HR7.out
    go_wp2_with fail
    refine bodyPost_ret (v := .tuple #[.slice (some ⟨g, 0, none⟩) n4 c4', .agg pk0, .bool false, .int .i64 0]) (fres4 Try.results29 _ _ _ _ _ _ _ rfl (frw_drew (pk_set7 HR7.out _ _ _ _ _ _ _)) Try.underlying61 rfl pk_info) rfl ⟨lp, j, HP.out, .inl ⟨by rw [HX.out, HY.out]; exact hWh.out, _, _, _, rfl, by rw [HX.out, HY.out]; exact ((HO6.out.but (pk_but7 (ButG.refl _ _) _ _ _ _ _ _ _).drew (fun a ha => by injection ha with ha; subst ha; show g ≠ _; omega)).mono (by omega)), hw6.trans ((pk_but7 (ButG.refl (w.heap.size + 1) w6) _ _ _ _ _ _ _).drew.below.mono (by omega))⟩⟩
  · have e6 : (y.ln == -1) = false := by simp [hln]
    by_cases hlt : (hd : Int) < y.ln
    · have e7 : decide ((hd : Int) < y.ln) = true := decide_eq_true hlt
      have hWh : Hid (frWhole y = false) := Lib.hid (by unfold frWhole; rw [HHD.out]; simp [hlt])
      clear hln
      go_wp2_with fail
      refine wp_region_seg (S := fun w' => Below w6.heap.size w6 w') 0 #[true, true, true, true, true, true, true, true, true, true, true, true, true, true] [(0, true), (1, true), (2, true), (3, true), (4, true), (5, true), (6, true), (7, true), (8, true), (9, true), (10, true), (11, true), (12, true), (13, true)] (by kernel_rfl) (by kernel_rfl) (fun _ _ d _ _ h => by first | (cases d <;> exact h) | cases h.1) ((Below.refl w6.heap.size w6).drew) ?_
      have HB := (Below.refl w6.heap.size w6).drew
      iterate 6 (refine seg_take (v := ?_) rfl (Or.inl ⟨by rfl, ?_⟩) ?_; rotate_left; (focus (intro w' hw'; have j9 := (hw'.cell (p := ⟨g, j * 262 + 260, none⟩) hg6).trans cl; go_simp <;> with_reducible rfl)); try simp only [Act.put, List.setIfInBounds_toArray, List.set_cons_zero, List.set_cons_succ])
      iterate 1 ((first | refine seg_take (v := undef) rfl (Or.inr ⟨by rfl, rfl⟩) ?_ | (refine seg_take (v := ?_) rfl (Or.inl ⟨by rfl, ?_⟩) ?_; rotate_left; (focus (intro w' hw'; have j9 := (hw'.cell (p := ⟨g, j * 262 + 260, none⟩) hg6).trans cl; go_simp <;> with_reducible rfl)))); try simp only [Act.put, List.setIfInBounds_toArray, List.set_cons_zero, List.set_cons_succ])
      refine seg_pure (v := .int .i64 (hd : Int)) (f := ?_) (args := ?_) rfl (by rfl) (fun w' hw' => ?_) (fun w' hw' => ?_) ?_
      rotate_left 2
      focus (have j9 := (hw'.cell (p := ⟨g, j * 262 + 260, none⟩) hg6).trans cl; go_simp <;> first | (refine ⟨?_, ?_⟩ <;> with_reducible rfl) | with_reducible rfl)
      focus (exact (C9.out w' (HIN6.out.up hw')).mono (fun e w1 h => ⟨h.1, h.2.symm⟩))
      try simp only [Act.put, List.setIfInBounds_toArray, List.set_cons_zero, List.set_cons_succ]
      iterate 5 ((first | refine seg_take (v := undef) rfl (Or.inr ⟨by rfl, rfl⟩) ?_ | (refine seg_take (v := ?_) rfl (Or.inl ⟨by rfl, ?_⟩) ?_; rotate_left; (focus (intro w' hw'; have j9 := (hw'.cell (p := ⟨g, j * 262 + 260, none⟩) hg6).trans cl; go_simp <;> with_reducible rfl)))); try simp only [Act.put, List.setIfInBounds_toArray, List.set_cons_zero, List.set_cons_succ])
      iterate 1 (refine seg_take (v := ?_) rfl (Or.inl ⟨by rfl, ?_⟩) ?_; rotate_left; (focus (intro w' hw'; have j9 := (hw'.cell (p := ⟨g, j * 262 + 260, none⟩) hg6).trans cl; go_simp <;> with_reducible rfl)); try simp only [Act.put, List.setIfInBounds_toArray, List.set_cons_zero, List.set_cons_succ])
      refine seg_done (fun _ => ?_)
      refine wpAnyH_done (by kernel_rfl) ?_ _
      obtain ⟨⟨c0, c1, c2, c3, c4, c5, c6⟩, cf⟩ := pk_open HR7.out
      go_wp2_with fail
      refine bodyPost_ret (v := .tuple #[.slice (some ⟨g, 0, none⟩) n4 c4', .agg pk0, .bool false, .int .i64 0]) (fres4 Try.results29 _ _ _ _ _ _ _ rfl (frw_drew (pk_set7 HR7.out _ _ _ _ _ _ _)) Try.underlying61 rfl pk_info) rfl ⟨lp, j, HP.out, .inl ⟨by rw [HX.out, HY.out]; exact hWh.out, _, _, _, rfl, by rw [HX.out, HY.out]; exact ((HO6.out.but (pk_but7 (ButG.refl _ _) _ _ _ _ _ _ _).drew (fun a ha => by injection ha with ha; subst ha; show g ≠ _; omega)).mono (by omega)), hw6.trans ((pk_but7 (ButG.refl (w.heap.size + 1) w6) _ _ _ _ _ _ _).drew.below.mono (by omega))⟩⟩
    · have e7 : decide ((hd : Int) < y.ln) = false := decide_eq_false hlt
      have hWh : Hid (frWhole y = true) := Lib.hid (by unfold frWhole; rw [HHD.out]; simp [hlt, hln])
      have hl0 : (0 : Int) ≤ y.ln := by omega
      obtain ⟨L, hL⟩ : ∃ L : Nat, y.ln = (L : Int) := ⟨y.ln.toNat, by omega⟩
      have HRB : Hid (RdB w6 (some ⟨g, j * 262 + 4, none⟩) L 128 (y.D.take L)) := Lib.hid (dv_rd HIN6.out hyok L (by omega))
      rw [hL] at cl e6 e7
      have e10 : (0 : Int) ≤ (L : Int) := by omega
      have e11 : (L : Int) ≤ 128 := by omega
      have e12 : decide (hd < L) = false := decide_eq_false (by omega)
      have HLL := Lib.hid hL
      clear hL
      clear hln
      go_wp2_with fail
      refine wp_region_seg (S := fun w' => Below w6.heap.size w6 w') 0 #[true, true, true, true, true, true, true, true, true, true, true, true, true, true] [(0, true), (1, true), (2, true), (3, true), (4, true), (5, true), (6, true), (7, true), (8, true), (9, true), (10, true), (11, true), (12, true), (13, true)] (by kernel_rfl) (by kernel_rfl) (fun _ _ d _ _ h => by first | (cases d <;> exact h) | cases h.1) ((Below.refl w6.heap.size w6).drew) ?_
      have HB := (Below.refl w6.heap.size w6).drew
      iterate 6 (refine seg_take (v := ?_) rfl (Or.inl ⟨by rfl, ?_⟩) ?_; rotate_left; (focus (intro w' hw'; have j9 := (hw'.cell (p := ⟨g, j * 262 + 260, none⟩) hg6).trans cl; go_simp <;> with_reducible rfl)); try simp only [Act.put, List.setIfInBounds_toArray, List.set_cons_zero, List.set_cons_succ])
      iterate 1 ((first | refine seg_take (v := undef) rfl (Or.inr ⟨by rfl, rfl⟩) ?_ | (refine seg_take (v := ?_) rfl (Or.inl ⟨by rfl, ?_⟩) ?_; rotate_left; (focus (intro w' hw'; have j9 := (hw'.cell (p := ⟨g, j * 262 + 260, none⟩) hg6).trans cl; go_simp <;> with_reducible rfl)))); try simp only [Act.put, List.setIfInBounds_toArray, List.set_cons_zero, List.set_cons_succ])
      refine seg_pure (v := .int .i64 (hd : Int)) (f := ?_) (args := ?_) rfl (by rfl) (fun w' hw' => ?_) (fun w' hw' => ?_) ?_
      rotate_left 2
      focus (have j9 := (hw'.cell (p := ⟨g, j * 262 + 260, none⟩) hg6).trans cl; go_simp <;> first | (refine ⟨?_, ?_⟩ <;> with_reducible rfl) | with_reducible rfl)
      focus (exact (C9.out w' (HIN6.out.up hw')).mono (fun e w1 h => ⟨h.1, h.2.symm⟩))
      try simp only [Act.put, List.setIfInBounds_toArray, List.set_cons_zero, List.set_cons_succ]
      iterate 5 ((first | refine seg_take (v := undef) rfl (Or.inr ⟨by rfl, rfl⟩) ?_ | (refine seg_take (v := ?_) rfl (Or.inl ⟨by rfl, ?_⟩) ?_; rotate_left; (focus (intro w' hw'; have j9 := (hw'.cell (p := ⟨g, j * 262 + 260, none⟩) hg6).trans cl; go_simp <;> with_reducible rfl)))); try simp only [Act.put, List.setIfInBounds_toArray, List.set_cons_zero, List.set_cons_succ])
      iterate 1 (refine seg_take (v := ?_) rfl (Or.inl ⟨by rfl, ?_⟩) ?_; rotate_left; (focus (intro w' hw'; have j9 := (hw'.cell (p := ⟨g, j * 262 + 260, none⟩) hg6).trans cl; go_simp <;> with_reducible rfl)); try simp only [Act.put, List.setIfInBounds_toArray, List.set_cons_zero, List.set_cons_succ])
      refine seg_done (fun _ => ?_)
      refine wpAnyH_done (by kernel_rfl) ?_ _
      go_wp2_with fail
      obtain ⟨⟨c0, c1, c2, c3, c4, c5, c6⟩, cf⟩ := pk_open qP6.out
      have lw6 : w.heap.size < w6.heap.size := by omega
      refine wp_region_seg (S := fun w' => Below w6.heap.size w6 w') 4 #[true, true, true, true, true, true, true, true, true, true, true, true, true, true, true, true, false, false, false, false] [(0, true), (1, true), (2, true), (3, true), (4, true), (5, true), (6, true), (7, true), (8, true), (9, true), (10, true), (11, true), (12, true), (13, true), (14, true), (15, true)] (by kernel_rfl) (by kernel_rfl) (fun _ _ d _ _ h => by first | (cases d <;> exact h) | cases h.1) ((Below.refl w6.heap.size w6).drew.drew) ?_
      have HB := (Below.refl w6.heap.size w6).drew.drew
      iterate 16 (refine seg_take (v := ?_) rfl (Or.inl ⟨by rfl, ?_⟩) ?_; rotate_left; (focus (intro w' hw'; have j0 := (hw'.cell (p := ⟨w.heap.size, 0, none⟩) lw6).trans c0; have j3 := (hw'.cell (p := ⟨w.heap.size, 3, none⟩) lw6).trans c3; have j4 := (hw'.cell (p := ⟨w.heap.size, 4, none⟩) lw6).trans c4; have j5 := (hw'.cell (p := ⟨w.heap.size, 5, none⟩) lw6).trans c5; have j9 := (hw'.cell (p := ⟨g, j * 262 + 260, none⟩) hg6).trans cl; go_simp <;> with_reducible rfl)); try simp only [Act.put, List.setIfInBounds_toArray, List.set_cons_zero, List.set_cons_succ])
      refine seg_done (fun _ => ?_)
      refine wpAnyH_two (i := 16) (j := 18) (f := 3) (by kernel_rfl) ?_ ?_
      · skip
        refine op_run rfl (fun K hK => ?_)
        go_simp
        refine (clone18_any (some ⟨g, j * 262 + 4, none⟩) L 128 (y.D.take L) _ (HRB.out.below HB) (by omega)).mono ?_
        rintro e wC ⟨AC, nC, cC, rfl, oC, hbC⟩
        have OC := Lib.hid (oC.mono (base' := w.heap.size) (by have := HB.size; omega))
        have HB := below_then HB hbC
        try (have QX := Lib.hid (frw_up QX.out hbC); obtain ⟨⟨x0, x1, x2, x3, x4, x5, x6⟩, xf⟩ := pk_open QX.out)
        clear oC
        refine hK.out _ _ (HB) ?_
        clear hK
        try simp only [Act.put, List.setIfInBounds_toArray, List.set_cons_zero, List.set_cons_succ]
        refine wpAnyH_seg (by kernel_rfl) (fun _ _ d _ _ h => by first | (cases d <;> exact h) | cases h.1) 0 #[true, true, true, true, true, true, true, true, true, true, true, true, true, true, true, true, true, true, true, true] [(17, true), (18, false), (19, false)] _ _ _ (by kernel_rfl) (HB) ?_
        iterate 1 (refine seg_take (v := ?_) rfl (Or.inl ⟨by rfl, ?_⟩) ?_; rotate_left; (focus (intro w' hw'; have j0 := (hw'.cell (p := ⟨w.heap.size, 0, none⟩) lw6).trans c0; have j3 := (hw'.cell (p := ⟨w.heap.size, 3, none⟩) lw6).trans c3; have j4 := (hw'.cell (p := ⟨w.heap.size, 4, none⟩) lw6).trans c4; have j5 := (hw'.cell (p := ⟨w.heap.size, 5, none⟩) lw6).trans c5; have j9 := (hw'.cell (p := ⟨g, j * 262 + 260, none⟩) hg6).trans cl; go_simp <;> with_reducible rfl)); try simp only [Act.put, List.setIfInBounds_toArray, List.set_cons_zero, List.set_cons_succ])
        refine seg_run rfl (fun K hK => ?_)
        rw [if_pos (by rfl)]
        refine op_pkNew rfl ?_
        intro X pX hpX qX hbX
        have HGX := Nat.le_trans HB.size (Nat.le_of_eq hpX.symm)
        clear hpX
        have QX := Lib.hid qX
        have HB := below_then HB hbX
        try have OC := Lib.hid (OC.out.below hbX)
        obtain ⟨⟨x0, x1, x2, x3, x4, x5, x6⟩, xf⟩ := pk_open QX.out
        clear qX hbX
        refine hK.out _ _ (HB) ?_
        clear hK
        try simp only [Act.put, List.setIfInBounds_toArray, List.set_cons_zero, List.set_cons_succ]
        refine seg_run rfl (fun K hK => ?_)
        go_simp
        refine named_k ?_
        intro Y hY
        have QY := Lib.hid (pk_row7e QX.out hY)
        have hbY := pk_but7e hY
        have OC := Lib.hid (OC.out.butT hbY QX.out (by decide))
        have HB := HB.trans (hbY.below.mono HGX)
        clear hY hbY
        refine hK.out _ _ (HB) ?_
        clear hK
        try simp only [Act.put, List.setIfInBounds_toArray, List.set_cons_zero, List.set_cons_succ]
        refine seg_done (fun _ => ?_)
        refine wpAnyH_done (by kernel_rfl) ?_ _
        have OY := HO6.out.up HB
        have HRY := Lib.hid (frw_up HR7.out HB)
        have HROWY := Lib.hid (HROW6.out.up HB)
        have zY := HB.size
        have HB18 := HB
        have e13 : IntKind.i64.wrap ((j : Int) + 1) = (j : Int) + 1 := IntWalk.i64_in _ (by omega)
        clear x0 x1 x2 x3 x4 x5 x6 xf c0 c1 c2 c3 c4 c5 c6 cf
        go_wp2_with fail
        refine wp_region_seg (S := fun w' => w'.heap[pX]? = Y.heap[pX]?) 0 #[true, true, true, true, true, true, true, true, true, true] [(0, true), (1, true), (2, true), (3, true), (5, true), (4, false), (6, true), (7, false), (8, true), (9, true)] (by kernel_rfl) (by kernel_rfl) (fun _ _ d _ _ h => by first | (cases d <;> exact h) | cases h.1) ((Eq.refl (Y.heap[pX]?))) ?_
        have HB := (Eq.refl (Y.heap[pX]?))
        iterate 5 (refine seg_take (v := ?_) rfl (Or.inl ⟨by rfl, ?_⟩) ?_; rotate_left; (focus (intro w' hw'; obtain ⟨⟨j0, j1, j2, j3, j4, j5, j6⟩, jf⟩ := pk_open (hw'.trans QY.out); go_simp <;> with_reducible rfl)); try simp only [Act.put, List.setIfInBounds_toArray, List.set_cons_zero, List.set_cons_succ])
        refine seg_run rfl (fun K hK => ?_)
        go_simp
        refine (delFr_any w3.heap.size (some ⟨g, 0, none⟩) n4 c4' (lp.set j y) j Y.drew OY hj (by omega) mm hmm).mono ?_
        rintro e wD ⟨rfl, oD, bD, eD⟩
        have HBD : ButG g Y wD := butg_del bD eD hbg rfl rfl rfl rfl
        have HB := HBD.other pX (by omega) (frw_lt QY.out)
        obtain ⟨⟨x0, x1, x2, x3, x4, x5, x6⟩, xf⟩ := pk_open (HBD.row (by omega) HRY.out)
        refine hK.out _ _ (HB) ?_
        clear hK
        try simp only [Act.put, List.setIfInBounds_toArray, List.set_cons_zero, List.set_cons_succ]
        iterate 1 (refine seg_take (v := ?_) rfl (Or.inl ⟨by rfl, ?_⟩) ?_; rotate_left; (focus (intro w' hw'; obtain ⟨⟨j0, j1, j2, j3, j4, j5, j6⟩, jf⟩ := pk_open (hw'.trans QY.out); go_simp <;> with_reducible rfl)); try simp only [Act.put, List.setIfInBounds_toArray, List.set_cons_zero, List.set_cons_succ])
        refine seg_run rfl (fun K hK => ?_)
        go_simp
        refine named_k ?_
        intro Z hZ
        have hbZ := pk_but7e hZ
        have HRZ := Lib.hid (pk_row7e (HBD.row (by omega) HRY.out) hZ)
        have HB := (hbZ.other pX (by omega) (frw_lt (HBD.row (by omega) QY.out))).trans HB
        clear hZ
        refine hK.out _ _ (HB) ?_
        clear hK
        try simp only [Act.put, List.setIfInBounds_toArray, List.set_cons_zero, List.set_cons_succ]
        iterate 2 (refine seg_take (v := ?_) rfl (Or.inl ⟨by rfl, ?_⟩) ?_; rotate_left; (focus (intro w' hw'; obtain ⟨⟨j0, j1, j2, j3, j4, j5, j6⟩, jf⟩ := pk_open (hw'.trans QY.out); go_simp <;> with_reducible rfl)); try simp only [Act.put, List.setIfInBounds_toArray, List.set_cons_zero, List.set_cons_succ])
        refine seg_done (fun _ => ?_)
        refine wpAnyH_done (by kernel_rfl) ?_ _
        clear x0 x1 x2 x3 x4 x5 x6 xf
        go_wp2_with fail
        refine bodyPost_ret (v := .tuple #[.slice (some ⟨g, 0, none⟩) mm c4', .agg #[.int .u16 (id : Int), .bool false, .int .i64 0, .int .i64 proto, .int .u32 (src : Int), .int .u32 (dst : Int), .slice AC nC cC], .bool true, .int .i64 0]) (fres4 Try.results29 _ _ _ _ _ _ _ rfl HRZ.out Try.underlying61 rfl pk_info) rfl ⟨lp, j, HP.out, .inr ⟨by rw [HX.out, HY.out]; exact hWh.out, _, _, _, _, _, _, rfl, ?_, ?_, ?_⟩⟩
        · rw [List.take_set_of_le (Nat.le_refl j), List.drop_set_of_lt (Nat.lt_succ_self j)] at oD
          exact (oD.but hbZ (fun a ha => by injection ha with ha; subst ha; show g ≠ _; omega)).mono (by omega)
        · rw [HX.out, HY.out, HLL.out]
          exact (OC.out.butT HBD HROWY.out (by decide)).butT hbZ (HBD.row (by omega) HRY.out) (by decide)
        · exact hw6.trans ((HB18.mono (by omega)).trans ((HBD.below.mono (by omega)).trans (hbZ.below.mono (by omega))))
      · skip
        refine op_run rfl (fun K hK => ?_)
        rw [if_pos (by rfl)]
        refine op_pkNew rfl ?_
        intro X pX hpX qX hbX
        have HGX := Nat.le_trans HB.size (Nat.le_of_eq hpX.symm)
        clear hpX
        have QX := Lib.hid qX
        have HB := below_then HB hbX
        try have OC := Lib.hid (OC.out.below hbX)
        obtain ⟨⟨x0, x1, x2, x3, x4, x5, x6⟩, xf⟩ := pk_open QX.out
        clear qX hbX
        refine hK.out _ _ (HB) ?_
        clear hK
        try simp only [Act.put, List.setIfInBounds_toArray, List.set_cons_zero, List.set_cons_succ]
        refine wpAnyH_seg (by kernel_rfl) (fun _ _ d _ _ h => by first | (cases d <;> exact h) | cases h.1) 0 #[true, true, true, true, true, true, true, true, true, true, true, true, true, true, true, true, true, true, true, true] [(16, false), (17, true), (19, false)] _ _ _ (by kernel_rfl) (HB) ?_
        refine seg_run rfl (fun K hK => ?_)
        go_simp
        refine (clone18_any (some ⟨g, j * 262 + 4, none⟩) L 128 (y.D.take L) _ (HRB.out.below HB) (by omega)).mono ?_
        rintro e wC ⟨AC, nC, cC, rfl, oC, hbC⟩
        have OC := Lib.hid (oC.mono (base' := w.heap.size) (by have := HB.size; omega))
        have HB := below_then HB hbC
        try (have QX := Lib.hid (frw_up QX.out hbC); obtain ⟨⟨x0, x1, x2, x3, x4, x5, x6⟩, xf⟩ := pk_open QX.out)
        clear oC
        refine hK.out _ _ (HB) ?_
        clear hK
        try simp only [Act.put, List.setIfInBounds_toArray, List.set_cons_zero, List.set_cons_succ]
        iterate 1 (refine seg_take (v := ?_) rfl (Or.inl ⟨by rfl, ?_⟩) ?_; rotate_left; (focus (intro w' hw'; have j0 := (hw'.cell (p := ⟨w.heap.size, 0, none⟩) lw6).trans c0; have j3 := (hw'.cell (p := ⟨w.heap.size, 3, none⟩) lw6).trans c3; have j4 := (hw'.cell (p := ⟨w.heap.size, 4, none⟩) lw6).trans c4; have j5 := (hw'.cell (p := ⟨w.heap.size, 5, none⟩) lw6).trans c5; have j9 := (hw'.cell (p := ⟨g, j * 262 + 260, none⟩) hg6).trans cl; go_simp <;> with_reducible rfl)); try simp only [Act.put, List.setIfInBounds_toArray, List.set_cons_zero, List.set_cons_succ])
        refine seg_run rfl (fun K hK => ?_)
        go_simp
        refine named_k ?_
        intro Y hY
        have QY := Lib.hid (pk_row7e QX.out hY)
        have hbY := pk_but7e hY
        have OC := Lib.hid (OC.out.butT hbY QX.out (by decide))
        have HB := HB.trans (hbY.below.mono HGX)
        clear hY hbY
        refine hK.out _ _ (HB) ?_
        clear hK
        try simp only [Act.put, List.setIfInBounds_toArray, List.set_cons_zero, List.set_cons_succ]
        refine seg_done (fun _ => ?_)
        refine wpAnyH_done (by kernel_rfl) ?_ _
        have OY := HO6.out.up HB
        have HRY := Lib.hid (frw_up HR7.out HB)
        have HROWY := Lib.hid (HROW6.out.up HB)
        have zY := HB.size
        have HB18 := HB
        have e13 : IntKind.i64.wrap ((j : Int) + 1) = (j : Int) + 1 := IntWalk.i64_in _ (by omega)
        clear x0 x1 x2 x3 x4 x5 x6 xf c0 c1 c2 c3 c4 c5 c6 cf
        go_wp2_with fail
        refine wp_region_seg (S := fun w' => w'.heap[pX]? = Y.heap[pX]?) 0 #[true, true, true, true, true, true, true, true, true, true] [(0, true), (1, true), (2, true), (3, true), (5, true), (4, false), (6, true), (7, false), (8, true), (9, true)] (by kernel_rfl) (by kernel_rfl) (fun _ _ d _ _ h => by first | (cases d <;> exact h) | cases h.1) ((Eq.refl (Y.heap[pX]?))) ?_
        have HB := (Eq.refl (Y.heap[pX]?))
        iterate 5 (refine seg_take (v := ?_) rfl (Or.inl ⟨by rfl, ?_⟩) ?_; rotate_left; (focus (intro w' hw'; obtain ⟨⟨j0, j1, j2, j3, j4, j5, j6⟩, jf⟩ := pk_open (hw'.trans QY.out); go_simp <;> with_reducible rfl)); try simp only [Act.put, List.setIfInBounds_toArray, List.set_cons_zero, List.set_cons_succ])
        refine seg_run rfl (fun K hK => ?_)
        go_simp
        refine (delFr_any w3.heap.size (some ⟨g, 0, none⟩) n4 c4' (lp.set j y) j Y.drew OY hj (by omega) mm hmm).mono ?_
        rintro e wD ⟨rfl, oD, bD, eD⟩
        have HBD : ButG g Y wD := butg_del bD eD hbg rfl rfl rfl rfl
        have HB := HBD.other pX (by omega) (frw_lt QY.out)
        obtain ⟨⟨x0, x1, x2, x3, x4, x5, x6⟩, xf⟩ := pk_open (HBD.row (by omega) HRY.out)
        refine hK.out _ _ (HB) ?_
        clear hK
        try simp only [Act.put, List.setIfInBounds_toArray, List.set_cons_zero, List.set_cons_succ]
        iterate 1 (refine seg_take (v := ?_) rfl (Or.inl ⟨by rfl, ?_⟩) ?_; rotate_left; (focus (intro w' hw'; obtain ⟨⟨j0, j1, j2, j3, j4, j5, j6⟩, jf⟩ := pk_open (hw'.trans QY.out); go_simp <;> with_reducible rfl)); try simp only [Act.put, List.setIfInBounds_toArray, List.set_cons_zero, List.set_cons_succ])
        refine seg_run rfl (fun K hK => ?_)
        go_simp
        refine named_k ?_
        intro Z hZ
        have hbZ := pk_but7e hZ
        have HRZ := Lib.hid (pk_row7e (HBD.row (by omega) HRY.out) hZ)
        have HB := (hbZ.other pX (by omega) (frw_lt (HBD.row (by omega) QY.out))).trans HB
        clear hZ
        refine hK.out _ _ (HB) ?_
        clear hK
        try simp only [Act.put, List.setIfInBounds_toArray, List.set_cons_zero, List.set_cons_succ]
        iterate 2 (refine seg_take (v := ?_) rfl (Or.inl ⟨by rfl, ?_⟩) ?_; rotate_left; (focus (intro w' hw'; obtain ⟨⟨j0, j1, j2, j3, j4, j5, j6⟩, jf⟩ := pk_open (hw'.trans QY.out); go_simp <;> with_reducible rfl)); try simp only [Act.put, List.setIfInBounds_toArray, List.set_cons_zero, List.set_cons_succ])
        refine seg_done (fun _ => ?_)
        refine wpAnyH_done (by kernel_rfl) ?_ _
        clear x0 x1 x2 x3 x4 x5 x6 xf
        go_wp2_with fail
        refine bodyPost_ret (v := .tuple #[.slice (some ⟨g, 0, none⟩) mm c4', .agg #[.int .u16 (id : Int), .bool false, .int .i64 0, .int .i64 proto, .int .u32 (src : Int), .int .u32 (dst : Int), .slice AC nC cC], .bool true, .int .i64 0]) (fres4 Try.results29 _ _ _ _ _ _ _ rfl HRZ.out Try.underlying61 rfl pk_info) rfl ⟨lp, j, HP.out, .inr ⟨by rw [HX.out, HY.out]; exact hWh.out, _, _, _, _, _, _, rfl, ?_, ?_, ?_⟩⟩
        · rw [List.take_set_of_le (Nat.le_refl j), List.drop_set_of_lt (Nat.lt_succ_self j)] at oD
          exact (oD.but hbZ (fun a ha => by injection ha with ha; subst ha; show g ≠ _; omega)).mono (by omega)
        · rw [HX.out, HY.out, HLL.out]
          exact (OC.out.butT HBD HROWY.out (by decide)).butT hbZ (HBD.row (by omega) HRY.out) (by decide)
        · exact hw6.trans ((HB18.mono (by omega)).trans ((HBD.below.mono (by omega)).trans (hbZ.below.mono (by omega))))
end Go.Proofs.Yteajboafcjeagaa
