/-
 Proved here, for the statement JournalTells:
 Layer 14: the laws' heads.
-/
import Derived.Test.YtpahicfnhhhifaaGreatGt29
set_option linter.unusedVariables false
set_option linter.unusedSimpArgs false
namespace Go.Proofs.YtpahicfnhhhifaaGreat
set_option maxRecDepth 20000
open Go.RowKit
set_option maxHeartbeats 8000000
theorem tick14 (w : World) : Calls Tryz.prog 45 #[.int .i64 5] w (RetV w (.agg #[.int .u64 3, .int .i64 1, .int .u64 5, .slice none 0 0])) := by
 go_enter Tryz.func45, Tryz.ntmps45
 go_wp2_with fail
 have hrow : (w.alloc (.cells #[.int .u64 3, .int .i64 1, .int .u64 5, .slice none 0 0] 49)).heap[w.heap.size]? = some (.cells #[.int .u64 3, .int .i64 1, .int .u64 5, .slice none 0 0] 49 (0, 0)) := drw_at _ rfl
 refine bodyPost_ret (results_cell_row Tryz.results45 _ _ w.heap.size 49 #[.int .u64 3, .int .i64 1, .int .u64 5, .slice none 0 0] (0, 0) _ rfl hrow Tryz.underlying49 rfl (by kernel_rfl)) rfl ?_
 exact ⟨rfl, (below_self w).alloc (Nat.le_refl _) _⟩
theorem wp_markL {ops : Array Oper} {rest : List Oper} {o : Oper} {a : Act} {w0 w : World} {Q : Exit → Act → World → Prop} (hgd : o.guard = none) (x : Operand) (ho : o.op = .convert 47 47 x) (g n c : Nat) (hx : a.eval x = .slice (some ⟨g, 0, none⟩) n c)
  (C : Array Value) (hw : w = w0.alloc (.cells C 5)) (hg : w0.heap.size = g) (xs : List UInt8) (hC : C.toList = xs.map vB) (hn : xs.length = n) (hc : n = c) (hm : n ≤ 1000)
  (h : ∀ w', RdB w' (some ⟨g, 0, none⟩) n c xs → Below w0.heap.size w0 w' → w'.heap.size = g + 1 → wpList Tryz.prog ops Q rest (a.put o.dst (.slice (some ⟨g, 0, none⟩) n c)) w') : wpList Tryz.prog ops Q (o :: rest) a w := by
 refine wpList_plain hgd fun K hK => ?_
 subst hw hg hc
 refine op_mark x ho w0.heap.size n n hx C (0, 0) (drw_at _ rfl) ((below_self w0).alloc (Nat.le_refl _) _) (Nat.le_refl _) (fun w' hs hb hj => hK _ _ (h w' (RdB.same ?_ hs) hb (by rw [hs.2]; simp)))
 have := Rd.new w0 C 5
 rw [hC] at this
 exact ⟨this, hn, Nat.le_refl _, by unfold maxLen; omega⟩
theorem jm_fresh {ops : Array Oper} {rest : List Oper} {o : Oper} {a : Act} {w : World} {Q : Exit → Act → World → Prop} {h : Nat} {m : Jm} (hz : m.z) (hgd : o.guard = none) (x y : Operand) (ho : o.op = .store 36 x y) (hx : a.eval x = .pointer (some ⟨h, 0, none⟩)) (hy : a.eval y = .agg (jmV m).toArray) (w0 : World) (hw : w = w0.alloc (.cells Tryz.zeroCells36 36)) (hh : w0.heap.size = h)
  (hK : ∀ X, Hid (JmAt X h m) → Below w0.heap.size w0 X → wpList Tryz.prog ops Q rest (a.put o.dst undef) X) : wpList Tryz.prog ops Q (o :: rest) a w := by
 subst hw
 have q : JmAt (w0.alloc (.cells Tryz.zeroCells36 36)) h jmZ := by rw [jmZ_zero]; exact jm_new _ hh
 exact jm_store hz jmZ_z hgd x y ho hx hy q (fun X zX qX bX nX => hK X (Lib.hid qX) (((below_self w0).alloc (Nat.le_refl _) _).trans (bX _ (by omega))))
def RetJv (P : Nat → Prop) (w : World) (J : Jn) (v : Value) (e : Ending) (w' : World) : Prop := ∃ m, e = .returned (.tuple #[.agg (jmV m).toArray, v]) ∧ JIn P w' m J ∧ Below w.heap.size w w'
theorem begin14 (P : Nat → Prop) (w : World) : Calls Tryz.prog 24 #[.int .u32 1, .int .i64 0, .agg (dgA hjB), .int .i64 2] w (RetJ P w hj0 0) := by
 have h := jrnBegin_any P 1 0 2 hjB w (by decide) (by decide) (by decide) hjB_len
 rw [hj_begin.1, hj_begin.2] at h
 exact h
theorem app14 (P : Nat → Prop) (m : Jm) (w : World) (hv : JIn P w m hj0) (hP : ∀ j, P j → j < w.heap.size) : Calls Tryz.prog 14 #[.agg (jmV m).toArray, .int .u32 9, .agg #[.int .u64 3, .int .i64 1, .int .u64 5, .slice none 0 0]] w (RetJ P w hj1 0) := by
 have h := jrnApp_any P m hj0 9 3 1 5 none 0 0 [] w hv hP (RdB.nilB w) (by decide) (by decide) (by decide) (by decide)
 rw [show ([] : List UInt8).length = 0 from rfl, hj_app.1, hj_app.2] at h
 exact h
theorem jm_over {ops : Array Oper} {rest : List Oper} {o : Oper} {a : Act} {w w0 : World} {Q : Exit → Act → World → Prop} {h : Nat} {m m' : Jm} (c : Obj) (hz : m.z) (hz' : m'.z) (hgd : o.guard = none) (x y : Operand) (ho : o.op = .store 36 x y) (hx : a.eval x = .pointer (some ⟨h, 0, none⟩)) (hy : a.eval y = .agg (jmV m).toArray) (hw : w = w0.alloc c) (q : JmAt w0 h m')
  (hK : ∀ X, X.heap.size = w0.heap.size + 1 → Hid (JmAt X h m) → X.heap[w0.heap.size]? = some c → (∀ B, B ≤ h → Below B w0 X) → (∀ j, j < w0.heap.size → j ≠ h → X.heap[j]? = w0.heap[j]?) → wpList Tryz.prog ops Q rest (a.put o.dst undef) X) : wpList Tryz.prog ops Q (o :: rest) a w := by
 subst hw
 have hlt := q.lt
 have q' : JmAt (w0.alloc c) h m' := drw_old _ q
 refine jm_store hz hz' hgd x y ho hx hy q' (fun X zX qX bX nX => hK X (by rw [zX]; simp) (Lib.hid qX) ((nX _ (by omega)).trans (drw_at _ rfl)) (fun B hB => ((Below.refl B w0).alloc (by omega) _).trans (bX B hB)) (fun j hj hne => (nX j hne).trans (((below_self w0).alloc (Nat.le_refl _) c).block j hj)))
theorem jm_fresh2 {ops : Array Oper} {rest : List Oper} {o : Oper} {a : Act} {w w0 : World} {Q : Exit → Act → World → Prop} {h : Nat} {m : Jm} (c : Obj) (hz : m.z) (hgd : o.guard = none) (x y : Operand) (ho : o.op = .store 36 x y) (hx : a.eval x = .pointer (some ⟨h, 0, none⟩)) (hy : a.eval y = .agg (jmV m).toArray) (hw : w = (w0.alloc (.cells Tryz.zeroCells36 36)).alloc c) (hh : w0.heap.size = h)
  (hK : ∀ X, X.heap.size = w0.heap.size + 2 → X.heap[w0.heap.size + 1]? = some c → Below w0.heap.size w0 X → wpList Tryz.prog ops Q rest (a.put o.dst undef) X) : wpList Tryz.prog ops Q (o :: rest) a w := by
 subst hw
 have q0 : JmAt (w0.alloc (.cells Tryz.zeroCells36 36)) h jmZ := by rw [jmZ_zero]; exact jm_new _ hh
 have hb0 : Below w0.heap.size w0 (w0.alloc (.cells Tryz.zeroCells36 36)) := (below_self w0).alloc (Nat.le_refl _) _
 refine jm_over c hz jmZ_z hgd x y ho hx hy rfl q0 (fun X zX qX cX bX nX => hK X (by rw [zX]; simp) (by simpa using cX) (hb0.trans (bX _ (by omega))))
def RetAkv (P : Nat → Prop) (w : World) (J : Jn) (x : Int) (xs : List UInt8) (f ok : Value) (e : Ending) (w' : World) : Prop := ∃ m A n c, e = .returned (.tuple #[.agg (jmV m).toArray, .agg #[.int .i64 x, .slice A n c], f, ok]) ∧ JIn P w' m J ∧ BIn P w' A n c xs ∧ Below w.heap.size w w'
theorem ask14 (P : Nat → Prop) (m : Jm) (J : Jn) (w : World) (hv : JIn P w m J) (hP : ∀ j, P j → j < w.heap.size) (J' : Jn) (x : Int) (xs : List UInt8) (f ok : Bool) (h : jnAsk J = (J', (x, xs), f, ok)) (vf vo : Value) (hf : vf = .bool f) (ho : vo = .bool ok) : Calls Tryz.prog 17 #[.agg (jmV m).toArray] w (RetAkv P w J' x xs vf vo) := by
 have hh := jrnAsk_any P m J w hv hP
 rw [h] at hh
 refine hh.mono ?_
 rintro e w' ⟨m', A, n, c, rfl, h1, h2, _, h3⟩
 exact ⟨m', A, n, c, by rw [hf, ho], h1, h2, h3⟩
theorem came14 (P : Nat → Prop) (m : Jm) (J J' : Jn) (w : World) (hv : JIn P w m J) (hP : ∀ j, P j → j < w.heap.size) (h : jnCameE J = 0 ∧ jnCame J true = J') (v : Value) (hz : v = .int .i64 0) : Calls Tryz.prog 20 #[.agg (jmV m).toArray, .bool true] w (RetJv P w J' v) := by
 have hh := jrnCame_any P m J true w hv hP
 rw [h.1, h.2] at hh
 rw [hz]; exact hh
theorem save14 (P : Nat → Prop) (m : Jm) (J J' : Jn) (A : Option Addr) (n cp : Nat) (st : List UInt8) (w : World) (hv : JIn P w m J) (hP : ∀ j, P j → j < w.heap.size) (hr : RdB w A n cp st) (er : Int) (h : jnSaveE J st = er ∧ jnSave J st = J') (v : Value) (hz : v = .int .i64 er) : Calls Tryz.prog 22 #[.agg (jmV m).toArray, .slice A n cp] w (RetJv P w J' v) := by
 have hh := jrnSave_any P m J A n cp st w hv hP hr
 rw [h.1, h.2] at hh
 rw [hz]; exact hh
theorem dk_overS {ops : Array Oper} {rest : List Oper} {o : Oper} {a : Act} {w : World} {Q : Exit → Act → World → Prop} {h : Nat} {AV BV : Array Value} {D : Dk} {P : Nat → Prop} (hgd : o.guard = none) (x z : Operand) (ho : o.op = .store 40 x z) (hx : a.eval x = .pointer (some ⟨h, 0, none⟩)) (hz : a.eval z = .agg AV) (hrow : w.heap[h]? = some (.cells BV 40 (0, 0))) (hB : BV.size = 2) (v : DkS P w AV D) (hP : P h)
  (hK : ∀ X, X.heap.size = w.heap.size → X.heap[h]? = some (.cells AV 40 (0, 0)) → DkS P X AV D → (∀ B, B ≤ h → Below B w X) → (∀ j, j ≠ h → X.heap[j]? = w.heap[j]?) → wpList Tryz.prog ops Q rest (a.put o.dst undef) X) : wpList Tryz.prog ops Q (o :: rest) a w :=
 dk_set (E := D) hgd x z ho hx hz hrow hB v.val (hK _ (by simp) (setRow_heap _ _ _ _ _ _ hrow) (v.to (Agr.set w AV hP) (fun _ h => .inl h)) (fun B hB => below_setRow (Below.refl _ _) hB _) (fun j hj => setRow_other _ _ _ _ hj))
def P14 (g2 h j : Nat) : Prop := j = g2 ∨ j = h
theorem OwR.head {w : World} {base : Nat} {A : Option Addr} {c : Nat} {r : Rc} (h : OwR w base A 1 c [r]) : ∃ g B m d, A = some ⟨g, 0, none⟩ ∧ g < w.heap.size ∧ 1 ≤ c ∧ (∀ i, i < 39 → w.cell? ⟨g, i, none⟩ = (rcV r B m d)[i]?) ∧ RdB w B m d r.b := by
 obtain ⟨us, ⟨h1, h2⟩, B, m, d, rest, hu, hok, hb, -, hr⟩ := h
 rcases h2 with ⟨-, e⟩ | ⟨g, cap, cur, hv, hg, hrow, hn, hcap, hsz, hcur⟩
 ·omega
 ·injection hv with hA hn1 hc
  refine ⟨g, B, m, d, hA, drw_lt hrow, by omega, fun i hi => ?_, hb⟩
  rw [cell_of_row w g i _ _ _ hrow]
  have hl := rcV_len r B m d hok.2.2.2.2.2.2
  have e1 : us[i]? = (rcV r B m d)[i]? := by rw [hu, List.getElem?_append_left (by rw [hl]; exact hi)]
  rw [← e1, ← hcur, List.getElem?_take, if_pos (by omega)]
  simp
theorem cut2 {G : Prop} {R : World → Jm → Prop} {P : World → Jm → Prop} (T : ∀ X m, R X m → P X m) (M : (∀ X m, R X m → P X m) → G) : G := M T
theorem heads14 (w : World) : Calls Tryz.prog 10 #[] w (RetV w (.bool true)) := by
 go_enter Tryz.func10, Tryz.ntmps10
 go_wp2_with (refine wp_markL rfl _ rfl w.heap.size 5 5 rfl _ rfl rfl hjS rfl rfl rfl (by omega) ?_; intro w1 r1 b1 z1)
 have hf := jrnFmt_any (some ⟨w.heap.size, 0, none⟩) 5 5 hjS 100 w1 r1 (by omega)
 rw [show jnFmtE hjS 100 = 0 from hjD_all.1, show jnFmt hjS 100 = hjD from rfl] at hf
 obtain ⟨v3, hv3⟩ : ∃ v : Value, v = .int .i64 0 := ⟨_, rfl⟩
 have H3 := Lib.hid hv3
 unfold RetDv at hf
 rw [← hv3] at hf
 clear hv3
 refine hf.mono ?_
 clear hf
 rintro e w2 ⟨A2, rfl, d2, b2⟩
 go_wp2_with (refine dk_fresh rfl _ _ rfl rfl rfl w2 rfl rfl d2 ?_; intro X2 q2 x2)
 have r2 := r1.below (below_then b2 x2)
 have hb := jrnBase_any (some ⟨w.heap.size, 0, none⟩) 5 5 hjS X2 r2 (by omega)
 rw [show jnBase hjS = hjB from rfl] at hb
 refine hb.mono ?_
 clear hb
 rintro e w3 ⟨rfl, b3⟩
 go_wp2_with fail
 obtain ⟨v5, H5⟩ : ∃ v : Value, Hid (v = .int .i64 0) := ⟨_, Lib.hid rfl⟩
 have hg : Calls Tryz.prog 24 #[.int .u32 1, .int .i64 0, .agg (dgA hjB), .int .i64 2] w3 (RetJv (fun j => j = w2.heap.size) w3 hj0 v5) := by rw [H5.out]; exact begin14 _ w3
 refine hg.mono ?_
 clear hg
 rintro e w4 ⟨m0, rfl, j0, b4⟩
 go_wp2_with (refine jm_fresh j0.z rfl _ _ rfl rfl rfl w4 rfl rfl ?_; intro X4 q4 x4)
 have J4 := Lib.hid (j0.more (P' := P14 w2.heap.size w4.heap.size) x4 (fun j hj => by rcases hj with e | e; exact .inl e; exact .inr (by omega)))
 have G24 : Hid (w2.heap.size < w4.heap.size) := Lib.hid (by have := q2.out.lt; have := b3.size; have := b4.size; omega)
 have lt4 : w4.heap.size < X4.heap.size := q4.out.lt
 obtain ⟨v6, H6⟩ : ∃ v : Value, Hid (v = .int .i64 0) := ⟨_, Lib.hid rfl⟩
 have Z0 := Lib.hid j0.z
 go_wp2_with fail
 apply cut2 (R := fun X m => Hid (JmAt X w4.heap.size m) ∧ Hid (JIn (P14 w2.heap.size w4.heap.size) X m hj1) ∧ Below w4.heap.size w4 X)
 rotate_left
 ·intro TL
  refine wp_region_seg (S := fun _ => True) 8 (brw9 8 0) [] (by kernel_rfl) (by kernel_rfl) (fun _ _ d _ _ h => by first | (cases d <;> exact h) | cases h.1) (trivial) ?_
  have HB := trivial
  refine seg_done (fun _ => ?_)
  refine wpAnyH_two (i := 0) (j := 1) (f := 7) (by kernel_rfl) ?_ ?_
  ·skip
   refine op_run rfl (fun K hK => ?_)
   rw [if_pos (by rfl)]
   refine wp_load_row 36 _ rfl w4.heap.size rfl 36 (jmV m0).toArray (0, 0) _ (by first | exact q4.out | exact qA) Tryz.underlying36 rfl (jm_info Z0.out) ?_
   refine hK.out _ _ (HB) ?_
   clear hK
   try simp only [Act.put, pst3]
   refine wpAnyH_seg (by kernel_rfl) (fun _ _ d _ _ h => by first | (cases d <;> exact h) | cases h.1) 0 (brw9 8 255) [(1, false), (2, false), (3, true), (4, true), (5, true), (6, false), (7, true)] _ _ _ (by kernel_rfl) (HB) ?_
   refine seg_run rfl (fun K hK => ?_)
   go_simp
   refine (tick14 _).mono ?_
   rintro e_ wA ⟨rfl, bA⟩
   have qA : JmAt wA w4.heap.size m0 := (bA.block _ lt4).trans q4.out
   refine hK.out _ _ (HB) ?_
   clear hK
   try simp only [Act.put, pst3]
   refine seg_run rfl (fun K hK => ?_)
   go_simp
   have ha : Calls Tryz.prog 14 #[.agg (jmV m0).toArray, .int .u32 9, .agg #[.int .u64 3, .int .i64 1, .int .u64 5, .slice none 0 0]] wA (RetJv (P14 w2.heap.size w4.heap.size) wA hj1 v6) := by rw [H6.out]; exact app14 _ m0 wA (J4.out.below (w' := wA) ⟨bA.os, bA.tape, bA.output, bA.size, bA.block⟩) (fun j hj => by have := qA.lt; have := G24.out; rcases hj with e | e <;> omega)
   refine ha.mono ?_
   clear ha
   rintro e_ wB ⟨m1, rfl, j1, bB⟩
   have qB := qA.up bB
   refine hK.out _ _ (HB) ?_
   clear hK
   try simp only [Act.put, pst3]
   iterate 3 (refine seg_take (v := ?_) rfl (Or.inl ⟨by rfl, ?_⟩) ?_; rotate_left; (focus (intro w' hw'; go_simp <;> with_reducible rfl)); try simp only [Act.put, pst3])
   refine seg_run rfl (fun K hK => ?_)
   rw [if_pos (by rfl)]
   refine op_jmst j1.z j0.z _ _ rfl rfl rfl qB ?_
   intro X5 zX5 q5 bX5 nX5
   refine hK.out _ _ (HB) ?_
   clear hK
   try simp only [Act.put, pst3]
   iterate 1 (refine seg_take (v := ?_) rfl (Or.inl ⟨by rfl, ?_⟩) ?_; rotate_left; (focus (intro w' hw'; go_simp <;> with_reducible rfl)); try simp only [Act.put, pst3])
   refine seg_done (fun _ => ?_)
   refine wpAnyH_done (by kernel_rfl) ?_ _
   have bq5 : Below w4.heap.size w4 X5 := x4.trans (((Below.refl _ X4).drew.trans (bA.mono (Nat.le_of_lt lt4))).trans ((bB.mono (Nat.le_of_lt qA.lt)).trans (bX5 _ (Nat.le_refl _))))
   have J5 := Lib.hid (j1.agr (AgrP.one (AgrP.refl _ _) (r := w4.heap.size) (Or.inr rfl) zX5 nX5))
   exact TL X5 m1 ⟨Lib.hid q5, J5, bq5⟩
  ·skip
   refine op_run rfl (fun K hK => ?_)
   go_simp
   refine (tick14 _).mono ?_
   rintro e_ wA ⟨rfl, bA⟩
   have qA : JmAt wA w4.heap.size m0 := (bA.block _ lt4).trans q4.out
   refine hK.out _ _ (HB) ?_
   clear hK
   try simp only [Act.put, pst3]
   refine wpAnyH_seg (by kernel_rfl) (fun _ _ d _ _ h => by first | (cases d <;> exact h) | cases h.1) 0 (brw9 8 255) [(0, false), (2, false), (3, true), (4, true), (5, true), (6, false), (7, true)] _ _ _ (by kernel_rfl) (HB) ?_
   refine seg_run rfl (fun K hK => ?_)
   rw [if_pos (by rfl)]
   refine wp_load_row 36 _ rfl w4.heap.size rfl 36 (jmV m0).toArray (0, 0) _ (by first | exact q4.out | exact qA) Tryz.underlying36 rfl (jm_info Z0.out) ?_
   refine hK.out _ _ (HB) ?_
   clear hK
   try simp only [Act.put, pst3]
   refine seg_run rfl (fun K hK => ?_)
   go_simp
   have ha : Calls Tryz.prog 14 #[.agg (jmV m0).toArray, .int .u32 9, .agg #[.int .u64 3, .int .i64 1, .int .u64 5, .slice none 0 0]] wA (RetJv (P14 w2.heap.size w4.heap.size) wA hj1 v6) := by rw [H6.out]; exact app14 _ m0 wA (J4.out.below (w' := wA) ⟨bA.os, bA.tape, bA.output, bA.size, bA.block⟩) (fun j hj => by have := qA.lt; have := G24.out; rcases hj with e | e <;> omega)
   refine ha.mono ?_
   clear ha
   rintro e_ wB ⟨m1, rfl, j1, bB⟩
   have qB := qA.up bB
   refine hK.out _ _ (HB) ?_
   clear hK
   try simp only [Act.put, pst3]
   iterate 3 (refine seg_take (v := ?_) rfl (Or.inl ⟨by rfl, ?_⟩) ?_; rotate_left; (focus (intro w' hw'; go_simp <;> with_reducible rfl)); try simp only [Act.put, pst3])
   refine seg_run rfl (fun K hK => ?_)
   rw [if_pos (by rfl)]
   refine op_jmst j1.z j0.z _ _ rfl rfl rfl qB ?_
   intro X5 zX5 q5 bX5 nX5
   refine hK.out _ _ (HB) ?_
   clear hK
   try simp only [Act.put, pst3]
   iterate 1 (refine seg_take (v := ?_) rfl (Or.inl ⟨by rfl, ?_⟩) ?_; rotate_left; (focus (intro w' hw'; go_simp <;> with_reducible rfl)); try simp only [Act.put, pst3])
   refine seg_done (fun _ => ?_)
   refine wpAnyH_done (by kernel_rfl) ?_ _
   have bq5 : Below w4.heap.size w4 X5 := x4.trans (((Below.refl _ X4).drew.trans (bA.mono (Nat.le_of_lt lt4))).trans ((bB.mono (Nat.le_of_lt qA.lt)).trans (bX5 _ (Nat.le_refl _))))
   have J5 := Lib.hid (j1.agr (AgrP.one (AgrP.refl _ _) (r := w4.heap.size) (Or.inr rfl) zX5 nX5))
   exact TL X5 m1 ⟨Lib.hid q5, J5, bq5⟩
 rintro X5 m1 ⟨q5, J5, bq5⟩
 clear J4 q4 x4 lt4
 have g24 : w2.heap.size < w4.heap.size := G24.out
 have p5 : ∀ j, P14 w2.heap.size w4.heap.size j → j < X5.heap.size := fun j hj => by have := q5.out.lt; rcases hj with e | e <;> omega
 obtain ⟨v8, H8⟩ : ∃ v : Value, Hid (v = .bool false) := ⟨_, Lib.hid rfl⟩
 obtain ⟨v9, H9⟩ : ∃ v : Value, Hid (v = .bool true) := ⟨_, Lib.hid rfl⟩
 have Z1 := Lib.hid J5.out.z
 have ha := Lib.hid (ask14 _ m1 hj1 X5 J5.out p5 _ _ _ _ _ hj_ask1 v8 v9 H8.out H9.out)
 go_wp2_with (refine jm_load Z1.out rfl _ rfl rfl q5.out ?_)
 refine ha.out.mono ?_
 clear ha
 rintro e w6 ⟨m2, A6, n6, c6, rfl, j2, s6, b6⟩
 have q6 := Lib.hid (q5.out.up b6)
 have Z2 := Lib.hid j2.z
 have L6 := Lib.hid q6.out.lt
 go_wp2_with (first | (refine jm_over (w0 := w6) _ Z2.out Z1.out rfl _ _ rfl rfl rfl rfl q6.out ?_; intro V6 zV6 qV6 cV6 bV6 nV6; have cZ6 : Hid (JbZ V6 w6.heap.size) := Lib.hid cV6; clear cV6) | (refine jb_store rfl _ _ rfl rfl 98 A6 n6 c6 rfl cZ6.out ?_; intro X6 zX6 qx6 bX6 nX6; have q7 : Hid (JmAt X6 w4.heap.size m2) := Lib.hid ((nX6 _ (by have := L6.out; omega)).trans qV6.out)) | (refine jm_load Z2.out rfl _ rfl rfl q7.out ?_))
 have a6 : AgrP (P14 w2.heap.size w4.heap.size) w6 X6 := ⟨by omega, fun j hj hn => (nX6 j (by omega)).trans (nV6 j hj (fun e => hn (Or.inr e)))⟩
 have J6 := Lib.hid (j2.agr a6)
 have s7 := Lib.hid (s6.agr a6)
 have bq6 : Below w4.heap.size w4 X6 := bq5.trans ((b6.mono (Nat.le_of_lt q5.out.lt)).trans ((bV6 _ (Nat.le_refl _)).trans (bX6 _ (Nat.le_of_lt L6.out))))
 have gx : w4.heap.size < w6.heap.size := L6.out
 have Qx := Lib.hid qx6
 clear qx6 cZ6 nX6 nV6 bX6 bV6 a6 j2 s6 qV6
 have p6 : ∀ j, P14 w2.heap.size w4.heap.size j → j < X6.heap.size := fun j hj => by rcases hj with e | e <;> omega
 obtain ⟨v12, H12⟩ : ∃ v : Value, Hid (v = .bool false) := ⟨_, Lib.hid rfl⟩
 obtain ⟨v13, H13⟩ : ∃ v : Value, Hid (v = .bool false) := ⟨_, Lib.hid rfl⟩
 have ha := ask14 _ m2 hj2 X6 J6.out p6 _ _ _ _ _ hj_ask2 v12 v13 H12.out H13.out
 refine ha.mono ?_
 clear ha
 rintro e w7 ⟨m3, A7, n7, c7, rfl, j3, s3, b7⟩
 have Z3 := Lib.hid j3.z
 go_wp2_with (first | (refine jm_fresh2 (w0 := w7) _ Z3.out rfl _ _ rfl rfl rfl rfl rfl ?_; intro V7 zV7 cV7 bV7; have cZ7 : Hid (JbZ V7 (w7.heap.size + 1)) := Lib.hid cV7; clear cV7) | (refine jb_store rfl _ _ rfl rfl 0 A7 n7 c7 rfl cZ7.out ?_; intro X7 zX7 qx7 bX7 nX7; have q8 : Hid (JmAt X7 w4.heap.size m2) := Lib.hid ((nX7 _ (by have := q7.out.lt; have := b7.size; omega)).trans ((bV7.block _ (by have := q7.out.lt; have := b7.size; omega)).trans (q7.out.up b7)))) | (refine jm_load Z2.out rfl _ rfl rfl q8.out ?_))
 have bx7 : Below X6.heap.size X6 X7 := below_then b7 (bV7.trans (bX7 _ (by omega)))
 have J7 := Lib.hid (J6.out.below bx7)
 have s8 := Lib.hid (s7.out.below bx7)
 have Qx7 := Lib.hid (drw_up Qx.out bx7)
 have bq7 : Below w4.heap.size w4 X7 := bq6.trans (bx7.mono (Nat.le_of_lt q7.out.lt))
 clear qx7 cZ7 nX7 bX7 bV7 j3 s3 Qx J6 s7 bq6 q7 b7
 have p7 : ∀ j, P14 w2.heap.size w4.heap.size j → j < X7.heap.size := fun j hj => by have := q8.out.lt; rcases hj with e | e <;> omega
 obtain ⟨v14, H14⟩ : ∃ v : Value, Hid (v = .int .i64 0) := ⟨_, Lib.hid rfl⟩
 have ha := came14 _ m2 hj2 hj3 X7 J7.out p7 hj_came2 v14 H14.out
 refine ha.mono ?_
 clear ha
 rintro e w8 ⟨m4, rfl, j4, b8⟩
 have Z4 := Lib.hid j4.z
 have q8' := Lib.hid (q8.out.up b8)
 go_wp2_with (first | (refine jm_store Z4.out Z2.out rfl _ _ rfl rfl rfl q8'.out ?_; intro X8 zX8 qX8 bX8 nX8; have q9 := Lib.hid qX8) | (refine jm_load Z4.out rfl _ rfl rfl q9.out ?_))
 have a8 : AgrP (P14 w2.heap.size w4.heap.size) w8 X8 := AgrP.one (AgrP.refl _ _) (r := w4.heap.size) (Or.inr rfl) zX8 nX8
 have J8 := Lib.hid (j4.agr a8)
 have s9 := Lib.hid ((s8.out.below b8).agr a8)
 have Qx8 := Lib.hid ((nX8 _ (by omega)).trans (drw_up Qx7.out b8))
 have bq8 : Below w4.heap.size w4 X8 := bq7.trans ((b8.mono (Nat.le_of_lt q8.out.lt)).trans (bX8 _ (Nat.le_refl _)))
 clear qX8 bX8 nX8 a8 j4 s8 Qx7 J7 bq7 q8 q8' b8 bx7
 have p8 : ∀ j, P14 w2.heap.size w4.heap.size j → j < X8.heap.size := fun j hj => by have := q9.out.lt; rcases hj with e | e <;> omega
 obtain ⟨v16, H16⟩ : ∃ v : Value, Hid (v = .bool true) := ⟨_, Lib.hid rfl⟩
 obtain ⟨v17, H17⟩ : ∃ v : Value, Hid (v = .bool true) := ⟨_, Lib.hid rfl⟩
 have ha := ask14 _ m4 hj3 X8 J8.out p8 _ _ _ _ _ hj_ask3 v16 v17 H16.out H17.out
 refine ha.mono ?_
 clear ha
 rintro e w9 ⟨m5, A9, n9, c9, rfl, j5, s5, b9⟩
 have Z5 := Lib.hid j5.z
 have q9' := Lib.hid (q9.out.up b9)
 have L9 := Lib.hid q9'.out.lt
 go_wp2_with (first | (refine jm_over (w0 := w9) _ Z5.out Z4.out rfl _ _ rfl rfl rfl rfl q9'.out ?_; intro V9 zV9 qV9 cV9 bV9 nV9; have cZ9 : Hid (JbZ V9 w9.heap.size) := Lib.hid cV9; clear cV9) | (refine jb_store rfl _ _ rfl rfl 0 A9 n9 c9 rfl cZ9.out ?_; intro X9 zX9 qx9 bX9 nX9; have q10 : Hid (JmAt X9 w4.heap.size m5) := Lib.hid ((nX9 _ (by have := L9.out; omega)).trans qV9.out)) | (refine jm_load Z5.out rfl _ rfl rfl q10.out ?_))
 have a9 : AgrP (P14 w2.heap.size w4.heap.size) w9 X9 := ⟨by omega, fun j hj hn => (nX9 j (by omega)).trans (nV9 j hj (fun e => hn (Or.inr e)))⟩
 have J9 := Lib.hid (j5.agr a9)
 have s10 := Lib.hid ((s9.out.below b9).agr a9)
 have l89 := b9.size
 have Qx9 := Lib.hid ((nX9 _ (by have := drw_lt Qx8.out; omega)).trans ((nV9 _ (by have := drw_lt Qx8.out; omega) (by omega)).trans (drw_up Qx8.out b9)))
 have bq9 : Below w4.heap.size w4 X9 := bq8.trans ((b9.mono (Nat.le_of_lt q9.out.lt)).trans ((bV9 _ (Nat.le_refl _)).trans (bX9 _ (Nat.le_of_lt L9.out))))
 clear qx9 cZ9 nX9 nV9 bX9 bV9 a9 j5 s5 Qx8 J8 s9 bq8 q9 q9' b9 qV9
 have p9 : ∀ j, P14 w2.heap.size w4.heap.size j → j < X9.heap.size := fun j hj => by have := q10.out.lt; rcases hj with e | e <;> omega
 obtain ⟨v18, H18⟩ : ∃ v : Value, Hid (v = .int .i64 0) := ⟨_, Lib.hid rfl⟩
 have ha := came14 _ m5 hj4 hj5 X9 J9.out p9 hj_came4 v18 H18.out
 refine ha.mono ?_
 clear ha
 rintro e w10 ⟨m6, rfl, j6, b10⟩
 have Z6 := Lib.hid j6.z
 have q10' := Lib.hid (q10.out.up b10)
 have vd4 := Lib.hid ((q2.out.up b3).up b4)
 have bq9' := Lib.hid (bq9.trans (b10.mono (Nat.le_of_lt q10.out.lt)))
 have Qx10' := Lib.hid (drw_up Qx9.out b10)
 go_wp2_with (first | (refine jm_store Z6.out Z5.out rfl _ _ rfl rfl rfl q10'.out ?_; intro X10 zX10 qX10 bX10 nX10; have q11 := Lib.hid qX10; have bq10 := Lib.hid (bq9'.out.trans (bX10 _ (Nat.le_refl _))); have vd10 := Lib.hid (vd4.out.up bq10.out); have Qx10 := (nX10 w6.heap.size (by omega)).trans Qx10'.out; have cx0 := (cell_of_row X10 w6.heap.size 0 _ _ _ Qx10).trans (show (#[.int .i64 98, .slice A6 n6 c6] : Array Value)[0]? = some (.int .i64 98) from rfl); have cx1 := (cell_of_row X10 w6.heap.size 1 _ _ _ Qx10).trans (show (#[.int .i64 98, .slice A6 n6 c6] : Array Value)[1]? = some (.slice A6 n6 c6) from rfl)) | (refine dk_load rfl _ rfl rfl vd10.out ?_))
 have a10 : AgrP (P14 w2.heap.size w4.heap.size) w10 X10 := AgrP.one (AgrP.refl _ _) (r := w4.heap.size) (Or.inr rfl) zX10 nX10
 have J10 := Lib.hid (j6.agr a10)
 have s11 := Lib.hid ((s10.out.below b10).agr a10)
 have bw2 : Below w2.heap.size w2 w4 := below_then (below_then x2 b3) b4
 have dk10 := Lib.hid (d2.ins (P := P14 w2.heap.size w4.heap.size) (bw2.trans (bq10.out.mono (Nat.le_of_lt g24))) (fun j hj => by rcases hj with e | e <;> omega))
 have QX10 := Lib.hid Qx10
 have g60 : w6.heap.size < X10.heap.size := drw_lt Qx10
 clear qX10 bX10 nX10 a10 j6 s10 Qx9 Qx10' Qx10 J9 bq9 bq9' q10 q10' b10 cx0 cx1
 have p10 : ∀ j, P14 w2.heap.size w4.heap.size j → j < X10.heap.size := fun j hj => by have := q11.out.lt; rcases hj with e | e <;> omega
 obtain ⟨v19, H19⟩ : ∃ v : Value, Hid (v = .int .i64 0) := ⟨_, Lib.hid rfl⟩
 have ha := vRWriteS dk10.out p10 98 A6 n6 c6 hjb (by omega) s11.out.now
 rw [show dkWriteE hjD 98 hjb = 0 from hjD2_all.1, show dkWrite hjD 98 hjb = hjD2 from rfl, ← H19.out] at ha
 refine ha.mono ?_
 clear ha
 rintro e w11 ⟨A11, rfl, d11, b11⟩
 have D11 := Lib.hid d11
 have r11 := Lib.hid (drw_up vd10.out.1 b11)
 have sz2 := Lib.hid vd10.out.2.size
 go_wp2_with (first | (refine dk_overS rfl _ _ rfl rfl rfl r11.out sz2.out D11.out (Or.inl rfl) ?_; intro X11 zX11 rX11 dX11 bX11 nX11; have vd11 := Lib.hid (show DkV X11 w2.heap.size A11 hjD2 from ⟨rX11, dX11.val⟩)) | (refine dk_load rfl _ rfl rfl vd11.out ?_))
 have a11 : AgrP (P14 w2.heap.size w4.heap.size) w11 X11 := AgrP.one (AgrP.refl _ _) (r := w2.heap.size) (Or.inl rfl) zX11 nX11
 have J11 := Lib.hid ((J10.out.below b11).agr a11)
 have q12 : Hid (JmAt X11 w4.heap.size m6) := Lib.hid ((nX11 _ (by omega)).trans (q11.out.up b11))
 have Qx11 := Lib.hid ((nX11 w6.heap.size (by omega)).trans (drw_up QX10.out b11))
 have bq11 : Below w2.heap.size w2 X11 := (bw2.trans (bq10.out.mono (Nat.le_of_lt g24))).trans ((b11.mono (by have := p10 _ (Or.inl rfl); omega)).trans (bX11 _ (Nat.le_refl _)))
 have l11 : X10.heap.size ≤ X11.heap.size := by have := b11.size; omega
 clear rX11 dX11 bX11 nX11 a11 J10 s11 dk10 QX10 p10 d11 b11 D11 r11 q11 bq10 vd10
 obtain ⟨v23, H23⟩ : ∃ v : Value, Hid (v = .int .i64 0) := ⟨_, Lib.hid rfl⟩
 obtain ⟨S, HS⟩ : ∃ S : Su, Hid (S = ⟨1, 0, 5, hjB⟩) := ⟨_, Lib.hid rfl⟩
 have ha := jrnLoad_any A11 hjD2 X11 vd11.out.2
 refine ha.mono ?_
 clear ha
 rintro e w12 ⟨hl, -⟩
 have hl2 := hl hj_load.1
 clear hl
 rw [hj_load.2.2.1, hj_load.2.2.2, hj_load.2.1, ← HS.out] at hl2
 obtain ⟨At, nt, ct, Br, mr, dr, he, ot, or_, b12⟩ := hl2
 rw [← H23.out] at he
 subst he
 obtain rfl : nt = 5 := by rw [← ot.len]; rfl
 obtain rfl : mr = 1 := by rw [← or_.len]; rfl
 have HSl : Hid (S.D.length = 32) := Lib.hid (by rw [HS.out]; exact hjB_len)
 have q12' := Lib.hid (q12.out.up b12)
 have HAV := Lib.hid (allocZ w12)
 have OT := Lib.hid ot
 have OR := Lib.hid or_
 clear ot or_
 go_wp2_with (first | (refine su_store rfl _ _ rfl w12.heap.size rfl S suZ rfl HAV.out HSl.out suZ_len ?_; obtain ⟨V12, hV⟩ : ∃ V, V = (w12.alloc (.cells zz1 33)).setRow w12.heap.size S.v := ⟨_, rfl⟩; rw [← hV]; obtain ⟨hrV, hbV, hzV⟩ := storedZ _ hV; have HRV := Lib.hid hrV; have q13 := Lib.hid (q12'.out.up hbV); have HZ := Lib.hid hzV; clear hV hrV hzV) | (refine jm_load Z6.out rfl _ rfl rfl q13.out ?_) | (refine wp_markL (w0 := V12) rfl _ rfl V12.heap.size 3 3 rfl _ rfl rfl hjT rfl rfl rfl (by omega) ?_; intro w13 r13 b13 z13))
 have bX13 : Below X11.heap.size X11 w13 := below_then (below_then b12 hbV) b13
 have J13 := Lib.hid (J11.out.below bX13)
 have q14 := Lib.hid (q13.out.up b13)
 have p13 : ∀ j, P14 w2.heap.size w4.heap.size j → j < w13.heap.size := fun j hj => by have := q14.out.lt; rcases hj with e | e <;> omega
 obtain ⟨v25, H25⟩ : ∃ v : Value, Hid (v = .int .i64 0) := ⟨_, Lib.hid rfl⟩
 have ha := save14 _ m6 hj5 hjW _ 3 3 hjT w13 J13.out p13 r13 0 hj_save5 v25 H25.out
 refine ha.mono ?_
 clear ha
 rintro e w14 ⟨m7, rfl, j7, b14⟩
 have Z7 := Lib.hid j7.z
 have K7 := Lib.hid j7
 clear j7 r13 z13 p13
 go_wp2_with (first | (refine jm_fresh Z7.out rfl _ _ rfl rfl rfl w14 rfl rfl ?_; intro X14 q15 x14) | (refine jm_load Z7.out rfl _ rfl rfl q15.out ?_))
 have J14 := Lib.hid (K7.out.below x14)
 have p14 : ∀ j, P14 w2.heap.size w4.heap.size j → j < X14.heap.size := fun j hj => by have := (q14.out.up (below_then b14 x14)).lt; rcases hj with e | e <;> omega
 obtain ⟨v27, H27⟩ : ∃ v : Value, Hid (v = .int .i64 8) := ⟨_, Lib.hid rfl⟩
 have ha := save14 _ m7 hjW _ none 0 0 [] X14 J14.out p14 (RdB.nilB _) 8 ⟨hj_saveW, rfl⟩ v27 H27.out
 refine ha.mono ?_
 clear ha
 rintro e w15 ⟨m8, rfl, j8, b15⟩
 have Z8 := Lib.hid j8.z
 clear j8
 go_wp2_with (refine jm_fresh Z8.out rfl _ _ rfl rfl rfl w15 rfl rfl ?_; intro X q16 x15)
 have bXV : Below V12.heap.size V12 X := below_then (below_then (below_then (below_then b13 b14) x14) b15) x15
 have bX12 : Below w12.heap.size w12 X := below_then hbV bXV
 have bX11 : Below X11.heap.size X11 X := below_then b12 bX12
 have bXE : Below X14.heap.size X14 X := below_then b15 x15
 have bw : Below w.heap.size w X := below_then (below_then b1 b2) (bq11.trans (bX11.mono (by have := q12.out.lt; omega)))
 have c60 := (cell_of_row X w6.heap.size 0 _ _ _ (drw_up Qx11.out bX11)).trans (show (#[.int .i64 98, .slice A6 n6 c6] : Array Value)[0]? = some (.int .i64 98) from rfl)
 have QF := q12.out.up bX11
 have m6e := J13.out.2.1
 have ch3 : X.cell? ⟨w4.heap.size, 3, none⟩ = some (.int .u32 1) := QF.c3.trans (by rw [show m6.done = hj5.done from congrArg Jn.done m6e]; rfl)
 have ch38 : X.cell? ⟨w4.heap.size, 38, none⟩ = some (.int .i64 0) := (QF.c38 Z6.out).trans (by rw [show m6.ph = hj5.ph from congrArg Jn.ph m6e]; rfl)
 have cs0 : X.cell? ⟨w12.heap.size, 0, none⟩ = some (.int .u32 1) := (Su.cell0 (drw_up HRV.out bXV)).trans (by rw [HS.out]; rfl)
 have ks := (OT.out.rd.below bX12).str
 rw [show strOf hjS = (⟨#[115, 116, 97, 116, 101]⟩ : ByteArray) from rfl] at ks
 obtain ⟨gr, Be, me, de, rfl, hgr, hdr, hcr, hbr⟩ := (OR.out.below bX12).head
 have cr2 := (hcr 2 (by omega)).trans (show _ = some (.int .u32 9) from rfl)
 have cr3 := (hcr 3 (by omega)).trans (show _ = some (.int .u64 3) from rfl)
 have cr4 := (hcr 4 (by omega)).trans (show _ = some (.int .i64 1) from rfl)
 have cr5 := (hcr 5 (by omega)).trans (show _ = some (.int .u64 5) from rfl)
 have cr6 := (hcr 6 (by omega)).trans (show _ = some (.slice Be me de) from rfl)
 have QW := q15.out.up bXE
 have m7e := J14.out.2.1
 rw [hjW_eq] at m7e
 have cw0 : X.cell? ⟨w14.heap.size, 0, none⟩ = some (.int .u32 2) := QW.c0.trans (by rw [show m7.g = 2 from congrArg Jn.g m7e]; rfl)
 have cw1 : X.cell? ⟨w14.heap.size, 1, none⟩ = some (.int .i64 1) := QW.c1.trans (by rw [show m7.slot = 1 from congrArg Jn.slot m7e])
 have cw38 : X.cell? ⟨w14.heap.size, 38, none⟩ = some (.int .i64 3) := (QW.c38 Z7.out).trans (by rw [show m7.ph = 3 from congrArg Jn.ph m7e])
 have JX := Lib.hid (J14.out.below bXE)
 obtain ⟨usj, hwj⟩ := JX.out.2.2.2.now
 have hjn : m7.jn = 1 := by rw [← hwj.len]; rfl
 have cw39 : X.cell? ⟨w14.heap.size, 39, none⟩ = some (.slice m7.ja 1 m7.jc) := (QW.c39 Z7.out).trans (by rw [hjn])
 obtain ⟨bj, oj, Bj, mj, dj, hja, hbj, cj0, -, -, -⟩ := hwj.at_ 0 (by omega)
 rw [show (hjW.jobs.getD 0 (0, [])).1 = 50 from rfl] at cj0
 rw [hja] at cw39
 rw [show oj + 0 * 2 = oj by omega] at cj0
 have hjc := hwj.2.2.1
 rw [hjn] at hjc
 have CW := Lib.hid (jrnCheck_any _ m7 hjW X JX.out)
 rw [hjW_chk] at CW
 have QW' := Lib.hid QW
 have HBR := Lib.hid hbr
 clear hcr hbr m6e m7e hwj QW QF
 have hBX : ∀ w', Below X.heap.size X w' → (w'.cell? ⟨w6.heap.size, 0, none⟩ = some (.int .i64 98) ∧ w'.cell? ⟨w4.heap.size, 3, none⟩ = some (.int .u32 1) ∧ w'.cell? ⟨w4.heap.size, 38, none⟩ = some (.int .i64 0) ∧ w'.cell? ⟨w12.heap.size, 0, none⟩ = some (.int .u32 1)) ∧ ((convert 47 9 (.slice At 5 ct)).run Tryz.prog w' = .ok (.string (⟨#[115, 116, 97, 116, 101]⟩ : ByteArray)) w' ∧ w'.cell? ⟨gr, 2, none⟩ = some (.int .u32 9) ∧ w'.cell? ⟨gr, 3, none⟩ = some (.int .u64 3) ∧ w'.cell? ⟨gr, 4, none⟩ = some (.int .i64 1) ∧ w'.cell? ⟨gr, 5, none⟩ = some (.int .u64 5) ∧ w'.cell? ⟨gr, 6, none⟩ = some (.slice Be me de)) ∧ (w'.cell? ⟨w14.heap.size, 0, none⟩ = some (.int .u32 2) ∧ w'.cell? ⟨w14.heap.size, 1, none⟩ = some (.int .i64 1) ∧ w'.cell? ⟨w14.heap.size, 38, none⟩ = some (.int .i64 3) ∧ w'.cell? ⟨w14.heap.size, 39, none⟩ = some (.slice (some ⟨bj, oj, none⟩) 1 m7.jc) ∧ w'.cell? ⟨bj, oj, none⟩ = some (.int .i64 50)) := by
  intro w' hb
  have u : ∀ (b i : Nat) (v : Value), b < X.heap.size → X.cell? ⟨b, i, none⟩ = some v → w'.cell? ⟨b, i, none⟩ = some v := fun b i v hlt hc => (World.cell?_of_block (hb.block b hlt)).trans hc
  have l4 := (q12.out.up bX11).lt
  have l6 := drw_lt (drw_up Qx11.out bX11)
  have l12 := drw_lt (drw_up HRV.out bXV)
  have l14 := QW'.out.lt
  have k := (OT.out.rd.below (below_then bX12 hb)).str
  exact ⟨⟨u _ _ _ l6 c60, u _ _ _ l4 ch3, u _ _ _ l4 ch38, u _ _ _ l12 cs0⟩, ⟨k, u _ _ _ hgr cr2, u _ _ _ hgr cr3, u _ _ _ hgr cr4, u _ _ _ hgr cr5, u _ _ _ hgr cr6⟩, u _ _ _ l14 cw0, u _ _ _ l14 cw1, u _ _ _ l14 cw38, u _ _ _ l14 cw39, u _ _ _ hbj cj0⟩
 have HBX := Lib.hid hBX
 have HW := Lib.hid bw
 clear hBX bw c60 ch3 ch38 cs0 ks cr2 cr3 cr4 cr5 cr6 cw0 cw1 cw38 cw39 cj0 hjn hja hbj p14 bXV bX12 bX11 bXE HS HSl OT OR Qx11 HRV q12 q13 q14 q12' l11 bq11 g60 gx l89 zX6 zX7 zX8 zX9 zX10 zX11 zV6 zV7 zV9 J11 J13 J14 K7 HAV L9 L6 HZ b12 hbV b13 b14 x14 b15 x15 bX13 bw2 g24 vd4 r2 q2 d2 b2 x2 b3 b4 r1 b1 z1 G24 vd11 sz2
 obtain rfl := H3.out
 obtain rfl := H5.out
 obtain rfl := H6.out
 obtain rfl := H8.out
 obtain rfl := H9.out
 obtain rfl := H12.out
 obtain rfl := H13.out
 obtain rfl := H14.out
 obtain rfl := H16.out
 obtain rfl := H17.out
 obtain rfl := H18.out
 obtain rfl := H19.out
 obtain rfl := H23.out
 obtain rfl := H25.out
 obtain rfl := H27.out
 go_wp2_with fail
 as_aux_lemma =>
  refine wp_region_seg (S := fun w' => Below X.heap.size X w') 109 (brw9 125 65535) [(0, true), (1, true), (2, true), (3, true), (4, true), (5, true), (6, true), (7, true), (8, true), (9, true), (10, true), (11, true), (12, true), (13, true), (14, true), (15, true)] (by kernel_rfl) (by kernel_rfl) (fun _ _ d _ _ h => by first | (cases d <;> exact h) | cases h.1) ((Below.refl _ X).drew) ?_
  iterate 3 (refine seg_take (v := ?_) rfl (Or.inl ⟨by rfl, ?_⟩) ?_; rotate_left; (focus (intro w' hw'; obtain ⟨⟨a, b, c, d⟩, ⟨e, f, g, h, i, j⟩, k, l, m, n, o⟩ := HBX.out w' hw'; go_simp <;> with_reducible rfl)); try simp only [Act.put, pst3])
  iterate 2 ((first | refine seg_take (v := undef) rfl (Or.inr ⟨by rfl, by rfl⟩) ?_ | (refine seg_take (v := ?_) rfl (Or.inl ⟨by rfl, ?_⟩) ?_; rotate_left; (focus (intro w' hw'; obtain ⟨⟨a, b, c, d⟩, ⟨e, f, g, h, i, j⟩, k, l, m, n, o⟩ := HBX.out w' hw'; go_simp <;> with_reducible rfl)))); try simp only [Act.put, pst3])
  iterate 2 (refine seg_take (v := ?_) rfl (Or.inl ⟨by rfl, ?_⟩) ?_; rotate_left; (focus (intro w' hw'; obtain ⟨⟨a, b, c, d⟩, ⟨e, f, g, h, i, j⟩, k, l, m, n, o⟩ := HBX.out w' hw'; go_simp <;> with_reducible rfl)); try simp only [Act.put, pst3])
  iterate 2 ((first | refine seg_take (v := undef) rfl (Or.inr ⟨by rfl, by rfl⟩) ?_ | (refine seg_take (v := ?_) rfl (Or.inl ⟨by rfl, ?_⟩) ?_; rotate_left; (focus (intro w' hw'; obtain ⟨⟨a, b, c, d⟩, ⟨e, f, g, h, i, j⟩, k, l, m, n, o⟩ := HBX.out w' hw'; go_simp <;> with_reducible rfl)))); try simp only [Act.put, pst3])
  iterate 2 (refine seg_take (v := ?_) rfl (Or.inl ⟨by rfl, ?_⟩) ?_; rotate_left; (focus (intro w' hw'; obtain ⟨⟨a, b, c, d⟩, ⟨e, f, g, h, i, j⟩, k, l, m, n, o⟩ := HBX.out w' hw'; go_simp <;> with_reducible rfl)); try simp only [Act.put, pst3])
  iterate 3 ((first | refine seg_take (v := undef) rfl (Or.inr ⟨by rfl, by rfl⟩) ?_ | (refine seg_take (v := ?_) rfl (Or.inl ⟨by rfl, ?_⟩) ?_; rotate_left; (focus (intro w' hw'; obtain ⟨⟨a, b, c, d⟩, ⟨e, f, g, h, i, j⟩, k, l, m, n, o⟩ := HBX.out w' hw'; go_simp <;> with_reducible rfl)))); try simp only [Act.put, pst3])
  iterate 2 (refine seg_take (v := ?_) rfl (Or.inl ⟨by rfl, ?_⟩) ?_; rotate_left; (focus (intro w' hw'; obtain ⟨⟨a, b, c, d⟩, ⟨e, f, g, h, i, j⟩, k, l, m, n, o⟩ := HBX.out w' hw'; go_simp <;> with_reducible rfl)); try simp only [Act.put, pst3])
  refine seg_done (fun HBq => ?_)
  as_aux_lemma =>
   refine wpAnyH_seg (by kernel_rfl) (fun _ _ d _ _ h => by first | (cases d <;> exact h) | cases h.1) 93 (brw9 125 4294967295) [(16, true), (17, true), (18, true), (19, true), (20, true), (21, true), (22, true), (23, true), (24, true), (25, true), (26, true), (27, true), (28, true), (29, true), (30, true), (31, true)] _ _ _ (by kernel_rfl) (HBq) ?_
   iterate 2 ((first | refine seg_take (v := undef) rfl (Or.inr ⟨by rfl, by rfl⟩) ?_ | (refine seg_take (v := ?_) rfl (Or.inl ⟨by rfl, ?_⟩) ?_; rotate_left; (focus (intro w' hw'; obtain ⟨⟨a, b, c, d⟩, ⟨e, f, g, h, i, j⟩, k, l, m, n, o⟩ := HBX.out w' hw'; go_simp <;> with_reducible rfl)))); try simp only [Act.put, pst3])
   iterate 2 (refine seg_take (v := ?_) rfl (Or.inl ⟨by rfl, ?_⟩) ?_; rotate_left; (focus (intro w' hw'; obtain ⟨⟨a, b, c, d⟩, ⟨e, f, g, h, i, j⟩, k, l, m, n, o⟩ := HBX.out w' hw'; go_simp <;> with_reducible rfl)); try simp only [Act.put, pst3])
   iterate 1 ((first | refine seg_take (v := undef) rfl (Or.inr ⟨by rfl, by rfl⟩) ?_ | (refine seg_take (v := ?_) rfl (Or.inl ⟨by rfl, ?_⟩) ?_; rotate_left; (focus (intro w' hw'; obtain ⟨⟨a, b, c, d⟩, ⟨e, f, g, h, i, j⟩, k, l, m, n, o⟩ := HBX.out w' hw'; go_simp <;> with_reducible rfl)))); try simp only [Act.put, pst3])
   iterate 2 (refine seg_take (v := ?_) rfl (Or.inl ⟨by rfl, ?_⟩) ?_; rotate_left; (focus (intro w' hw'; obtain ⟨⟨a, b, c, d⟩, ⟨e, f, g, h, i, j⟩, k, l, m, n, o⟩ := HBX.out w' hw'; go_simp <;> with_reducible rfl)); try simp only [Act.put, pst3])
   iterate 2 ((first | refine seg_take (v := undef) rfl (Or.inr ⟨by rfl, by rfl⟩) ?_ | (refine seg_take (v := ?_) rfl (Or.inl ⟨by rfl, ?_⟩) ?_; rotate_left; (focus (intro w' hw'; obtain ⟨⟨a, b, c, d⟩, ⟨e, f, g, h, i, j⟩, k, l, m, n, o⟩ := HBX.out w' hw'; go_simp <;> with_reducible rfl)))); try simp only [Act.put, pst3])
   iterate 2 (refine seg_take (v := ?_) rfl (Or.inl ⟨by rfl, ?_⟩) ?_; rotate_left; (focus (intro w' hw'; obtain ⟨⟨a, b, c, d⟩, ⟨e, f, g, h, i, j⟩, k, l, m, n, o⟩ := HBX.out w' hw'; go_simp <;> with_reducible rfl)); try simp only [Act.put, pst3])
   iterate 2 ((first | refine seg_take (v := undef) rfl (Or.inr ⟨by rfl, by rfl⟩) ?_ | (refine seg_take (v := ?_) rfl (Or.inl ⟨by rfl, ?_⟩) ?_; rotate_left; (focus (intro w' hw'; obtain ⟨⟨a, b, c, d⟩, ⟨e, f, g, h, i, j⟩, k, l, m, n, o⟩ := HBX.out w' hw'; go_simp <;> with_reducible rfl)))); try simp only [Act.put, pst3])
   iterate 2 (refine seg_take (v := ?_) rfl (Or.inl ⟨by rfl, ?_⟩) ?_; rotate_left; (focus (intro w' hw'; obtain ⟨⟨a, b, c, d⟩, ⟨e, f, g, h, i, j⟩, k, l, m, n, o⟩ := HBX.out w' hw'; go_simp <;> with_reducible rfl)); try simp only [Act.put, pst3])
   iterate 1 ((first | refine seg_take (v := undef) rfl (Or.inr ⟨by rfl, by rfl⟩) ?_ | (refine seg_take (v := ?_) rfl (Or.inl ⟨by rfl, ?_⟩) ?_; rotate_left; (focus (intro w' hw'; obtain ⟨⟨a, b, c, d⟩, ⟨e, f, g, h, i, j⟩, k, l, m, n, o⟩ := HBX.out w' hw'; go_simp <;> with_reducible rfl)))); try simp only [Act.put, pst3])
   refine seg_done (fun HBq => ?_)
   as_aux_lemma =>
    refine wpAnyH_seg (by kernel_rfl) (fun _ _ d _ _ h => by first | (cases d <;> exact h) | cases h.1) 77 (brw9 125 281474976710655) [(32, true), (33, true), (34, true), (35, true), (36, true), (37, true), (38, true), (39, true), (40, true), (41, true), (42, true), (43, true), (44, true), (45, true), (46, true), (47, true)] _ _ _ (by kernel_rfl) (HBq) ?_
    iterate 2 (refine seg_take (v := ?_) rfl (Or.inl ⟨by rfl, ?_⟩) ?_; rotate_left; (focus (intro w' hw'; obtain ⟨⟨a, b, c, d⟩, ⟨e, f, g, h, i, j⟩, k, l, m, n, o⟩ := HBX.out w' hw'; go_simp <;> with_reducible rfl)); try simp only [Act.put, pst3])
    iterate 1 ((first | refine seg_take (v := undef) rfl (Or.inr ⟨by rfl, by rfl⟩) ?_ | (refine seg_take (v := ?_) rfl (Or.inl ⟨by rfl, ?_⟩) ?_; rotate_left; (focus (intro w' hw'; obtain ⟨⟨a, b, c, d⟩, ⟨e, f, g, h, i, j⟩, k, l, m, n, o⟩ := HBX.out w' hw'; go_simp <;> with_reducible rfl)))); try simp only [Act.put, pst3])
    iterate 2 (refine seg_take (v := ?_) rfl (Or.inl ⟨by rfl, ?_⟩) ?_; rotate_left; (focus (intro w' hw'; obtain ⟨⟨a, b, c, d⟩, ⟨e, f, g, h, i, j⟩, k, l, m, n, o⟩ := HBX.out w' hw'; go_simp <;> with_reducible rfl)); try simp only [Act.put, pst3])
    iterate 2 ((first | refine seg_take (v := undef) rfl (Or.inr ⟨by rfl, by rfl⟩) ?_ | (refine seg_take (v := ?_) rfl (Or.inl ⟨by rfl, ?_⟩) ?_; rotate_left; (focus (intro w' hw'; obtain ⟨⟨a, b, c, d⟩, ⟨e, f, g, h, i, j⟩, k, l, m, n, o⟩ := HBX.out w' hw'; go_simp <;> with_reducible rfl)))); try simp only [Act.put, pst3])
    iterate 2 (refine seg_take (v := ?_) rfl (Or.inl ⟨by rfl, ?_⟩) ?_; rotate_left; (focus (intro w' hw'; obtain ⟨⟨a, b, c, d⟩, ⟨e, f, g, h, i, j⟩, k, l, m, n, o⟩ := HBX.out w' hw'; go_simp <;> with_reducible rfl)); try simp only [Act.put, pst3])
    iterate 3 ((first | refine seg_take (v := undef) rfl (Or.inr ⟨by rfl, by rfl⟩) ?_ | (refine seg_take (v := ?_) rfl (Or.inl ⟨by rfl, ?_⟩) ?_; rotate_left; (focus (intro w' hw'; obtain ⟨⟨a, b, c, d⟩, ⟨e, f, g, h, i, j⟩, k, l, m, n, o⟩ := HBX.out w' hw'; go_simp <;> with_reducible rfl)))); try simp only [Act.put, pst3])
    iterate 2 (refine seg_take (v := ?_) rfl (Or.inl ⟨by rfl, ?_⟩) ?_; rotate_left; (focus (intro w' hw'; obtain ⟨⟨a, b, c, d⟩, ⟨e, f, g, h, i, j⟩, k, l, m, n, o⟩ := HBX.out w' hw'; go_simp <;> with_reducible rfl)); try simp only [Act.put, pst3])
    iterate 2 ((first | refine seg_take (v := undef) rfl (Or.inr ⟨by rfl, by rfl⟩) ?_ | (refine seg_take (v := ?_) rfl (Or.inl ⟨by rfl, ?_⟩) ?_; rotate_left; (focus (intro w' hw'; obtain ⟨⟨a, b, c, d⟩, ⟨e, f, g, h, i, j⟩, k, l, m, n, o⟩ := HBX.out w' hw'; go_simp <;> with_reducible rfl)))); try simp only [Act.put, pst3])
    refine seg_done (fun HBq => ?_)
    as_aux_lemma =>
     refine wpAnyH_seg (by kernel_rfl) (fun _ _ d _ _ h => by first | (cases d <;> exact h) | cases h.1) 61 (brw9 125 18446744073709551615) [(48, true), (49, true), (50, true), (51, true), (52, true), (53, true), (54, true), (55, true), (56, true), (57, true), (58, true), (59, true), (60, true), (61, true), (62, true), (63, true)] _ _ _ (by kernel_rfl) (HBq) ?_
     iterate 1 ((first | refine seg_take (v := undef) rfl (Or.inr ⟨by rfl, by rfl⟩) ?_ | (refine seg_take (v := ?_) rfl (Or.inl ⟨by rfl, ?_⟩) ?_; rotate_left; (focus (intro w' hw'; obtain ⟨⟨a, b, c, d⟩, ⟨e, f, g, h, i, j⟩, k, l, m, n, o⟩ := HBX.out w' hw'; go_simp <;> with_reducible rfl)))); try simp only [Act.put, pst3])
     iterate 2 (refine seg_take (v := ?_) rfl (Or.inl ⟨by rfl, ?_⟩) ?_; rotate_left; (focus (intro w' hw'; obtain ⟨⟨a, b, c, d⟩, ⟨e, f, g, h, i, j⟩, k, l, m, n, o⟩ := HBX.out w' hw'; go_simp <;> with_reducible rfl)); try simp only [Act.put, pst3])
     iterate 2 ((first | refine seg_take (v := undef) rfl (Or.inr ⟨by rfl, by rfl⟩) ?_ | (refine seg_take (v := ?_) rfl (Or.inl ⟨by rfl, ?_⟩) ?_; rotate_left; (focus (intro w' hw'; obtain ⟨⟨a, b, c, d⟩, ⟨e, f, g, h, i, j⟩, k, l, m, n, o⟩ := HBX.out w' hw'; go_simp <;> with_reducible rfl)))); try simp only [Act.put, pst3])
     iterate 2 (refine seg_take (v := ?_) rfl (Or.inl ⟨by rfl, ?_⟩) ?_; rotate_left; (focus (intro w' hw'; obtain ⟨⟨a, b, c, d⟩, ⟨e, f, g, h, i, j⟩, k, l, m, n, o⟩ := HBX.out w' hw'; go_simp <;> with_reducible rfl)); try simp only [Act.put, pst3])
     iterate 2 ((first | refine seg_take (v := undef) rfl (Or.inr ⟨by rfl, by rfl⟩) ?_ | (refine seg_take (v := ?_) rfl (Or.inl ⟨by rfl, ?_⟩) ?_; rotate_left; (focus (intro w' hw'; obtain ⟨⟨a, b, c, d⟩, ⟨e, f, g, h, i, j⟩, k, l, m, n, o⟩ := HBX.out w' hw'; go_simp <;> with_reducible rfl)))); try simp only [Act.put, pst3])
     iterate 2 (refine seg_take (v := ?_) rfl (Or.inl ⟨by rfl, ?_⟩) ?_; rotate_left; (focus (intro w' hw'; obtain ⟨⟨a, b, c, d⟩, ⟨e, f, g, h, i, j⟩, k, l, m, n, o⟩ := HBX.out w' hw'; go_simp <;> with_reducible rfl)); try simp only [Act.put, pst3])
     iterate 3 ((first | refine seg_take (v := undef) rfl (Or.inr ⟨by rfl, by rfl⟩) ?_ | (refine seg_take (v := ?_) rfl (Or.inl ⟨by rfl, ?_⟩) ?_; rotate_left; (focus (intro w' hw'; obtain ⟨⟨a, b, c, d⟩, ⟨e, f, g, h, i, j⟩, k, l, m, n, o⟩ := HBX.out w' hw'; go_simp <;> with_reducible rfl)))); try simp only [Act.put, pst3])
     iterate 2 (refine seg_take (v := ?_) rfl (Or.inl ⟨by rfl, ?_⟩) ?_; rotate_left; (focus (intro w' hw'; obtain ⟨⟨a, b, c, d⟩, ⟨e, f, g, h, i, j⟩, k, l, m, n, o⟩ := HBX.out w' hw'; go_simp <;> with_reducible rfl)); try simp only [Act.put, pst3])
     refine seg_done (fun HBq => ?_)
     as_aux_lemma =>
      refine wpAnyH_seg (by kernel_rfl) (fun _ _ d _ _ h => by first | (cases d <;> exact h) | cases h.1) 45 (brw9 125 1208925819614629174706175) [(64, true), (65, true), (66, true), (67, true), (68, true), (69, true), (70, true), (71, true), (72, true), (73, false), (74, false), (75, true), (76, true), (77, true), (78, true), (79, true)] _ _ _ (by kernel_rfl) (HBq) ?_
      iterate 3 ((first | refine seg_take (v := undef) rfl (Or.inr ⟨by rfl, by rfl⟩) ?_ | (refine seg_take (v := ?_) rfl (Or.inl ⟨by rfl, ?_⟩) ?_; rotate_left; (focus (intro w' hw'; obtain ⟨⟨a, b, c, d⟩, ⟨e, f, g, h, i, j⟩, k, l, m, n, o⟩ := HBX.out w' hw'; go_simp <;> with_reducible rfl)))); try simp only [Act.put, pst3])
      iterate 2 (refine seg_take (v := ?_) rfl (Or.inl ⟨by rfl, ?_⟩) ?_; rotate_left; (focus (intro w' hw'; obtain ⟨⟨a, b, c, d⟩, ⟨e, f, g, h, i, j⟩, k, l, m, n, o⟩ := HBX.out w' hw'; go_simp <;> with_reducible rfl)); try simp only [Act.put, pst3])
      iterate 4 ((first | refine seg_take (v := undef) rfl (Or.inr ⟨by rfl, by rfl⟩) ?_ | (refine seg_take (v := ?_) rfl (Or.inl ⟨by rfl, ?_⟩) ?_; rotate_left; (focus (intro w' hw'; obtain ⟨⟨a, b, c, d⟩, ⟨e, f, g, h, i, j⟩, k, l, m, n, o⟩ := HBX.out w' hw'; go_simp <;> with_reducible rfl)))); try simp only [Act.put, pst3])
      refine seg_run rfl (fun K hK => ?_)
      go_simp
      refine (tick14 _).mono ?_
      rintro e_ wA ⟨rfl, bA⟩
      refine hK.out _ _ (below_then (Below.refl _ X).drew bA) ?_
      clear hK
      try simp only [Act.put, pst3]
      refine seg_run rfl (fun K hK => ?_)
      go_simp
      have bXA := below_then (Below.refl _ X).drew bA
      have hh := refEvents12_self 3 1 5 Be me de none 0 0 hjR.b _ (HBR.out.below bXA) (RdB.nilB _)
      refine hh.mono ?_
      clear hh
      rintro e_ wB ⟨rfl, bB⟩
      refine hK.out _ _ (below_then (below_then (Below.refl _ X).drew bA) bB) ?_
      clear hK
      try simp only [Act.put, pst3]
      iterate 2 (refine seg_take (v := ?_) rfl (Or.inl ⟨by rfl, ?_⟩) ?_; rotate_left; (focus (intro w' hw'; obtain ⟨⟨a, b, c, d⟩, ⟨e, f, g, h, i, j⟩, k, l, m, n, o⟩ := HBX.out w' hw'; go_simp <;> with_reducible rfl)); try simp only [Act.put, pst3])
      iterate 3 ((first | refine seg_take (v := undef) rfl (Or.inr ⟨by rfl, by rfl⟩) ?_ | (refine seg_take (v := ?_) rfl (Or.inl ⟨by rfl, ?_⟩) ?_; rotate_left; (focus (intro w' hw'; obtain ⟨⟨a, b, c, d⟩, ⟨e, f, g, h, i, j⟩, k, l, m, n, o⟩ := HBX.out w' hw'; go_simp <;> with_reducible rfl)))); try simp only [Act.put, pst3])
      refine seg_done (fun HBq => ?_)
      as_aux_lemma =>
       refine wpAnyH_seg (by kernel_rfl) (fun _ _ d _ _ h => by first | (cases d <;> exact h) | cases h.1) 29 (brw9 125 79228162514264337593543950335) [(80, true), (81, true), (82, true), (83, true), (84, true), (85, true), (86, true), (87, true), (88, true), (89, true), (90, true), (91, true), (92, true), (93, true), (94, true), (95, true)] _ _ _ (by kernel_rfl) (HBq) ?_
       iterate 2 ((first | refine seg_take (v := undef) rfl (Or.inr ⟨by rfl, by rfl⟩) ?_ | (refine seg_take (v := ?_) rfl (Or.inl ⟨by rfl, ?_⟩) ?_; rotate_left; (focus (intro w' hw'; obtain ⟨⟨a, b, c, d⟩, ⟨e, f, g, h, i, j⟩, k, l, m, n, o⟩ := HBX.out w' hw'; go_simp <;> with_reducible rfl)))); try simp only [Act.put, pst3])
       iterate 2 (refine seg_take (v := ?_) rfl (Or.inl ⟨by rfl, ?_⟩) ?_; rotate_left; (focus (intro w' hw'; obtain ⟨⟨a, b, c, d⟩, ⟨e, f, g, h, i, j⟩, k, l, m, n, o⟩ := HBX.out w' hw'; go_simp <;> with_reducible rfl)); try simp only [Act.put, pst3])
       iterate 2 ((first | refine seg_take (v := undef) rfl (Or.inr ⟨by rfl, by rfl⟩) ?_ | (refine seg_take (v := ?_) rfl (Or.inl ⟨by rfl, ?_⟩) ?_; rotate_left; (focus (intro w' hw'; obtain ⟨⟨a, b, c, d⟩, ⟨e, f, g, h, i, j⟩, k, l, m, n, o⟩ := HBX.out w' hw'; go_simp <;> with_reducible rfl)))); try simp only [Act.put, pst3])
       iterate 2 (refine seg_take (v := ?_) rfl (Or.inl ⟨by rfl, ?_⟩) ?_; rotate_left; (focus (intro w' hw'; obtain ⟨⟨a, b, c, d⟩, ⟨e, f, g, h, i, j⟩, k, l, m, n, o⟩ := HBX.out w' hw'; go_simp <;> with_reducible rfl)); try simp only [Act.put, pst3])
       iterate 3 ((first | refine seg_take (v := undef) rfl (Or.inr ⟨by rfl, by rfl⟩) ?_ | (refine seg_take (v := ?_) rfl (Or.inl ⟨by rfl, ?_⟩) ?_; rotate_left; (focus (intro w' hw'; obtain ⟨⟨a, b, c, d⟩, ⟨e, f, g, h, i, j⟩, k, l, m, n, o⟩ := HBX.out w' hw'; go_simp <;> with_reducible rfl)))); try simp only [Act.put, pst3])
       iterate 2 (refine seg_take (v := ?_) rfl (Or.inl ⟨by rfl, ?_⟩) ?_; rotate_left; (focus (intro w' hw'; obtain ⟨⟨a, b, c, d⟩, ⟨e, f, g, h, i, j⟩, k, l, m, n, o⟩ := HBX.out w' hw'; go_simp <;> with_reducible rfl)); try simp only [Act.put, pst3])
       iterate 3 ((first | refine seg_take (v := undef) rfl (Or.inr ⟨by rfl, by rfl⟩) ?_ | (refine seg_take (v := ?_) rfl (Or.inl ⟨by rfl, ?_⟩) ?_; rotate_left; (focus (intro w' hw'; obtain ⟨⟨a, b, c, d⟩, ⟨e, f, g, h, i, j⟩, k, l, m, n, o⟩ := HBX.out w' hw'; go_simp <;> with_reducible rfl)))); try simp only [Act.put, pst3])
       refine seg_done (fun HBq => ?_)
       as_aux_lemma =>
        refine wpAnyH_seg (by kernel_rfl) (fun _ _ d _ _ h => by first | (cases d <;> exact h) | cases h.1) 13 (brw9 125 5192296858534827628530496329220095) [(96, true), (97, true), (98, true), (99, true), (100, true), (101, true), (102, true), (103, true), (104, true), (105, true), (106, true), (107, true), (108, true), (109, true), (110, true), (111, true)] _ _ _ (by kernel_rfl) (HBq) ?_
        iterate 2 (refine seg_take (v := ?_) rfl (Or.inl ⟨by rfl, ?_⟩) ?_; rotate_left; (focus (intro w' hw'; obtain ⟨⟨a, b, c, d⟩, ⟨e, f, g, h, i, j⟩, k, l, m, n, o⟩ := HBX.out w' hw'; go_simp <;> with_reducible rfl)); try simp only [Act.put, pst3])
        iterate 3 ((first | refine seg_take (v := undef) rfl (Or.inr ⟨by rfl, by rfl⟩) ?_ | (refine seg_take (v := ?_) rfl (Or.inl ⟨by rfl, ?_⟩) ?_; rotate_left; (focus (intro w' hw'; obtain ⟨⟨a, b, c, d⟩, ⟨e, f, g, h, i, j⟩, k, l, m, n, o⟩ := HBX.out w' hw'; go_simp <;> with_reducible rfl)))); try simp only [Act.put, pst3])
        iterate 2 (refine seg_take (v := ?_) rfl (Or.inl ⟨by rfl, ?_⟩) ?_; rotate_left; (focus (intro w' hw'; obtain ⟨⟨a, b, c, d⟩, ⟨e, f, g, h, i, j⟩, k, l, m, n, o⟩ := HBX.out w' hw'; go_simp <;> with_reducible rfl)); try simp only [Act.put, pst3])
        iterate 4 ((first | refine seg_take (v := undef) rfl (Or.inr ⟨by rfl, by rfl⟩) ?_ | (refine seg_take (v := ?_) rfl (Or.inl ⟨by rfl, ?_⟩) ?_; rotate_left; (focus (intro w' hw'; obtain ⟨⟨a, b, c, d⟩, ⟨e, f, g, h, i, j⟩, k, l, m, n, o⟩ := HBX.out w' hw'; go_simp <;> with_reducible rfl)))); try simp only [Act.put, pst3])
        iterate 2 (refine seg_take (v := ?_) rfl (Or.inl ⟨by rfl, ?_⟩) ?_; rotate_left; (focus (intro w' hw'; obtain ⟨⟨a, b, c, d⟩, ⟨e, f, g, h, i, j⟩, k, l, m, n, o⟩ := HBX.out w' hw'; go_simp <;> with_reducible rfl)); try simp only [Act.put, pst3])
        iterate 3 ((first | refine seg_take (v := undef) rfl (Or.inr ⟨by rfl, by rfl⟩) ?_ | (refine seg_take (v := ?_) rfl (Or.inl ⟨by rfl, ?_⟩) ?_; rotate_left; (focus (intro w' hw'; obtain ⟨⟨a, b, c, d⟩, ⟨e, f, g, h, i, j⟩, k, l, m, n, o⟩ := HBX.out w' hw'; go_simp <;> with_reducible rfl)))); try simp only [Act.put, pst3])
        refine seg_done (fun HBq => ?_)
        as_aux_lemma =>
         refine wpAnyH_seg (by kernel_rfl) (fun _ _ d _ _ h => by first | (cases d <;> exact h) | cases h.1) 0 (brw9 125 42535295865117307932921825928971026431) [(112, true), (113, true), (114, true), (115, true), (116, true), (117, true), (118, true), (119, true), (120, true), (121, false), (122, false), (123, true), (124, true)] _ _ _ (by kernel_rfl) (HBq) ?_
         iterate 3 ((first | refine seg_take (v := undef) rfl (Or.inr ⟨by rfl, by rfl⟩) ?_ | (refine seg_take (v := ?_) rfl (Or.inl ⟨by rfl, ?_⟩) ?_; rotate_left; (focus (intro w' hw'; obtain ⟨⟨a, b, c, d⟩, ⟨e, f, g, h, i, j⟩, k, l, m, n, o⟩ := HBX.out w' hw'; go_simp <;> with_reducible rfl)))); try simp only [Act.put, pst3])
         iterate 2 (refine seg_take (v := ?_) rfl (Or.inl ⟨by rfl, ?_⟩) ?_; rotate_left; (focus (intro w' hw'; obtain ⟨⟨a, b, c, d⟩, ⟨e, f, g, h, i, j⟩, k, l, m, n, o⟩ := HBX.out w' hw'; go_simp <;> with_reducible rfl)); try simp only [Act.put, pst3])
         iterate 2 ((first | refine seg_take (v := undef) rfl (Or.inr ⟨by rfl, by rfl⟩) ?_ | (refine seg_take (v := ?_) rfl (Or.inl ⟨by rfl, ?_⟩) ?_; rotate_left; (focus (intro w' hw'; obtain ⟨⟨a, b, c, d⟩, ⟨e, f, g, h, i, j⟩, k, l, m, n, o⟩ := HBX.out w' hw'; go_simp <;> with_reducible rfl)))); try simp only [Act.put, pst3])
         iterate 2 (refine seg_take (v := ?_) rfl (Or.inl ⟨by rfl, ?_⟩) ?_; rotate_left; (focus (intro w' hw'; obtain ⟨⟨a, b, c, d⟩, ⟨e, f, g, h, i, j⟩, k, l, m, n, o⟩ := HBX.out w' hw'; go_simp <;> with_reducible rfl)); try simp only [Act.put, pst3])
         refine seg_run rfl (fun K hK => ?_)
         rw [if_pos (by rfl)]
         refine wp_load_row 36 _ rfl w14.heap.size rfl 36 (jmV m7).toArray (0, 0) _ (QW'.out.up (below_then (below_then (Below.refl _ X).drew bA) bB)) Tryz.underlying36 rfl (jm_info Z7.out) ?_
         refine hK.out _ _ (below_then (below_then (Below.refl _ X).drew bA) bB) ?_
         clear hK
         try simp only [Act.put, pst3]
         refine seg_run rfl (fun K hK => ?_)
         go_simp
         have hh := jrnCheck_any _ m7 hjW _ (JX.out.below (below_then (below_then (Below.refl _ X).drew bA) bB))
         rw [hjW_chk] at hh
         refine hh.mono ?_
         clear hh
         rintro e_ wC ⟨rfl, bC⟩
         refine hK.out _ _ (below_then (below_then (below_then (Below.refl _ X).drew bA) bB) bC) ?_
         clear hK
         try simp only [Act.put, pst3]
         iterate 2 (refine seg_take (v := ?_) rfl (Or.inl ⟨by rfl, ?_⟩) ?_; rotate_left; (focus (intro w' hw'; obtain ⟨⟨a, b, c, d⟩, ⟨e, f, g, h, i, j⟩, k, l, m, n, o⟩ := HBX.out w' hw'; go_simp <;> with_reducible rfl)); try simp only [Act.put, pst3])
         refine seg_done (fun HBz => ?_)
         refine wpAnyH_done (by kernel_rfl) ?_ _
         go_wp2
         go_ret
         exact ⟨rfl, below_then HW.out HBz⟩
end Go.Proofs.YtpahicfnhhhifaaGreat
