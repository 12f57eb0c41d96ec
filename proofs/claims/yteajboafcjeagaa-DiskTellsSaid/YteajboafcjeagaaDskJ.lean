/-
  Layer 5: disks: Read.
-/
import Derived.Test.YteajboafcjeagaaDskI
namespace Go.Proofs.Yteajboafcjeagaa
set_option maxRecDepth 20000
open Go.RowKit Go.Shelf
set_option linter.unusedVariables false
set_option linter.unusedSimpArgs false
set_option maxHeartbeats 8000000
attribute [local go_sem] Oper.semAt_some

/-! ### What stands between two rounds -/
def RdI (w3 : World) (l : List (Int × List UInt8)) (kn : Nat) (i : Int) (pre : List Nat) (W : World) : Prop := (∀ y ∈ pre, (l.getD (kn - 1 - y) (0, [])).1 ≠ i) ∧ Below w3.heap.size w3 W
def RdX (w : World) (q : Nat) (l : List (Int × List UInt8)) (kn : Nat) (i : Int) (c : Code) (pre : List Nat) (W : World) : Prop :=
  c = .ret ∧ (∃ pre' x, pre = pre' ++ [x] ∧ (∀ y ∈ pre', (l.getD (kn - 1 - y) (0, [])).1 ≠ i) ∧ (l.getD (kn - 1 - x) (0, [])).1 = i ∧ ∃ A n cc, W.heap[q]? = some (.cells #[.slice A n cc] 35 (0, 0)) ∧ W.heap[q + 1]? = some (.cells #[.int .i64 0] 29 (0, 0)) ∧ OwnB W w.heap.size A n cc (l.getD (kn - 1 - x) (0, [])).2) ∧ Below w.heap.size w W
def RdA (T : Nat → Nat → Array Value) (us : List Value) (l : List (Int × List UInt8)) (kn : Nat) (x : Nat) (a' : Act) (W : World) : Prop := ∃ g, a' = { tmps := T x g, defers := [] } ∧ W.heap[g]? = some (.cells #[.int .i64 (l.getD (kn - 1 - x) (0, [])).1, us.getD ((kn - 1 - x) * 2 + 1) (.slice none 0 0)] 55 (0, 0))
theorem row_kept {A B : World} {q Bd : Nat} {row : Option Nat} {cs : Array Value} {T : TypeId} {fr : Nat × Nat} (h : A.heap[q]? = some (.cells cs T fr)) (hg : A.grownBy B row) (hr : ∀ r, row = some r → Bd ≤ r ∧ ∃ o : Obj, A.heap[r]? = some o ∧ o.isCells = false) : B.heap[q]? = some (.cells cs T fr) :=
  (hg.block q (drw_lt h) (fun e => by obtain ⟨_, o, ho, hc⟩ := hr q e.symm; rw [h] at ho; cases ho; cases hc)).trans h
theorem rdI_own (w3 : World) (l : List (Int × List UInt8)) (kn : Nat) (i : Int) : OwnFrom w3.heap.size (RdI w3 l kn i) := fun s A B row hs hg hr => ⟨hs.1, hs.2.grown hg hs.2.size (fun q hq => (hr q hq).1)⟩
theorem rdX_own (w : World) (q Bd : Nat) (l : List (Int × List UInt8)) (kn : Nat) (i : Int) (c : Code) (hB : w.heap.size ≤ Bd) : OwnFrom Bd (RdX w q l kn i c) := fun s A B row hs hg hr => by
  obtain ⟨h1, ⟨pre', x, h2, h3, h4, A9, n9, c9, h5, h6, h7⟩, h8⟩ := hs
  exact ⟨h1, ⟨pre', x, h2, h3, h4, A9, n9, c9, row_kept h5 hg hr, row_kept h6 hg hr, down_keepT h7 (fun g' cur' _ hg' => (row_kept hg' hg hr).trans hg'.symm)⟩, h8.grown hg h8.size (fun r e => Nat.le_trans hB (hr r e).1)⟩
theorem keepsD_below {W W' : World} (h : Below W.heap.size W W') : KeepsOthers W W' := ⟨h.size, fun k o hk _ => (h.block k (Array.getElem?_eq_some_iff.1 hk).1).trans hk⟩
/-- The last write that says place i, by what came from the end. -/
theorem idx_hit (l : List (Int × List UInt8)) (i : Int) (j : Nat) (h : (l.getD j (0, [])).1 = i) : ∀ n, j < n → (∀ m, j < m → m < n → (l.getD m (0, [])).1 ≠ i) → dkIdx l (fun _ => true) i n = some j
  | 0, hn, _ => by omega
  | n + 1, hn, hm => by
    unfold dkIdx
    by_cases e : j = n
    · subst e; rw [if_pos ⟨rfl, h⟩]
    · rw [if_neg (fun hh => hm n (by omega) (by omega) hh.2)]
      exact idx_hit l i j h n (by omega) (fun m h1 h2 => hm m h1 (by omega))
theorem idx_miss (l : List (Int × List UInt8)) (i : Int) : ∀ n, (∀ m, m < n → (l.getD m (0, [])).1 ≠ i) → dkIdx l (fun _ => true) i n = none
  | 0, _ => rfl
  | n + 1, hm => by
    unfold dkIdx
    rw [if_neg (fun hh => hm n (by omega) hh.2)]
    exact idx_miss l i n (fun m h => hm m (by omega))
def rdV (w : World) (S : Option Addr) (sn sc : Nat) (Kd : Option Addr) (kn kc : Nat) (a : Int) : World := (((w.alloc (.cells #[.slice S sn sc, .slice Kd kn kc] 25)).alloc (.cells #[.int .i64 a] 3)).alloc (.cells #[.slice none 0 0] 35)).alloc (.cells #[.int .i64 0] 29)
theorem dskRead_no (S : Option Addr) (sn sc : Nat) (Kd : Option Addr) (kn kc : Nat) (D : Dk) (a : Int) (w : World) (hr : RdDk w S sn sc Kd kn kc D) (ha : -9223372036854775808 ≤ a ∧ a ≤ 9223372036854775807) (h : dkAsk D a ≠ 0) :
    Calls Try.prog 15 #[.agg #[.slice S sn sc, .slice Kd kn kc], .int .i64 a] w (RetBE w [] (dkAsk D a)) := by
  obtain ⟨V, hV⟩ : ∃ V, V = rdV w S sn sc Kd kn kc a := ⟨_, rfl⟩
  unfold rdV at hV
  have bV : Below w.heap.size w V := by rw [hV]; exact ((((below_self w).alloc (Nat.le_refl _) _).alloc (by simp) _).alloc (by simp; omega) _).alloc (by simp; omega) _
  have qV : Hid (DkAt V w.heap.size S sn sc Kd kn kc) := by rw [hV]; exact Lib.hid (drw_old _ (drw_old _ (drw_old _ (drw_at _ rfl))))
  have tV : Hid (V.heap[w.heap.size + 1 + 1]? = some (.cells #[.slice none 0 0] 35 (0, 0))) := by rw [hV]; exact Lib.hid (drw_old _ (drw_at _ (by simp)))
  have eV : Hid (V.heap[w.heap.size + 1 + 1 + 1]? = some (.cells #[.int .i64 0] 29 (0, 0))) := by rw [hV]; exact Lib.hid (drw_at _ (by simp))
  have HV := Lib.hid hV
  obtain ⟨E, hE⟩ : ∃ E, dkAsk D a = E := ⟨_, rfl⟩
  have H1 := Lib.hid (dskAsked_any S sn sc Kd kn kc D a V (hr.below bV) ha)
  rw [hE] at H1 h ⊢
  have n1 : (E != 0) = true := bne_iff_ne.2 h
  clear hV h hE
  go_enter Try.func15, Try.ntmps15
  go_wp2_with fail
  rw [← HV.out]
  refine H1.out.mono ?_
  rintro e w2 ⟨rfl, hb2⟩
  have t2 := drw_up tV.out hb2
  have e2 := drw_up eV.out hb2
  have y0 := (cell_of_row w2 _ 0 _ _ _ t2).trans (show (#[.slice none 0 0] : Array Value)[0]? = some (.slice none 0 0) from rfl)
  have y1 := (cell_of_row w2 _ 0 _ _ _ e2).trans (show (#[.int .i64 0] : Array Value)[0]? = some (.int .i64 0) from rfl)
  have f0 := frozen_of_row _ _ 0 _ _ t2
  have f1 := frozen_of_row _ _ 0 _ _ e2
  have B2 := below_then bV hb2
  clear t2 e2
  go_wp2_with fail
  refine bodyPost_ret (v := .tuple #[.slice none 0 0, .int .i64 E]) (by simp [results, Try.results15, go_sem, y0, y1, f0, f1]) rfl ?_
  exact ⟨none, 0, 0, rfl, OwnB.nilB _ _, (B2.setCell (p := ⟨w.heap.size + 1 + 1, 0, none⟩) (by show _ ≤ _ + 1 + 1; omega) _).setCell (p := ⟨w.heap.size + 1 + 1 + 1, 0, none⟩) (by show _ ≤ _ + 1 + 1 + 1; omega) _⟩
theorem dskRead_ok (S : Option Addr) (sn sc : Nat) (Kd : Option Addr) (kn kc : Nat) (D : Dk) (i : Nat) (w : World) (hr : RdDk w S sn sc Kd kn kc D) (hok : dkOk D = true) (hi : i < sn) (h : dkAsk D (i : Int) = 0) :
    Calls Try.prog 15 #[.agg #[.slice S sn sc, .slice Kd kn kc], .int .i64 (i : Int)] w (RetBE w (dkAt D (fun _ => true) i) 0) := by
  obtain ⟨V, hV⟩ : ∃ V, V = rdV w S sn sc Kd kn kc (i : Int) := ⟨_, rfl⟩
  unfold rdV at hV
  have bV : Below w.heap.size w V := by rw [hV]; exact ((((below_self w).alloc (Nat.le_refl _) _).alloc (by simp) _).alloc (by simp; omega) _).alloc (by simp; omega) _
  have qV : Hid (DkAt V w.heap.size S sn sc Kd kn kc) := by rw [hV]; exact Lib.hid (drw_old _ (drw_old _ (drw_old _ (drw_at _ rfl))))
  have aV : Hid (V.heap[w.heap.size + 1]? = some (.cells #[.int .i64 (i : Int)] 3 (0, 0))) := by rw [hV]; exact Lib.hid (drw_old _ (drw_old _ (drw_at _ (by simp))))
  have tV : Hid (V.heap[w.heap.size + 1 + 1]? = some (.cells #[.slice none 0 0] 35 (0, 0))) := by rw [hV]; exact Lib.hid (drw_old _ (drw_at _ (by simp)))
  have eV : Hid (V.heap[w.heap.size + 1 + 1 + 1]? = some (.cells #[.int .i64 0] 29 (0, 0))) := by rw [hV]; exact Lib.hid (drw_at _ (by simp))
  have zV : V.heap.size = w.heap.size + 4 := by rw [hV]; simp
  have HV := Lib.hid hV
  have H1 := Lib.hid (dskAsked_any S sn sc Kd kn kc D (i : Int) V (hr.below bV) (by have := hr.n63; omega))
  rw [h] at H1
  have hkn : kn ≤ 512 := by have := ((dkOk_iff D).1 hok).2.1; have := hr.kl; omega
  obtain ⟨⟨vs, hs⟩, us, hus⟩ := id hr
  have HS := Lib.hid hs
  have HUS := Lib.hid hus
  have HOK := Lib.hid hok
  have ZV := Lib.hid zV
  clear hV h hs hus hok zV
  refine (callsIn_wide (n := 3)).1 ?_
  refine callsIn_of_wp_marks Try.func15 rfl trivial ?_ rfl
  simp only [Try.ntmps15, List.size_toArray, List.length_cons, List.length_nil, Nat.reduceAdd, Nat.reduceSub, Array.replicate_succ, Array.replicate_zero, List.push_toArray, List.append_toArray, List.nil_append, List.cons_append]
  refine wpIn_wide.2 ?_
  go_wp2_with fail
  rw [← HV.out]
  refine H1.out.mono ?_
  rintro e w2 ⟨rfl, hb2⟩
  have q2 := qV.out.up hb2
  have x0 := q2.c0
  have x1 := q2.c1
  have B2 := below_then bV hb2
  clear q2
  go_wp2_with fail
  refine (back_any Kd kn kc w2).mono ?_
  rintro e w3 ⟨rfl, hcs, hb3, hl3⟩
  have B3 := below_then B2 hb3
  clear x0 x1
  have hl3' : w2.heap.size < w3.heap.size := hl3
  have A3 := Lib.hid (drw_up (drw_up aV.out hb2) hb3)
  have T3 := Lib.hid (drw_up (drw_up tV.out hb2) hb3)
  have E3 := Lib.hid (drw_up (drw_up eV.out hb2) hb3)
  have Q3 := Lib.hid ((qV.out.up hb2).up hb3)
  have W3 := HUS.out.below B3
  have hz3 : w.heap.size + 4 ≤ w3.heap.size := by have := ZV.out; have := hb2.size; omega
  go_wp2_with fail
  refine (wpIn_wide (n := 3)).1 ?_
  refine wpIn_rangeFunc_ownH rfl (by omega) (gf := 58) (lb := #[.pointer (some ⟨w2.heap.size, 0, none⟩)]) rfl trivial (enters_of Try.func58 (by kernel_rfl) rfl)
    (back_stops 2 w2.heap.size Kd kn kc us D.k w3 (by omega) W3 (by omega) hcs hl3) (fun h k => h.trans k) (belowK_b (Nat.le_refl _)) (Below.refl _ _) (fun _ => rfl)
    (RdI w3 D.k kn (i : Int)) (RdX w (w.heap.size + 1 + 1) D.k kn (i : Int)) (rdI_own w3 D.k kn (i : Int)) (fun c => rdX_own w _ _ D.k kn (i : Int) c (by omega)) ⟨by simp, Below.refl _ _⟩
    (RdA (fun x g => #[.agg #[.slice S sn sc, .slice Kd kn kc], .int .i64 (i : Int), .pointer (some ⟨w.heap.size, 0, none⟩), .pointer (some ⟨w.heap.size + 1, 0, none⟩), .pointer (some ⟨w.heap.size + 1 + 1, 0, none⟩), .pointer (some ⟨w.heap.size + 1 + 1 + 1, 0, none⟩), .int .i64 0, undef, .pointer (some ⟨g, 0, none⟩), .agg #[.slice S sn sc, .slice Kd kn kc], .int .i64 (i : Int), .int .i64 0, .int .i64 0, .bool false, undef, .pointer (some ⟨w.heap.size, 1, none⟩), .slice Kd kn kc, .func (.func 58) #[] #[.pointer (some ⟨w2.heap.size, 0, none⟩)], .int .i64 ((kn - 1 - x : Nat) : Int), .agg #[.int .i64 (D.k.getD (kn - 1 - x) (0, [])).1, us.getD ((kn - 1 - x) * 2 + 1) (.slice none 0 0)], undef, undef, undef, undef, undef, undef, undef, undef, undef, undef, undef, undef, undef]) us D.k kn)
    (fun x a' _ A B row hs hg hr => by obtain ⟨g, e, h⟩ := hs; exact ⟨g, e, row_kept h hg hr⟩) ?assign ?body ?done ?stop
  case assign =>
    rintro l pre x W K ⟨hne, hB⟩ hK
    obtain ⟨B9, m9, d9, he9⟩ := us_slice W3 x
    unfold bkV
    unfold RdA at hK
    rw [he9] at hK ⊢
    obtain ⟨a9, ha9⟩ : ∃ a9, (D.k.getD (kn - 1 - x) (0, [])).1 = a9 := ⟨_, rfl⟩
    rw [ha9] at hK ⊢
    have hK' := hK _ (W.alloc (.cells #[.int .i64 a9, .slice B9 m9 d9] 55)) ((keepsD_below ((below_self W).alloc (Nat.le_refl _) _)).from _) (((below_self W).alloc (Nat.le_refl _) _).mono hB.size) ⟨hne, below_then hB ((below_self W).alloc (Nat.le_refl _) _)⟩ ⟨W.heap.size, rfl, drw_at _ rfl⟩
    dsimp only at hK'
    rw [ha9, he9] at hK'
    have HK := Lib.hid hK'
    clear hK hK' ha9
    gi_wp2
    exact HK.out
  case body =>
    rintro l pre x a' W hl ⟨rl, hrl⟩ ⟨hne, hB⟩ ⟨g, rfl, hrow⟩ hlt
    obtain ⟨j, hj⟩ : ∃ j, kn - 1 - x = j := ⟨_, rfl⟩
    obtain ⟨b9, o9, B9, m9, d9, he, hb9, hc0, hc1, hy9, hrg, hxv⟩ := (W3.below hB).atw j (by omega)
    rw [hj, hxv] at hrow
    dsimp only
    rw [hj, hxv]
    have hlen := dkOk_klen HOK.out j (by rw [hr.kl]; omega)
    obtain rfl : m9 = 256 := by rw [← hy9.2.1]; exact hlen
    obtain ⟨Y9, hY9⟩ : ∃ Y9, (D.k.getD j (0, [])).2 = Y9 := ⟨_, rfl⟩
    obtain ⟨a9, ha9⟩ : ∃ a9, (D.k.getD j (0, [])).1 = a9 := ⟨_, rfl⟩
    rw [ha9] at hrow ⊢
    rw [hY9] at hy9
    have r0 := (cell_of_row W g 0 _ _ _ hrow).trans (show (#[.int .i64 a9, .slice B9 256 d9] : Array Value)[0]? = some (.int .i64 a9) from rfl)
    have r1 := (cell_of_row W g 1 _ _ _ hrow).trans (show (#[.int .i64 a9, .slice B9 256 d9] : Array Value)[1]? = some (.slice B9 256 d9) from rfl)
    have k3 := (cell_of_row W _ 0 _ _ _ (drw_up A3.out hB)).trans (show (#[.int .i64 (i : Int)] : Array Value)[0]? = some (.int .i64 (i : Int)) from rfl)
    have T4 := Lib.hid (drw_up T3.out hB)
    have E4 := Lib.hid (drw_up E3.out hB)
    have hBs := hB.size
    have BWW := below_then B3 hB
    have HY9 := Lib.hid hY9
    have HA9 := Lib.hid ha9
    have HJ := Lib.hid hj
    have HCL := Lib.hid (clone_any B9 256 d9 Y9 W hy9 (by omega))
    clear hc0 hc1 he hxv hrow hlen ha9 hY9 hj hy9
    by_cases hq : a9 = (i : Int)
    · have d1 : (a9 == (i : Int)) = true := by rw [hq]; simp
      have HQ := Lib.hid hq
      clear hq
      gi_wp2_with (refine ⟨trivial, ?_⟩; gi_at_call 37; refine (CallsIn.inRound l (callsIn_wide.2 HCL.out)).mono ?_; rintro e W2 ⟨A8, n8, c8, rfl, ho8, hb8⟩; have t5 := drw_up T4.out hb8; have e5 := drw_up E4.out hb8; have y0 := (cell_of_row W2 _ 0 _ _ _ t5).trans (show (#[.slice none 0 0] : Array Value)[0]? = some (.slice none 0 0) from rfl); have y1 := (cell_of_row W2 _ 0 _ _ _ e5).trans (show (#[.int .i64 0] : Array Value)[0]? = some (.int .i64 0) from rfl); have f0 := frozen_of_row _ _ 0 _ _ t5; have f1 := frozen_of_row _ _ 0 _ _ e5; have HO8 := Lib.hid ho8; have T5 := Lib.hid t5; have E5 := Lib.hid e5; clear t5 e5 ho8)
      have e6 : (W2.setCell ⟨w.heap.size + 1 + 1, 0, none⟩ (.slice A8 n8 c8)).heap[w.heap.size + 1 + 1 + 1]? = some (.cells #[.int .i64 0] 29 (0, 0)) := (heap_setCell_other _ _ _ _ (by show w.heap.size + 1 + 1 + 1 ≠ w.heap.size + 1 + 1; omega)).trans E5.out
      refine ⟨((keepsD_below hb8).from _).trans ((KeepsFrom.of_grownBy (grownBy_setCell' W2 (w.heap.size + 1 + 1) _) (fun r e => by cases e; omega)).trans (KeepsFrom.of_grownBy (grownBy_setCell' _ (w.heap.size + 1 + 1 + 1) _) (fun r e => by cases e; omega))), rfl, ⟨pre, x, rfl, hne, by rw [HJ.out, HA9.out, HQ.out], A8, n8, c8, ?_, ?_, ?_⟩, ?_⟩
      · exact (heap_setCell_other _ _ _ _ (by show w.heap.size + 1 + 1 ≠ w.heap.size + 1 + 1 + 1; omega)).trans ((setc_rowT T5.out).trans rfl)
      · exact (setc_rowT e6).trans rfl
      · rw [HJ.out, HY9.out]
        exact own_mono (own_far (own_far HO8.out T5.out (by decide) 0 _) e6 (by decide) 0 _) (by have := BWW.size; omega)
      · exact ((below_then BWW hb8).setCell (p := ⟨w.heap.size + 1 + 1, 0, none⟩) (by show w.heap.size ≤ w.heap.size + 1 + 1; omega) _).setCell (p := ⟨w.heap.size + 1 + 1 + 1, 0, none⟩) (by show w.heap.size ≤ w.heap.size + 1 + 1 + 1; omega) _
    · have d1 : (a9 == (i : Int)) = false := beq_eq_false_iff_ne.2 hq
      have HQ := Lib.hid hq
      clear hq
      gi_wp2
      exact ⟨KeepsFrom.refl _ _, Below.refl _ _, fun y hy => (List.mem_append.1 hy).elim (hne y) (fun e => by rw [List.mem_singleton] at e; subst e; rw [HJ.out, HA9.out]; exact HQ.out), hB⟩
  case done =>
    rintro Dd ys W hD rfl ⟨hne, hB⟩ hDf
    have hix : dkIdx D.k (fun _ => true) (i : Int) kn = none := idx_miss _ _ _ (fun m hm => by
      have := hne (kn - 1 - m) (List.mem_range.2 (by omega))
      rwa [show kn - 1 - (kn - 1 - m) = m by omega] at this)
    have hAt : dkAt D (fun _ => true) i = D.s.getD i [] := by unfold dkAt; rw [dkIdx_last, hr.kl, hix]; rfl
    obtain ⟨b9, o9, B9, m9, d9, rfl, hb9, hc, hy9⟩ := ((HS.out.below B3).below hB).at_ i hi
    have hlen := dkOk_slen HOK.out i (by rw [hr.sl]; exact hi)
    obtain rfl : m9 = 256 := by rw [← hy9.2.1]; exact hlen
    obtain ⟨Y9, hY9⟩ : ∃ Y9, D.s.getD i [] = Y9 := ⟨_, rfl⟩
    rw [hY9] at hy9 hAt
    have HAt := Lib.hid hAt
    have x0 := (Q3.out.up hB).c0
    have k3 := (cell_of_row W _ 0 _ _ _ (drw_up A3.out hB)).trans (show (#[.int .i64 (i : Int)] : Array Value)[0]? = some (.int .i64 (i : Int)) from rfl)
    have T4 := Lib.hid (drw_up T3.out hB)
    have E4 := Lib.hid (drw_up E3.out hB)
    have hBs := hB.size
    have BWW := below_then B3 hB
    have HCL := Lib.hid (clone_any B9 256 d9 Y9 W hy9 (by omega))
    have l1 : (i : Int) < (sn : Int) := by omega
    have HDF := Lib.hid hDf
    have HWl := Lib.hid (Array.getElem?_eq_some_iff.1 hDf).1
    clear hlen hy9 hY9 hAt hix hDf hne
    go_wp2_with fail
    refine HCL.out.mono ?_
    rintro e W2 ⟨A8, n8, c8, rfl, ho8, hb8⟩
    have t5 := drw_up T4.out hb8
    have e5 := drw_up E4.out hb8
    have y0 := (cell_of_row W2 _ 0 _ _ _ t5).trans (show (#[.slice none 0 0] : Array Value)[0]? = some (.slice none 0 0) from rfl)
    have y1 := (cell_of_row W2 _ 0 _ _ _ e5).trans (show (#[.int .i64 0] : Array Value)[0]? = some (.int .i64 0) from rfl)
    have f0 := frozen_of_row _ _ 0 _ _ t5
    have f1 := frozen_of_row _ _ 0 _ _ e5
    have HO8 := Lib.hid ho8
    have T5 := Lib.hid t5
    have E5 := Lib.hid e5
    clear t5 e5 ho8 x0 k3
    go_wp2_with fail
    have e6 : (W2.setCell ⟨w.heap.size + 1 + 1, 0, none⟩ (.slice A8 n8 c8)).heap[w.heap.size + 1 + 1 + 1]? = some (.cells #[.int .i64 0] 29 (0, 0)) := (heap_setCell_other _ _ _ _ (by show w.heap.size + 1 + 1 + 1 ≠ w.heap.size + 1 + 1; omega)).trans E5.out
    have hDl := HWl.out
    have hK' : ((W2.setCell ⟨w.heap.size + 1 + 1, 0, none⟩ (.slice A8 n8 c8)).setCell ⟨w.heap.size + 1 + 1 + 1, 0, none⟩ (.int .i64 0)).heap[Dd]? = some (.deferred (some [])) := (heap_setCell_other _ _ _ _ (by show Dd ≠ w.heap.size + 1 + 1 + 1; omega)).trans ((heap_setCell_other _ _ _ _ (by show Dd ≠ w.heap.size + 1 + 1; omega)).trans ((hb8.block Dd hDl).trans HDF.out))
    refine ⟨by simp, .inl ⟨_, _, rfl, run_takeDeferred hK', ?_⟩⟩
    have g1 := row_kept (Bd := 0) ((heap_setCell_other _ _ _ (.int .i64 0) (by show w.heap.size + 1 + 1 ≠ (⟨w.heap.size + 1 + 1 + 1, 0, none⟩ : Addr).block; show w.heap.size + 1 + 1 ≠ w.heap.size + 1 + 1 + 1; omega)).trans ((setc_rowT (v := .slice A8 n8 c8) (i := 0) T5.out).trans rfl)) (grownBy_putObj' _ Dd (.deferred none)) (fun r e => by cases e; exact ⟨Nat.zero_le _, _, hK', rfl⟩)
    have g2 := row_kept (Bd := 0) ((setc_rowT (v := .int .i64 0) (i := 0) e6).trans rfl) (grownBy_putObj' _ Dd (.deferred none)) (fun r e => by cases e; exact ⟨Nat.zero_le _, _, hK', rfl⟩)
    refine ⟨.tuple #[.slice A8 n8 c8, .int .i64 0], by simp [results, Try.results15, go_sem, cell_of_row _ _ 0 _ _ _ g1, cell_of_row _ _ 0 _ _ _ g2], ?_⟩
    rw [HAt.out]
    refine ⟨A8, n8, c8, rfl, ?_, ?_⟩
    · have o9 : OwnB ((W2.setCell ⟨w.heap.size + 1 + 1, 0, none⟩ (.slice A8 n8 c8)).setCell ⟨w.heap.size + 1 + 1 + 1, 0, none⟩ (.int .i64 0)) w.heap.size A8 n8 c8 Y9 := own_mono (own_far (own_far HO8.out T5.out (by decide) 0 _) e6 (by decide) 0 _) (by have := BWW.size; omega)
      exact down_keepT o9 (fun g' cur' _ hg' => (row_kept (Bd := 0) hg' (grownBy_putObj' _ Dd (.deferred none)) (fun r e => by cases e; exact ⟨Nat.zero_le _, _, hK', rfl⟩)).trans hg'.symm)
    · exact (((below_then BWW hb8).setCell (p := ⟨w.heap.size + 1 + 1, 0, none⟩) (by show w.heap.size ≤ w.heap.size + 1 + 1; omega) _).setCell (p := ⟨w.heap.size + 1 + 1 + 1, 0, none⟩) (by show w.heap.size ≤ w.heap.size + 1 + 1 + 1; omega) _).trans (belowK_b (w := w) (Nat.le_refl _) _ Dd _ _ (by omega) hK' rfl rfl)
  case stop =>
    rintro Dd c pre W hD ⟨k, hk, rfl⟩ ⟨rfl, ⟨pre', x, hpre, hne, hx, A8, n8, c8, r1, r2, ho⟩, hBw⟩ hDf
    obtain ⟨k', rfl⟩ : ∃ k', k = k' + 1 := by
      cases k with
      | zero => simp at hpre
      | succ k' => exact ⟨k', rfl⟩
    rw [List.range_succ] at hpre
    obtain ⟨e1, e2⟩ := List.append_inj' hpre rfl
    injection e2 with e2 _
    subst e1 e2
    have hix : dkIdx D.k (fun _ => true) (i : Int) kn = some (kn - 1 - k') := idx_hit _ _ _ hx kn (by omega) (fun m h1 h2 => by
      have := hne (kn - 1 - m) (List.mem_range.2 (by omega))
      rwa [show kn - 1 - (kn - 1 - m) = m by omega] at this)
    have hAt : dkAt D (fun _ => true) i = (D.k.getD (kn - 1 - k') (0, [])).2 := by unfold dkAt; rw [dkIdx_last, hr.kl, hix]; rfl
    have HAt := Lib.hid hAt
    have HO := Lib.hid ho
    clear hix hAt hx hne ho
    gi_wp2
    refine ⟨by simp, .inl ⟨_, _, rfl, run_takeDeferred hDf, ?_⟩⟩
    have g1 := row_kept (Bd := 0) r1 (grownBy_putObj' _ Dd (.deferred none)) (fun r e => by cases e; exact ⟨Nat.zero_le _, _, hDf, rfl⟩)
    have g2 := row_kept (Bd := 0) r2 (grownBy_putObj' _ Dd (.deferred none)) (fun r e => by cases e; exact ⟨Nat.zero_le _, _, hDf, rfl⟩)
    refine ⟨.tuple #[.slice A8 n8 c8, .int .i64 0], by simp [results, Try.results15, go_sem, cell_of_row _ _ 0 _ _ _ g1, cell_of_row _ _ 0 _ _ _ g2], ?_⟩
    rw [HAt.out]
    exact ⟨A8, n8, c8, rfl, down_keepT HO.out (fun g' cur' _ hg' => (row_kept (Bd := 0) hg' (grownBy_putObj' _ Dd (.deferred none)) (fun r e => by cases e; exact ⟨Nat.zero_le _, _, hDf, rfl⟩)).trans hg'.symm), hBw.trans (belowK_b (w := w) (Nat.le_refl _) _ Dd _ _ (by omega) hDf rfl rfl)⟩
theorem dskRead_any (S : Option Addr) (sn sc : Nat) (Kd : Option Addr) (kn kc : Nat) (D : Dk) (a : Int) (w : World) (hr : RdDk w S sn sc Kd kn kc D) (ha : -9223372036854775808 ≤ a ∧ a ≤ 9223372036854775807) :
    Calls Try.prog 15 #[.agg #[.slice S sn sc, .slice Kd kn kc], .int .i64 a] w (RetBE w (dkRead D a) (dkAsk D a)) := by
  by_cases h : dkAsk D a = 0
  · unfold dkRead
    rw [if_pos h]
    have hok : dkOk D = true := by
      unfold dkAsk at h
      cases hx : dkOk D with
      | true => rfl
      | false => rw [if_pos hx] at h; cases h
    have hhas : dkHas D a = true := by
      unfold dkAsk at h
      rw [if_neg (by simp [hok])] at h
      cases hx : dkHas D a with
      | true => rfl
      | false => rw [if_pos hx] at h; cases h
    unfold dkHas at hhas
    rw [Bool.and_eq_true, decide_eq_true_eq, decide_eq_true_eq] at hhas
    obtain ⟨i, rfl⟩ : ∃ i : Nat, a = (i : Int) := ⟨a.toNat, by omega⟩
    rw [Int.toNat_natCast, h]
    exact dskRead_ok S sn sc Kd kn kc D i w hr hok (by have := hr.sl; omega) h
  · unfold dkRead
    rw [if_neg h]
    exact dskRead_no S sn sc Kd kn kc D a w hr ha h
end Go.Proofs.Yteajboafcjeagaa
