/-
  Layer 5: disks: the document's kept, Flush, Crash.
-/
import Derived.Test.YteajboafcjeagaaDskQ
namespace Go.Proofs.Yteajboafcjeagaa
set_option maxRecDepth 20000
open Go.RowKit
set_option linter.unusedVariables false
set_option linter.unusedSimpArgs false
set_option maxHeartbeats 8000000

/-- Sector j as the first k writes say, of those that are kept. -/
def dkPut (D : Dk) (kp : Nat → Bool) (j k : Nat) : List UInt8 := (dkLast D.k kp (j : Int) k).getD (D.s.getD j [])
theorem dkPut_no {D : Dk} {kp : Nat → Bool} {k : Nat} (h : kp k = false) (j : Nat) : dkPut D kp j (k + 1) = dkPut D kp j k := by
  unfold dkPut; rw [dkLast, if_neg (by rw [h]; simp)]
theorem dkPut_yes {D : Dk} {kp : Nat → Bool} {k : Nat} (h : kp k = true) (j : Nat) : dkPut D kp j (k + 1) = if (D.k.getD k (0, [])).1 = (j : Int) then (D.k.getD k (0, [])).2 else dkPut D kp j k := by
  unfold dkPut; rw [dkLast]
  by_cases h2 : (D.k.getD k (0, [])).1 = (j : Int)
  · rw [if_pos ⟨h, h2⟩, if_pos h2]; rfl
  · rw [if_neg (fun hh => h2 hh.2), if_neg h2]
/-- The row of sectors behind k writes. -/
def KpR (w V : World) (D : Dk) (kp : Nat → Bool) (A : Option Addr) (n c k : Nat) (wr : World) : Prop := ∃ vs, wr.ownsRow V.heap.size 35 1 (.slice A n c) n vs ∧ ∀ j, j < n → ∃ B m d, vs[j]? = some (.slice B m d) ∧ RdB w B m d (dkPut D kp j k)
theorem KpR.keep {w V : World} {D : Dk} {kp : Nat → Bool} {A : Option Addr} {n c k : Nat} {wr : World} (h : KpR w V D kp A n c k wr) (hk : kp k = false) : KpR w V D kp A n c (k + 1) wr := by
  obtain ⟨vs, h1, h2⟩ := h
  refine ⟨vs, h1, fun j hj => ?_⟩
  rw [dkPut_no hk]; exact h2 j hj
theorem KpR.below {w V : World} {D : Dk} {kp : Nat → Bool} {A : Option Addr} {n c k : Nat} {wr w' : World} (h : KpR w V D kp A n c k wr) (hb : Below wr.heap.size wr w') : KpR w V D kp A n c k w' := by
  obtain ⟨vs, h1, h2⟩ := h
  exact ⟨vs, down_keep h1 hb, h2⟩
theorem KpR.far {w V : World} {D : Dk} {kp : Nat → Bool} {A : Option Addr} {n c k : Nat} {wr : World} (h : KpR w V D kp A n c k wr) {q : Nat} {cs : Array Value} {T : TypeId} {fr : Nat × Nat} (hq : wr.heap[q]? = some (.cells cs T fr)) (h2 : T ≠ 35) (i : Nat) (v : Value) : KpR w V D kp A n c k (wr.setCell ⟨q, i, none⟩ v) := by
  obtain ⟨vs, a, b⟩ := h
  exact ⟨vs, own_far a hq h2 i v, b⟩
theorem KpR.mono {w V V' : World} {D : Dk} {kp : Nat → Bool} {A : Option Addr} {n c k : Nat} {wr : World} (h : KpR w V D kp A n c k wr) (hv : V'.heap.size ≤ V.heap.size) : KpR w V' D kp A n c k wr := by
  obtain ⟨vs, a, b⟩ := h
  exact ⟨vs, own_mono a hv, b⟩
/-- Where it is written. -/
theorem KpR.at_ {w V : World} {D : Dk} {kp : Nat → Bool} {A : Option Addr} {n c k : Nat} {wr : World} (h : KpR w V D kp A n c k wr) (hk : kp k = true) (i : Nat) (hi : i < n) (hik : (D.k.getD k (0, [])).1 = (i : Int)) {B : Option Addr} {m d : Nat} (hy : RdB w B m d (D.k.getD k (0, [])).2) :
    ∃ g v, A = some ⟨g, 0, none⟩ ∧ V.heap.size ≤ g ∧ wr.cell? ⟨g, i, none⟩ = some v ∧ wr.frozen? ⟨g, i, none⟩ = false ∧ g < wr.heap.size ∧ KpR w V D kp A n c (k + 1) (wr.setCell ⟨g, i, none⟩ (.slice B m d)) := by
  obtain ⟨vs, h1, h2⟩ := h
  have hl : vs.length = n := by have := h1.1; omega
  obtain ⟨g, cap, hv, hbg, hlg⟩ := World.ownsRow.form h1 (by omega)
  injection hv with hv _ hv4
  subst hv hv4
  have hc := World.ownsRow.cellAt h1 i (by omega)
  rw [List.getElem?_eq_getElem (by omega)] at hc
  refine ⟨g, _, rfl, hbg, hc, World.ownsRow.frozenAt h1 i, World.block_lt_of_cell? wr _ hc, _, (World.ownsRow.stored h1 i (.slice B m d)).1, fun j hj => ?_⟩
  rw [dkPut_yes hk]
  by_cases e : j = i
  · subst e
    rw [if_pos hik]
    exact ⟨B, m, d, List.getElem?_set_self (by omega), hy⟩
  · rw [if_neg (by rw [hik]; omega)]
    obtain ⟨B', m', d', h3, h4⟩ := h2 j hj
    exact ⟨B', m', d', by rw [List.getElem?_set_ne (by omega)]; exact h3, h4⟩
theorem KpR.done {w V wr : World} {D : Dk} {kp : Nat → Bool} {A : Option Addr} {n c : Nat} (h : KpR w V D kp A n c D.k.length wr) (hb : Below w.heap.size w wr) (hn : n ≤ 1000000) (hsl : D.s.length = n) : RdDk wr A n c none 0 0 (dkLeft D kp) := by
  obtain ⟨vs, h1, h2⟩ := h
  have hl : vs.length = n := by have := h1.1; omega
  obtain ⟨A9, c9, hv9, e3, e4, _⟩ := own_form h1
  injection hv9 with hv8 _ hv9
  subst hv8 hv9
  refine ⟨⟨vs, Rd.of_own h1, hl, e3, e4, parts_get (by simp [dkLeft, hl, hsl]) (fun k hk => ?_)⟩, (rdDk_nil _).2⟩
  obtain ⟨B, m, d, h3, h4⟩ := h2 k (by omega)
  refine ⟨B, m, d, h3, ?_⟩
  have : (dkLeft D kp).s.getD k [] = dkPut D kp k D.k.length := by rw [dkLeft_s D kp k (by omega)]; rfl
  rw [this]; exact h4.below hb
def KpI (w V : World) (D : Dk) (kp : Nat → Bool) (A : Option Addr) (n c kn : Nat) (v : Value) (wr : World) : Prop := ∃ k : Nat, k ≤ kn ∧ v = .int .i64 (k : Int) ∧ Hid (KpR w V D kp A n c k wr) ∧ Below V.heap.size V wr
def dkKp (all : Bool) (bs : List Bool) : Nat → Bool := if all = true then fun _ => true else dkKeep bs
theorem refDskKept_any (S : Option Addr) (sn sc : Nat) (K : Option Addr) (kn kc : Nat) (D : Dk) (A : Option Addr) (n c : Nat) (bs : List Bool) (all : Bool) (w0 w : World) (hr0 : RdDk w0 S sn sc K kn kc D) (hw0 : Below w0.heap.size w0 w) (hok : dkOk D = true) (hb : RdBo w A n c bs) :
    Calls Try.prog 40 #[.agg #[.slice S sn sc, .slice K kn kc], .slice A n c, .bool all] w (fun e w' => ∃ S2 sc2, e = .returned (.agg #[.slice S2 sn sc2, .slice none 0 0]) ∧ KpR w0 w D (dkKp all bs) S2 sn sc2 D.k.length w' ∧ Below w.heap.size w w') := by
  have hr := hr0.below hw0
  obtain ⟨hn1, hn2, _, _, _, _⟩ := hr.n63
  have hn63 := hb.n63
  have hsl := hr.sl
  have hkl := hr.kl
  obtain ⟨o1, o2, o3, o4⟩ := (dkOk_iff D).1 hok
  have hrange : ∀ k, k < kn → ∃ i : Nat, (D.k.getD k (0, [])).1 = (i : Int) ∧ i < sn := fun k hk => by
    have h := (o4 (D.k.getD k (0, [])) (by rw [List.getD, List.getElem?_eq_getElem (by omega)]; exact List.getElem_mem _)).1
    unfold dkHas at h
    rw [Bool.and_eq_true, decide_eq_true_eq, decide_eq_true_eq] at h
    exact ⟨(D.k.getD k (0, [])).1.toNat, by omega, by omega⟩
  have hsn : sn ≤ 256 := by omega
  have hkn : kn ≤ 512 := by omega
  obtain ⟨V, hV⟩ : ∃ V, V = (w.alloc (.cells #[.slice S sn sc, .slice K kn kc] 25)).alloc (.cells #[.slice none 0 0, .slice none 0 0] 25) := ⟨_, rfl⟩
  have bV : Below w.heap.size w V := by rw [hV]; exact ((below_self w).alloc (Nat.le_refl _) _).alloc (by simp) _
  have qV : Hid (DkAt V w.heap.size S sn sc K kn kc) := by rw [hV]; exact Lib.hid (drw_old _ (drw_at _ rfl))
  have rV : Hid (DkAt V (w.heap.size + 1) none 0 0 none 0 0) := by rw [hV]; exact Lib.hid (drw_at _ (by simp))
  have HV := Lib.hid hV
  have bV0 := below_then hw0 bV
  obtain ⟨⟨vs, hs⟩, us, hus⟩ := id hr0
  have hown := World.ownsRow_lit (size := 1) (e := 35) V #[] 0 (Nat.le_refl _) (by simp [maxLen]) rfl
  have zV : V.heap.size = w.heap.size + 1 + 1 := by rw [hV]; simp
  rw [zV] at hown
  have ZV := Lib.hid zV
  have HO := Lib.hid hown
  have h1c := parts_one hs.2.2.2.2
  have H1 := Lib.hid h1c
  have HS := Lib.hid hs
  have HUS := Lib.hid hus
  have HR := Lib.hid hrange
  have HSL := Lib.hid hsl
  have HKL := Lib.hid hkl
  have x0 := qV.out.c0
  have zq := qV.out.lt
  clear hV hown zV h1c hs hus hrange hok o1 o2 o3 o4 hsl hkl
  obtain ⟨kp, hkp⟩ : ∃ kp, dkKp all bs = kp := ⟨_, rfl⟩
  rw [hkp]
  have HKP := Lib.hid hkp
  clear hkp
  go_enter Try.func40, Try.ntmps40
  go_wp2_with (at_builtin; rw [← HV.out]; refine wp_app rfl _ _ 22 35 rfl delemSS _ _ 0 _ rfl HO.out _ sn sc _ rfl ((HS.out.1.below bV0).alloc _) (by simpa using HS.out.2.1) H1.out (by unfold maxLen; omega) (by omega) (by simp; have := ZV.out; omega) ?_; intro A4 c4 w4 ho4 hg4)
  have hb4 : Below V.heap.size V w4 := ((Below.refl _ _).alloc (Nat.le_refl _) _).grown hg4 (by simp) (fun q hq => by have := (HO.out.lt q hq).1; have := ZV.out; omega)
  have K0 : Hid (KpR w0 V D kp A4 sn c4 0 w4) := Lib.hid ⟨vs, by rw [ZV.out]; simpa using ho4, fun j hj => by
    obtain ⟨B, m, d, h3, h4⟩ := HS.out.2.2.2.2.at_ j (by rw [HS.out.2.1]; exact hj) (by rw [HSL.out]; exact hj)
    refine ⟨B, m, d, by rw [List.getElem?_eq_getElem (by rw [HS.out.2.1]; exact hj), h3], ?_⟩
    have : dkPut D kp j 0 = D.s[j]'(by rw [HSL.out]; exact hj) := by
      unfold dkPut; rw [dkLast, Option.getD_none, List.getD, List.getElem?_eq_getElem (by rw [HSL.out]; exact hj)]; rfl
    rw [this]; exact h4⟩
  have HHO := Lib.hid ho4
  clear ho4 hg4 x0
  go_wp2_with fail
  go_loopw [8] (KpI w0 V D kp A4 sn c4 kn) (fun v _ => kn - (intOf v).toNat)
  case atStart => exact ⟨0, by omega, rfl, K0, hb4⟩
  case round =>
  obtain ⟨k, hk, rfl, hK, hI⟩ := hrel
  have BI := below_then bV hI
  have BI0 := below_then bV0 hI
  have qk := qV.out.up hI
  have x1 := qk.c1
  have lq := qk.lt
  clear qk hb4
  by_cases hlt : k < kn
  · obtain ⟨b7, o7, B7, m7, d7, hKe, hb7, hc70, hc71, hy7, hrg⟩ := (HUS.out.below BI0).at_ k hlt
    obtain ⟨b8, o8, B8, m8, d8, hKe8, hb8, hc80, hc81, hy8, _⟩ := HUS.out.at_ k hlt
    obtain ⟨i, hia, hi⟩ := HR.out k hlt
    have eqS : Value.slice B7 m7 d7 = .slice B8 m8 d8 := by
      rw [hKe] at hKe8
      injection hKe8 with hKe8
      injection hKe8 with e1 e2
      subst e1 e2
      have := (BI0.cell (p := ⟨b7, o7 + k * 2 + 1, none⟩) hb8).trans hc81
      rw [hc71] at this
      injection this
    injection eqS with e1 e2 e3
    subst e1 e2 e3 hKe
    have HY8 := Lib.hid hy8
    have HIA := Lib.hid hia
    rw [hia] at hc70
    have lk : (k : Int) < (kn : Int) := by omega
    have li : (i : Int) < (sn : Int) := by omega
    clear hy7 hy8 hKe8 hc80 hc81 hb8 hrg hia
    cases all with
    | true =>
      have hkk : kp k = true := by rw [← HKP.out]; rfl
      obtain ⟨g, v9, rfl, hg1, hc10, hf10, hlg, hK2⟩ := hK.out.at_ hkk i hi HIA.out HY8.out
      have HK2 := Lib.hid hK2
      clear hK2 hK hkk
      go_wp2_with fail
      refine wp_region_last (S := fun w' => Below wr.heap.size wr w') 14 #[true, true, true, true, true, true, true, true, true, true, true, true, true, true, false] [(0, true), (1, true), (2, true), (3, true), (4, true), (5, true), (6, true), (7, true), (8, true), (9, true), (10, true), (11, true), (12, true), (13, true)] (by kernel_rfl) (by kernel_rfl) (fun _ _ d _ _ h => by cases d <;> exact h) ((Below.refl _ wr).drew) ?_
      iterate 14 (refine seg_take (v := ?_) rfl (Or.inl ⟨by rfl, ?_⟩) ?_; rotate_left; (focus (intro w' hw'; have j0 := (hw'.cell (p := ⟨w.heap.size, 1, none⟩) lq).trans x1; have j1 := (hw'.cell (p := ⟨b7, o7 + k * 2, none⟩) hb7).trans hc70; have j2 := (hw'.cell (p := ⟨b7, o7 + k * 2 + 1, none⟩) hb7).trans hc71; go_simp <;> with_reducible rfl)); try simp only [Act.put, List.setIfInBounds_toArray, List.set_cons_zero, List.set_cons_succ])
      refine seg_done ?_
      refine last_run rfl (fun K hK => ?_)
      go_simp
      refine hK.out _ _ ?_
      clear hK
      try simp only [Act.put, List.setIfInBounds_toArray, List.set_cons_zero, List.set_cons_succ]
      go_wp2_with fail
      go_roundw
      case rel => exact ⟨k + 1, by omega, by go_num, HK2, (hI.setCell (p := ⟨g, i, none⟩) hg1 _).drew⟩
      case measure => simp [intOf]; omega
    | false =>
      have hkd : kp k = dkKeep bs k := by rw [← HKP.out]; rfl
      by_cases hn : k < n
      · obtain ⟨b9, o9, rfl, hb9, hc9⟩ := (hb.below BI).at_ k hn
        have ln : (k : Int) < (n : Int) := by omega
        obtain ⟨T, hT⟩ : ∃ T, bs.getD k false = T := ⟨_, rfl⟩
        rw [hT] at hc9
        have hkk : kp k = T := by rw [hkd]; exact hT
        clear hT hkd
        cases T with
        | true =>
          obtain ⟨g, v9, rfl, hg1, hc10, hf10, hlg, hK2⟩ := hK.out.at_ hkk i hi HIA.out HY8.out
          have HK2 := Lib.hid hK2
          clear hK2 hK hkk
          go_wp2_with fail
          refine wp_region_last (S := fun w' => Below wr.heap.size wr w') 14 #[true, true, true, true, true, true, true, true, true, true, true, true, true, true, false] [(0, true), (1, true), (2, true), (3, true), (4, true), (5, true), (6, true), (7, true), (8, true), (9, true), (10, true), (11, true), (12, true), (13, true)] (by kernel_rfl) (by kernel_rfl) (fun _ _ d _ _ h => by cases d <;> exact h) ((Below.refl _ wr).drew) ?_
          iterate 14 (refine seg_take (v := ?_) rfl (Or.inl ⟨by rfl, ?_⟩) ?_; rotate_left; (focus (intro w' hw'; have j0 := (hw'.cell (p := ⟨w.heap.size, 1, none⟩) lq).trans x1; have j1 := (hw'.cell (p := ⟨b7, o7 + k * 2, none⟩) hb7).trans hc70; have j2 := (hw'.cell (p := ⟨b7, o7 + k * 2 + 1, none⟩) hb7).trans hc71; go_simp <;> with_reducible rfl)); try simp only [Act.put, List.setIfInBounds_toArray, List.set_cons_zero, List.set_cons_succ])
          refine seg_done ?_
          refine last_run rfl (fun K hK => ?_)
          go_simp
          refine hK.out _ _ ?_
          clear hK
          try simp only [Act.put, List.setIfInBounds_toArray, List.set_cons_zero, List.set_cons_succ]
          go_wp2_with fail
          go_roundw
          case rel => exact ⟨k + 1, by omega, by go_num, HK2, (hI.setCell (p := ⟨g, i, none⟩) hg1 _).drew⟩
          case measure => simp [intOf]; omega
        | false =>
          have HK2 := Lib.hid (hK.out.keep hkk)
          clear hK hkk
          go_wp2_with fail
          go_roundw
          case rel => exact ⟨k + 1, by omega, by go_num, HK2, hI⟩
          case measure => simp [intOf]; omega
      · have hkk : kp k = false := by
          rw [hkd]; unfold dkKeep; rw [List.getD, List.getElem?_eq_none (by have := hb.2.1; omega)]; rfl
        have ln : ¬ ((k : Int) < (n : Int)) := by omega
        clear hkd
        have HK2 := Lib.hid (hK.out.keep hkk)
        clear hK hkk
        go_wp2_with fail
        go_roundw
        case rel => exact ⟨k + 1, by omega, by go_num, HK2, hI⟩
        case measure => simp [intOf]; omega
  · obtain rfl : kn = k := by omega
    have r9 := rV.out.up hI
    have y0 := r9.c0
    have y1 := r9.c1
    have f0 := r9.fr 0
    have f1 := r9.fr 1
    have QS := Lib.hid (r9.s01 A4 sn c4 none 0 0)
    have R9 := Lib.hid r9
    clear r9
    go_wp2_with fail
    refine bodyPost_ret (dresults_cell Try.results40 _ _ (w.heap.size + 1) 25 _ (0, 0) _ rfl QS.out Try.underlying25 rfl (dkInfo ..)) rfl ?_
    have BF := below2 BI (q := w.heap.size + 1) (by omega) (.slice A4 sn c4) (.slice none 0 0)
    have hK2 := ((hK.out.far R9.out (by decide) 0 (.slice A4 sn c4)).far (R9.out.s0 A4 sn c4) (by decide) 1 (.slice none 0 0))
    rw [← HKL.out] at hK2
    exact ⟨A4, c4, rfl, hK2.mono (by have := bV.size; omega), BF⟩
theorem ref_Flush_any (S : Option Addr) (sn sc : Nat) (K : Option Addr) (kn kc : Nat) (D : Dk) (w : World) (hr : RdDk w S sn sc K kn kc D) :
    Calls Try.prog 20 #[.agg #[.slice S sn sc, .slice K kn kc]] w (RetDk w (dkFlush D) (dkE D)) := by
  obtain ⟨V, hV⟩ : ∃ V, V = (w.alloc (.cells #[.slice S sn sc, .slice K kn kc] 25)).alloc (.cells #[.slice none 0 0, .slice none 0 0] 25) := ⟨_, rfl⟩
  have bV : Below w.heap.size w V := by rw [hV]; exact ((below_self w).alloc (Nat.le_refl _) _).alloc (by simp) _
  have qV : Hid (DkAt V w.heap.size S sn sc K kn kc) := by rw [hV]; exact Lib.hid (drw_old _ (drw_at _ rfl))
  have rV : Hid (DkAt V (w.heap.size + 1) none 0 0 none 0 0) := by rw [hV]; exact Lib.hid (drw_at _ (by simp))
  have HV := Lib.hid hV
  have H1 := Lib.hid (refDskCheck_any S sn sc K kn kc D V (hr.below bV))
  clear hV
  unfold dkFlush dkE
  cases hok : dkOk D with
  | false =>
    rw [hok] at H1
    rw [if_neg (by simp), if_neg (by simp)]
    clear hok
    go_enter Try.func20, Try.ntmps20
    go_wp2_with fail
    rw [← HV.out]
    refine H1.out.mono ?_
    rintro e w2 ⟨rfl, hb2⟩
    have q2 := qV.out.up hb2
    have r2 := rV.out.up hb2
    have x0 := q2.c0
    have x1 := q2.c1
    have y0 := r2.c0
    have y1 := r2.c1
    have f0 := r2.fr 0
    have f1 := r2.fr 1
    have QS := Lib.hid (r2.s01 S sn sc K kn kc)
    have B2 := below_then bV hb2
    clear q2 r2
    go_wp2_with fail
    refine bodyPost_ret (dresults_cell_tmp Try.results20 _ _ (w.heap.size + 1) 25 _ (0, 0) _ rfl QS.out Try.underlying25 rfl (dkInfo ..)) rfl ?_
    exact ⟨S, sn, sc, K, kn, kc, rfl, hr.far2 B2 (by omega) _ _, below2 B2 (by omega) _ _⟩
  | true =>
    rw [hok] at H1
    rw [if_pos rfl, if_pos rfl]
    have H2 := Lib.hid (fun W (hb0 : Below V.heap.size V W) => refDskKept_any S sn sc K kn kc D none 0 0 [] true w W hr (below_then bV hb0) hok (rdBo_nil W))
    have hsn : sn ≤ 256 := by have := ((dkOk_iff D).1 hok).1; have := hr.sl; omega
    have HSL := Lib.hid hr.sl
    clear hok
    go_enter Try.func20, Try.ntmps20
    go_wp2_with fail
    rw [← HV.out]
    refine H1.out.mono ?_
    rintro e w2 ⟨rfl, hb2⟩
    have q2 := qV.out.up hb2
    have x0 := q2.c0
    have x1 := q2.c1
    have B2 := below_then bV hb2
    clear q2
    go_wp2_with fail
    refine (H2.out w2 hb2).mono ?_
    rintro e w3 ⟨A3, c3, rfl, hr3, hb3⟩
    have r3 := (rV.out.up hb2).up hb3
    have y0 := r3.c0
    have y1 := r3.c1
    have f0 := r3.fr 0
    have f1 := r3.fr 1
    have QS := Lib.hid (r3.s01 A3 sn c3 none 0 0)
    have B3 := below_then B2 hb3
    have HR := Lib.hid hr3
    have R3 := Lib.hid r3
    clear r3 hr3 x0 x1
    go_wp2_with fail
    refine bodyPost_ret (dresults_cell_tmp Try.results20 _ _ (w.heap.size + 1) 25 _ (0, 0) _ rfl QS.out Try.underlying25 rfl (dkInfo ..)) rfl ?_
    exact ⟨A3, sn, c3, none, 0, 0, rfl, ((HR.out.far R3.out (by decide) 0 (.slice A3 sn c3)).far (R3.out.s0 A3 sn c3) (by decide) 1 (.slice none 0 0)).done (below2 B3 (by omega) _ _) (by omega) HSL.out, below2 B3 (by omega) _ _⟩
theorem ref_Crash_any (S : Option Addr) (sn sc : Nat) (K : Option Addr) (kn kc : Nat) (D : Dk) (A : Option Addr) (n c : Nat) (bs : List Bool) (w : World) (hr : RdDk w S sn sc K kn kc D) (hb : RdBo w A n c bs) :
    Calls Try.prog 21 #[.agg #[.slice S sn sc, .slice K kn kc], .slice A n c] w (RetDk w (dkCrash D bs) (dkE D)) := by
  obtain ⟨V, hV⟩ : ∃ V, V = (w.alloc (.cells #[.slice S sn sc, .slice K kn kc] 25)).alloc (.cells #[.slice none 0 0, .slice none 0 0] 25) := ⟨_, rfl⟩
  have bV : Below w.heap.size w V := by rw [hV]; exact ((below_self w).alloc (Nat.le_refl _) _).alloc (by simp) _
  have qV : Hid (DkAt V w.heap.size S sn sc K kn kc) := by rw [hV]; exact Lib.hid (drw_old _ (drw_at _ rfl))
  have rV : Hid (DkAt V (w.heap.size + 1) none 0 0 none 0 0) := by rw [hV]; exact Lib.hid (drw_at _ (by simp))
  have HV := Lib.hid hV
  have H1 := Lib.hid (refDskCheck_any S sn sc K kn kc D V (hr.below bV))
  clear hV
  unfold dkCrash dkE
  cases hok : dkOk D with
  | false =>
    rw [hok] at H1
    rw [if_neg (by simp), if_neg (by simp)]
    clear hok
    go_enter Try.func21, Try.ntmps21
    go_wp2_with fail
    rw [← HV.out]
    refine H1.out.mono ?_
    rintro e w2 ⟨rfl, hb2⟩
    have q2 := qV.out.up hb2
    have r2 := rV.out.up hb2
    have x0 := q2.c0
    have x1 := q2.c1
    have y0 := r2.c0
    have y1 := r2.c1
    have f0 := r2.fr 0
    have f1 := r2.fr 1
    have QS := Lib.hid (r2.s01 S sn sc K kn kc)
    have B2 := below_then bV hb2
    clear q2 r2
    go_wp2_with fail
    refine bodyPost_ret (dresults_cell_tmp Try.results21 _ _ (w.heap.size + 1) 25 _ (0, 0) _ rfl QS.out Try.underlying25 rfl (dkInfo ..)) rfl ?_
    exact ⟨S, sn, sc, K, kn, kc, rfl, hr.far2 B2 (by omega) _ _, below2 B2 (by omega) _ _⟩
  | true =>
    rw [hok] at H1
    rw [if_pos rfl, if_pos rfl]
    have H2 := Lib.hid (fun W (hb0 : Below V.heap.size V W) => refDskKept_any S sn sc K kn kc D A n c bs false w W hr (below_then bV hb0) hok (hb.below (below_then bV hb0)))
    have hsn : sn ≤ 256 := by have := ((dkOk_iff D).1 hok).1; have := hr.sl; omega
    have HSL := Lib.hid hr.sl
    clear hok
    go_enter Try.func21, Try.ntmps21
    go_wp2_with fail
    rw [← HV.out]
    refine H1.out.mono ?_
    rintro e w2 ⟨rfl, hb2⟩
    have q2 := qV.out.up hb2
    have x0 := q2.c0
    have x1 := q2.c1
    have B2 := below_then bV hb2
    clear q2
    go_wp2_with fail
    refine (H2.out w2 hb2).mono ?_
    rintro e w3 ⟨A3, c3, rfl, hr3, hb3⟩
    have r3 := (rV.out.up hb2).up hb3
    have y0 := r3.c0
    have y1 := r3.c1
    have f0 := r3.fr 0
    have f1 := r3.fr 1
    have QS := Lib.hid (r3.s01 A3 sn c3 none 0 0)
    have B3 := below_then B2 hb3
    have HR := Lib.hid hr3
    have R3 := Lib.hid r3
    clear r3 hr3 x0 x1
    go_wp2_with fail
    refine bodyPost_ret (dresults_cell_tmp Try.results21 _ _ (w.heap.size + 1) 25 _ (0, 0) _ rfl QS.out Try.underlying25 rfl (dkInfo ..)) rfl ?_
    exact ⟨A3, sn, c3, none, 0, 0, rfl, ((HR.out.far R3.out (by decide) 0 (.slice A3 sn c3)).far (R3.out.s0 A3 sn c3) (by decide) 1 (.slice none 0 0)).done (below2 B3 (by omega) _ _) (by omega) HSL.out, below2 B3 (by omega) _ _⟩
end Go.Proofs.Yteajboafcjeagaa
