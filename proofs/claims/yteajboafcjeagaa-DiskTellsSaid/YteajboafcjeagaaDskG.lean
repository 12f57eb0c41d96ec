/-
  Layer 5: disks: New, Write.
-/
import Derived.ArgAppend
import Derived.Test.YteajboafcjeagaaDskF
namespace Go.Proofs.Yteajboafcjeagaa
set_option maxRecDepth 20000
open Go.RowKit
set_option linter.unusedVariables false
set_option linter.unusedSimpArgs false
set_option maxHeartbeats 4000000

theorem own_far {w : World} {base : Nat} {e : TypeId} {v : Value} {n size : Nat} {xs : List Value} (h : w.ownsRow base e size v n xs) {q : Nat} {cs : Array Value} {T : TypeId} {fr : Nat × Nat} (hq : w.heap[q]? = some (.cells cs T fr)) (hne : T ≠ e) (k : Nat) (u : Value) : (w.setCell ⟨q, k, none⟩ u).ownsRow base e size v n xs :=
  down_keepT h (fun g' cur' _ hg' => heap_setCell_other w ⟨q, k, none⟩ g' u (fun e => dtyp_ne hg' hq hne.symm e))
theorem own2_form {w : World} {base : Nat} {e : TypeId} {v : Value} {n : Nat} {xs : List Value} (h : w.ownsRow base e 2 v n xs) : ∃ A c, v = .slice A n c := by
  rcases h.2 with ⟨rfl, rfl⟩ | ⟨g, cap, cur, rfl, _⟩
  · exact ⟨none, 0, by have := h.1; simp at this; subst this; rfl⟩
  · exact ⟨_, _, rfl⟩
theorem own2_rd {w : World} {base : Nat} {e : TypeId} {A : Option Addr} {n c : Nat} {xs : List Value} (h : w.ownsRow base e 2 (.slice A n c) n xs) : Rd w A xs ∧ xs.length = 2 * n ∧ n ≤ c ∧ c ≤ maxLen := by
  have hl := h.1
  rcases h.2 with ⟨h1, h2⟩ | ⟨g, cap, cur, hv, hb, hg, hc, hm, hs, ht⟩
  · injection h1 with e1 e2 e3
    subst e1 e2 e3
    have : xs = [] := List.eq_nil_of_length_eq_zero (by simpa using hl)
    subst this
    exact ⟨.inl rfl, rfl, Nat.le_refl _, by simp [maxLen]⟩
  · injection hv with e1 e2 e3
    subst e1 e3
    refine ⟨.inr ⟨g, 0, rfl, drw_lt hg, fun i u hu => ?_⟩, by omega, hc, hm⟩
    rw [Nat.zero_add, cell_of_row w g i cur e (0, 0) hg, ← hu, ← ht, List.getElem?_take]
    have hi : i < xs.length := (List.getElem?_eq_some_iff.1 hu).1
    rw [if_pos (by omega)]; simp
theorem SecsI.ne {w0 w : World} {g n i : Nat} {f : Nat → List UInt8} (h : SecsI w0 g n f i w) {q : Nat} {cs : Array Value} {T : TypeId} {fr : Nat × Nat} (hq : w.heap[q]? = some (.cells cs T fr)) (hne : T ≠ 35) : q ≠ g := by
  obtain ⟨vs, a, b⟩ := h
  obtain ⟨cur, hc⟩ := a.row
  exact dtyp_ne hq hc hne
/-! ### New -/
def NwI (w : World) (q g n : Nat) (v : Value) (wr : World) : Prop := ∃ k : Nat, k ≤ n ∧ v = .int .i64 (k : Int) ∧ SecsI w g n (fun _ => List.replicate 256 0) k wr ∧ DkAt wr w.heap.size none 0 0 none 0 0 ∧ DkAt wr q (some ⟨g, 0, none⟩) n n none 0 0 ∧ Below w.heap.size w wr
theorem dskNew_any (n : Int) (w : World) (hn : -9223372036854775808 ≤ n ∧ n ≤ 9223372036854775807) :
    Calls Try.prog 24 #[.int .i64 n] w (RetDk w (dkNew n) (dkNewE n)) := by
  obtain ⟨V, hV⟩ : ∃ V, V = w.alloc (.cells #[.slice none 0 0, .slice none 0 0] 25) := ⟨_, rfl⟩
  have bV : Below w.heap.size w V := by rw [hV]; exact (below_self w).alloc (Nat.le_refl _) _
  have rV : Hid (DkAt V w.heap.size none 0 0 none 0 0) := by rw [hV]; exact Lib.hid (drw_at _ rfl)
  have zV : V.heap.size = w.heap.size + 1 := by rw [hV]; simp
  by_cases hb : n < 0 ∨ 256 < n
  · have e1 : dkNewE n = 2 := by unfold dkNewE; rw [if_pos hb]
    rw [e1, show dkNew n = ⟨[], []⟩ by unfold dkNew; rw [if_neg (by rw [e1]; decide)]]
    have QS := Lib.hid rV.out
    have BS := Lib.hid bV
    have HV := Lib.hid hV
    rw [hV] at QS BS
    by_cases h0 : n < 0
    · have d1 : decide (n < 0) = true := decide_eq_true h0
      clear hV e1 hb
      go_enter Try.func24, Try.ntmps24
      go_wp2_with fail
      refine bodyPost_ret (dresults_cell_tmp Try.results24 _ _ (w.heap.size) 25 _ (0, 0) _ rfl QS.out Try.underlying25 rfl (dkInfo ..)) rfl ?_
      exact ⟨none, 0, 0, none, 0, 0, rfl, rdDk_nil _, BS.out⟩
    · have d1 : decide (n < 0) = false := decide_eq_false h0
      have d2 : decide (256 < n) = true := decide_eq_true (by omega)
      clear hV e1 hb
      go_enter Try.func24, Try.ntmps24
      go_wp2_with fail
      refine bodyPost_ret (dresults_cell_tmp Try.results24 _ _ (w.heap.size) 25 _ (0, 0) _ rfl QS.out Try.underlying25 rfl (dkInfo ..)) rfl ?_
      exact ⟨none, 0, 0, none, 0, 0, rfl, rdDk_nil _, BS.out⟩
  · obtain ⟨k, rfl⟩ : ∃ k : Nat, n = (k : Int) := ⟨n.toNat, by omega⟩
    have hk : k ≤ 256 := by omega
    have e1 : dkNewE (k : Int) = 0 := by unfold dkNewE; rw [if_neg hb]
    have e2 : dkNew (k : Int) = ⟨(List.range k).map (fun _ => List.replicate 256 0), []⟩ := by
      unfold dkNew; rw [if_pos e1]; simp [List.map_const']
    rw [e1, e2]
    have d1 : decide ((k : Int) < 0) = false := decide_eq_false (by omega)
    have d2 : decide ((256 : Int) < (k : Int)) = false := decide_eq_false (by omega)
    have HV := Lib.hid hV
    have ZV := Lib.hid zV
    clear hV e1 e2 hb zV
    go_enter Try.func24, Try.ntmps24
    go_wp2_with (rw [← HV.out]; refine wp_makeSS rfl _ _ rfl .i64 .i64 k rfl rfl (by omega) ?_; intro w3 ho3 hb3)
    obtain ⟨W, hW⟩ : ∃ W, W = w3.alloc (.cells #[.slice (some ⟨V.heap.size, 0, none⟩) k k, .slice none 0 0] 25) := ⟨_, rfl⟩
    rw [← hW]
    have bW : Below w3.heap.size w3 W := by rw [hW]; exact (below_self w3).alloc (Nat.le_refl _) _
    have qW : DkAt W w3.heap.size (some ⟨V.heap.size, 0, none⟩) k k none 0 0 := by rw [hW]; exact drw_at _ rfl
    have SW : SecsI w V.heap.size k (fun _ => List.replicate 256 0) 0 W := SecsI.zero ((ho3.below bW).mono (by have := ZV.out; omega))
    have rW := (rV.out.up hb3).up bW
    have BW := below_then bV (below_then hb3 bW)
    clear hW ho3
    go_loopw [19] (NwI w w3.heap.size V.heap.size k) (fun i _ => k - (intOf i).toNat)
    case atStart => exact ⟨0, by omega, rfl, SW, rW, qW, BW⟩
    case round =>
    obtain ⟨i, hi, rfl, hS, hR, hQ, hB⟩ := hrel
    have HS := Lib.hid hS
    have HR := Lib.hid hR
    have HQ := Lib.hid hQ
    by_cases hlt : i < k
    · have c0 := hQ.c0
      have c1 := hQ.c1
      have lq := hQ.lt
      have l1 : (i : Int) < (k : Int) := by omega
      clear hS hR hQ
      go_wp2_with fail
      refine wp_region_last (S := fun w' => Below wr.heap.size wr w') 5 #[true, true, true, true, true, false] [(0, true), (1, true), (2, true), (3, false), (4, true)] (by kernel_rfl) (by kernel_rfl) (fun _ _ d _ _ h => by cases d <;> exact h) ((Below.refl _ wr).drew) ?_
      iterate 3 (refine seg_take (v := ?_) rfl (Or.inl ⟨by rfl, ?_⟩) ?_; rotate_left; (focus (intro w' hw'; have j0 := (hw'.cell (p := ⟨w3.heap.size, 0, none⟩) lq).trans c0; go_simp <;> with_reducible rfl)); try simp only [Act.put, List.setIfInBounds_toArray, List.set_cons_zero, List.set_cons_succ])
      refine seg_run rfl (fun K hK => ?_)
      rw [if_pos (by rfl)]
      refine op_makeB _ _ rfl .i64 .i64 256 rfl rfl (by omega) ?_
      intro w4 ho4 hb4
      refine hK.out _ _ ((undrew hb4)) ?_
      clear hK
      try simp only [Act.put, List.setIfInBounds_toArray, List.set_cons_zero, List.set_cons_succ]
      iterate 1 (refine seg_take (v := ?_) rfl (Or.inl ⟨by rfl, ?_⟩) ?_; rotate_left; (focus (intro w' hw'; have j0 := (hw'.cell (p := ⟨w3.heap.size, 0, none⟩) lq).trans c0; go_simp <;> with_reducible rfl)); try simp only [Act.put, List.setIfInBounds_toArray, List.set_cons_zero, List.set_cons_succ])
      refine seg_done ?_
      refine last_run rfl (fun K hK => ?_)
      go_simp
      obtain ⟨⟨v9, hv9⟩, hf9⟩ := (HS.out.below (undrew hb4)).cells i hlt
      go_simp
      refine hK.out _ _ ?_
      clear hK
      try simp only [Act.put, List.setIfInBounds_toArray, List.set_cons_zero, List.set_cons_succ]
      have hb4 := undrew hb4
      have HO4 := Lib.hid ho4
      clear ho4
      go_wp2_with fail
      go_roundw
      case rel => exact ⟨i + 1, by omega, by go_num, (HS.out.below hb4).next hlt (HO4.out.mono (by have := hB.size; show w.heap.size ≤ wr.heap.size; omega)) rfl, (heap_setCell_other _ _ _ _ (by have := ZV.out; show w.heap.size ≠ V.heap.size; omega)).trans (HR.out.up hb4), (heap_setCell_other _ _ _ _ (by show w3.heap.size ≠ V.heap.size; exact (HS.out.below hb4).ne (HQ.out.up hb4) (by decide))).trans (HQ.out.up hb4), (below_then hB hb4).setCell (p := ⟨V.heap.size, i, none⟩) (by have := ZV.out; show w.heap.size ≤ V.heap.size; omega) _⟩
      case measure => simp [intOf]; omega
    obtain rfl : k = i := by omega
    have c0 := hQ.c0
    have c1 := hQ.c1
    have y0 := hR.c0
    have y1 := hR.c1
    have f0 := hR.fr 0
    have f1 := hR.fr 1
    have QS := Lib.hid (hR.s01 (some ⟨V.heap.size, 0, none⟩) k k none 0 0)
    clear hS hR hQ
    go_wp2_with fail
    refine bodyPost_ret (dresults_cell_tmp Try.results24 _ _ (w.heap.size) 25 _ (0, 0) _ rfl QS.out Try.underlying25 rfl (dkInfo ..)) rfl ?_
    obtain ⟨vs9, h9⟩ := ((HS.out.far HR.out (by decide) (by decide) 0 (.slice (some ⟨V.heap.size, 0, none⟩) k k)).far (HR.out.s0 (some ⟨V.heap.size, 0, none⟩) k k) (by decide) (by decide) 1 (.slice none 0 0)).done (by omega)
    exact ⟨_, k, k, none, 0, 0, rfl, ⟨⟨vs9, h9⟩, (rdDk_nil _).2⟩, below2 hB (Nat.le_refl _) _ _⟩
/-! ### Write -/
theorem dskClip_any (K : Option Addr) (kn kc : Nat) (us : List Value) (l : List (Int × List UInt8)) (w : World) (hr : RdWs w K kn kc us l) :
    Calls Try.prog 39 #[.slice K kn kc] w (fun e w' => e = .returned (.slice K kn kn) ∧ w' = w) := by
  have h1 := hr.2.2.1
  have h2 := hr.2.2.2.1
  unfold maxLen at h2
  have h3 : (kn : Int) ≤ (kc : Int) := by omega
  rcases hr.1 with h0 | ⟨b, o, rfl, hb, _⟩
  · have hk0 : kn = 0 := by have := hr.2.1; rw [h0] at this; simp at this; omega
    subst hk0
    cases K with
    | none =>
      go_enter Try.func39, Try.ntmps39
      go_wp2_with fail
      go_ret
      exact ⟨rfl, rfl⟩
    | some a =>
      go_enter Try.func39, Try.ntmps39
      go_wp2_with fail
      go_ret
      exact ⟨rfl, rfl⟩
  · go_enter Try.func39, Try.ntmps39
    go_wp2_with fail
    go_ret
    exact ⟨by simp, rfl⟩
/-- A row of the call's own beside another block. -/
theorem own_rowfar {w : World} {base : Nat} {e : TypeId} {v : Value} {n size : Nat} {xs : List Value} (h : w.ownsRow base e size v n xs) (q : Nat) (cs : Array Value) (hq : q < base) : (w.setRow q cs).ownsRow base e size v n xs := by
  refine ⟨h.1, ?_⟩
  rcases h.2 with h0 | ⟨g, cap, cur, rfl, hb, hg, rest⟩
  · exact .inl h0
  · exact .inr ⟨g, cap, cur, rfl, hb, (setRow_other w q g cs (by omega)).trans hg, rest⟩
theorem own_agr {w W : World} {base : Nat} {e : TypeId} {v : Value} {n size : Nat} {xs : List Value} (h : w.ownsRow base e size v n xs) (ha : ∀ j, base ≤ j → j < w.heap.size → W.heap[j]? = w.heap[j]?) : W.ownsRow base e size v n xs := by
  refine ⟨h.1, ?_⟩
  rcases h.2 with h0 | ⟨g, cap, cur, rfl, hb, hg, rest⟩
  · exact .inl h0
  · exact .inr ⟨g, cap, cur, rfl, hb, (ha g hb (drw_lt hg)).trans hg, rest⟩
theorem below_row2 {w w' : World} (hb : Below w.heap.size w w') {q : Nat} {cs cur : Array Value} {T : TypeId} {fr : Nat × Nat} (hq : w.heap[q]? = some (.cells cur T fr)) : Below (w.setRow q cs).heap.size (w.setRow q cs) (w'.setRow q cs) := by
  have hl := drw_lt hq
  refine ⟨hb.os, hb.tape, hb.output, by simpa using hb.size, fun j hj => ?_⟩
  have hj' : j < w.heap.size := by simpa using hj
  by_cases e : j = q
  · subst e
    rw [setRow_heap w j cur cs T fr hq, setRow_heap w' j cur cs T fr ((hb.block j hj').trans hq)]
  · rw [setRow_other w q j cs e, setRow_other w' q j cs e]; exact hb.block j hj'
/-- A disk handed back, and where it stays what it is. -/
def RetDkQ (w : World) (S : Option Addr) (sn sc : Nat) (K : Option Addr) (kn kc : Nat) (D D' : Dk) (er : Int) (e : Ending) (w' : World) : Prop :=
  ∃ S2 sn2 sc2 K2 kn2 kc2, e = .returned (.tuple #[.agg #[.slice S2 sn2 sc2, .slice K2 kn2 kc2], .int .i64 er]) ∧ RdDk w' S2 sn2 sc2 K2 kn2 kc2 D' ∧ Below w.heap.size w w' ∧ ∀ W : World, (∀ j, w.heap.size ≤ j → j < w'.heap.size → W.heap[j]? = w'.heap[j]?) → (∃ vs, RdSS W S sn sc vs D.s) → (∀ us, RdWs w K kn kc us D.k → RdWs W K kn kc us D.k) → (∃ vs, RdSS W S2 sn2 sc2 vs D'.s) ∧ ∃ us, RdWs w' K2 kn2 kc2 us D'.k ∧ RdWs W K2 kn2 kc2 us D'.k
theorem ws_none {w : World} {K : Option Addr} {n c : Nat} {us : List Value} {l : List (Int × List UInt8)} (h : RdWs w K n c us l) : K = none → n = 0 ∧ n = 0 := fun e => by
  subst e
  rcases h.1 with h0 | ⟨b, o, he, _⟩
  · have := h.2.1; rw [h0] at this; simp at this; omega
  · cases he
theorem ws_cells {w : World} {K : Option Addr} {n c : Nat} {us : List Value} {l : List (Int × List UInt8)} (h : RdWs w K n c us l) : ∀ b, K = some b → ∀ j u, us[j]? = some u → w.cell? (b.add j) = some u := fun b e j u hj => by
  subst e
  rcases h.1 with h0 | ⟨b', o, he, _, hc⟩
  · rw [h0] at hj; simp at hj
  · injection he with he; subst he; rw [Addr.add_lit]; exact hc j u hj
theorem one_cells {w : World} {g : Nat} {x y : Value} {T : TypeId} (h : w.heap[g]? = some (.cells #[x, y] T (0, 0))) : ∀ j u, ([x, y] : List Value)[j]? = some u → w.cell? ((⟨g, 0, none⟩ : Addr).add j) = some u := fun j u hj => by
  rw [Addr.add_lit, Nat.zero_add, cell_of_row w g j _ _ _ h]; simpa using hj
theorem dskWrite_no (S : Option Addr) (sn sc : Nat) (K : Option Addr) (kn kc : Nat) (D : Dk) (a : Int) (B : Option Addr) (m d : Nat) (ys : List UInt8) (w : World) (hr : RdDk w S sn sc K kn kc D) (ha : -9223372036854775808 ≤ a ∧ a ≤ 9223372036854775807) (hd : RdB w B m d ys) (h : dkAsk D a ≠ 0) :
    Calls Try.prog 18 #[.agg #[.slice S sn sc, .slice K kn kc], .int .i64 a, .slice B m d] w (RetDkQ w S sn sc K kn kc D D (dkAsk D a)) := by
  obtain ⟨V, hV⟩ : ∃ V, V = (w.alloc (.cells #[.slice S sn sc, .slice K kn kc] 25)).alloc (.cells #[.slice none 0 0, .slice none 0 0] 25) := ⟨_, rfl⟩
  have bV : Below w.heap.size w V := by rw [hV]; exact ((below_self w).alloc (Nat.le_refl _) _).alloc (by simp) _
  have qV : Hid (DkAt V w.heap.size S sn sc K kn kc) := by rw [hV]; exact Lib.hid (drw_old _ (drw_at _ rfl))
  have rV : Hid (DkAt V (w.heap.size + 1) none 0 0 none 0 0) := by rw [hV]; exact Lib.hid (drw_at _ (by simp))
  have HV := Lib.hid hV
  have hnd := hd.n63
  have hkl := hr.kl
  obtain ⟨E, hE⟩ : ∃ E, dkAsk D a = E := ⟨_, rfl⟩
  have H1 := Lib.hid (dskAsked_any S sn sc K kn kc D a V (hr.below bV) ha)
  rw [hE] at H1
  have n1 : (E != 0) = true := bne_iff_ne.2 (by rw [← hE]; exact h)
  rw [hE]
  clear hV h hE
  · skip
    go_enter Try.func18, Try.ntmps18
    go_wp2_with fail
    rw [← HV.out]
    refine H1.out.mono ?_
    rintro e w2 ⟨rfl, hb2⟩
    have q2 := qV.out.up hb2
    have r2 := rV.out.up hb2
    have x0 := q2.c0
    have x1 := q2.c1
    have y0 := r2.c0
    have y1 := r2.c1
    have f0 := r2.fr 0
    have f1 := r2.fr 1
    have QS := Lib.hid (r2.s01 S sn sc K kn kc)
    have B2 := below_then bV hb2
    clear q2 r2
    go_wp2_with fail
    refine bodyPost_ret (dresults_cell_tmp Try.results18 _ _ (w.heap.size + 1) 25 _ (0, 0) _ rfl QS.out Try.underlying25 rfl (dkInfo ..)) rfl ?_
    exact ⟨S, sn, sc, K, kn, kc, rfl, hr.far2 B2 (by omega) _ _, below2 B2 (by omega) _ _, fun W hag hin hin2 => ⟨hin, hr.2.elim fun us hus => ⟨us, hus.below (below2 B2 (by omega) _ _), hin2 us hus⟩⟩⟩
theorem dskWrite_arg (S : Option Addr) (sn sc : Nat) (K : Option Addr) (kn kc : Nat) (D : Dk) (a : Int) (B : Option Addr) (m d : Nat) (ys : List UInt8) (w : World) (hr : RdDk w S sn sc K kn kc D) (ha : -9223372036854775808 ≤ a ∧ a ≤ 9223372036854775807) (hd : RdB w B m d ys) (h : dkAsk D a = 0) (hm : ¬ m = 256) :
    Calls Try.prog 18 #[.agg #[.slice S sn sc, .slice K kn kc], .int .i64 a, .slice B m d] w (RetDkQ w S sn sc K kn kc D D 2) := by
  obtain ⟨V, hV⟩ : ∃ V, V = (w.alloc (.cells #[.slice S sn sc, .slice K kn kc] 25)).alloc (.cells #[.slice none 0 0, .slice none 0 0] 25) := ⟨_, rfl⟩
  have bV : Below w.heap.size w V := by rw [hV]; exact ((below_self w).alloc (Nat.le_refl _) _).alloc (by simp) _
  have qV : Hid (DkAt V w.heap.size S sn sc K kn kc) := by rw [hV]; exact Lib.hid (drw_old _ (drw_at _ rfl))
  have rV : Hid (DkAt V (w.heap.size + 1) none 0 0 none 0 0) := by rw [hV]; exact Lib.hid (drw_at _ (by simp))
  have HV := Lib.hid hV
  have hnd := hd.n63
  have hkl := hr.kl
  obtain ⟨E, hE⟩ : ∃ E, dkAsk D a = E := ⟨_, rfl⟩
  have H1 := Lib.hid (dskAsked_any S sn sc K kn kc D a V (hr.below bV) ha)
  rw [hE] at H1
  obtain rfl : E = 0 := by rw [← hE, h]
  have H2 := Lib.hid (fun W => dskWhole_any B m d W hnd)
  rw [decide_eq_false hm] at H2
  clear hV h hE hm
  · skip
    go_enter Try.func18, Try.ntmps18
    go_wp2_with fail
    rw [← HV.out]
    refine H1.out.mono ?_
    rintro e w2 ⟨rfl, hb2⟩
    have q2 := qV.out.up hb2
    have r2 := rV.out.up hb2
    have x0 := q2.c0
    have x1 := q2.c1
    have y0 := r2.c0
    have y1 := r2.c1
    have f0 := r2.fr 0
    have f1 := r2.fr 1
    have QS := Lib.hid (r2.s01 S sn sc K kn kc)
    have B2 := below_then bV hb2
    clear q2 r2
    go_wp2_with fail
    refine (H2.out w2).mono ?_
    rintro e w3 ⟨rfl, hb3⟩
    have q2 := (qV.out.up hb2).up hb3
    have r2 := (rV.out.up hb2).up hb3
    have x0 := q2.c0
    have x1 := q2.c1
    have y0 := r2.c0
    have y1 := r2.c1
    have f0 := r2.fr 0
    have f1 := r2.fr 1
    have QS := Lib.hid (r2.s01 S sn sc K kn kc)
    have B3 := below_then B2 hb3
    clear q2 r2
    go_wp2_with fail
    refine bodyPost_ret (dresults_cell_tmp Try.results18 _ _ (w.heap.size + 1) 25 _ (0, 0) _ rfl QS.out Try.underlying25 rfl (dkInfo ..)) rfl ?_
    exact ⟨S, sn, sc, K, kn, kc, rfl, hr.far2 B3 (by omega) _ _, below2 B3 (by omega) _ _, fun W hag hin hin2 => ⟨hin, hr.2.elim fun us hus => ⟨us, hus.below (below2 B3 (by omega) _ _), hin2 us hus⟩⟩⟩
theorem dskWrite_full (S : Option Addr) (sn sc : Nat) (K : Option Addr) (kn kc : Nat) (D : Dk) (a : Int) (B : Option Addr) (m d : Nat) (ys : List UInt8) (w : World) (hr : RdDk w S sn sc K kn kc D) (ha : -9223372036854775808 ≤ a ∧ a ≤ 9223372036854775807) (hd : RdB w B m d ys) (h : dkAsk D a = 0) (hm : m = 256) (hk : kn = 512) :
    Calls Try.prog 18 #[.agg #[.slice S sn sc, .slice K kn kc], .int .i64 a, .slice B m d] w (RetDkQ w S sn sc K kn kc D D 4) := by
  subst hk
  obtain ⟨V, hV⟩ : ∃ V, V = (w.alloc (.cells #[.slice S sn sc, .slice K 512 kc] 25)).alloc (.cells #[.slice none 0 0, .slice none 0 0] 25) := ⟨_, rfl⟩
  have bV : Below w.heap.size w V := by rw [hV]; exact ((below_self w).alloc (Nat.le_refl _) _).alloc (by simp) _
  have qV : Hid (DkAt V w.heap.size S sn sc K 512 kc) := by rw [hV]; exact Lib.hid (drw_old _ (drw_at _ rfl))
  have rV : Hid (DkAt V (w.heap.size + 1) none 0 0 none 0 0) := by rw [hV]; exact Lib.hid (drw_at _ (by simp))
  have HV := Lib.hid hV
  have hnd := hd.n63
  have hkl := hr.kl
  obtain ⟨E, hE⟩ : ∃ E, dkAsk D a = E := ⟨_, rfl⟩
  have H1 := Lib.hid (dskAsked_any S sn sc K 512 kc D a V (hr.below bV) ha)
  rw [hE] at H1
  obtain rfl : E = 0 := by rw [← hE, h]
  have H2 := Lib.hid (fun W => dskWhole_any B m d W hnd)
  rw [decide_eq_true hm] at H2
  clear hV h hE hm
  · skip
    go_enter Try.func18, Try.ntmps18
    go_wp2_with fail
    rw [← HV.out]
    refine H1.out.mono ?_
    rintro e w2 ⟨rfl, hb2⟩
    have q2 := qV.out.up hb2
    have r2 := rV.out.up hb2
    have x0 := q2.c0
    have x1 := q2.c1
    have y0 := r2.c0
    have y1 := r2.c1
    have f0 := r2.fr 0
    have f1 := r2.fr 1
    have QS := Lib.hid (r2.s01 S sn sc K 512 kc)
    have B2 := below_then bV hb2
    clear q2 r2
    go_wp2_with fail
    refine (H2.out w2).mono ?_
    rintro e w3 ⟨rfl, hb3⟩
    have q2 := (qV.out.up hb2).up hb3
    have r2 := (rV.out.up hb2).up hb3
    have x0 := q2.c0
    have x1 := q2.c1
    have y0 := r2.c0
    have y1 := r2.c1
    have f0 := r2.fr 0
    have f1 := r2.fr 1
    have QS := Lib.hid (r2.s01 S sn sc K 512 kc)
    have B3 := below_then B2 hb3
    clear q2 r2
    go_wp2_with fail
    refine bodyPost_ret (dresults_cell_tmp Try.results18 _ _ (w.heap.size + 1) 25 _ (0, 0) _ rfl QS.out Try.underlying25 rfl (dkInfo ..)) rfl ?_
    exact ⟨S, sn, sc, K, 512, kc, rfl, hr.far2 B3 (by omega) _ _, below2 B3 (by omega) _ _, fun W hag hin hin2 => ⟨hin, hr.2.elim fun us hus => ⟨us, hus.below (below2 B3 (by omega) _ _), hin2 us hus⟩⟩⟩
theorem dskWrite_ok (S : Option Addr) (sn sc : Nat) (K : Option Addr) (kn kc : Nat) (D : Dk) (a : Int) (B : Option Addr) (m d : Nat) (ys : List UInt8) (w : World) (hr : RdDk w S sn sc K kn kc D) (ha : -9223372036854775808 ≤ a ∧ a ≤ 9223372036854775807) (hd : RdB w B m d ys) (h : dkAsk D a = 0) (hm : m = 256) (hk : ¬ kn = 512) :
    Calls Try.prog 18 #[.agg #[.slice S sn sc, .slice K kn kc], .int .i64 a, .slice B m d] w (RetDkQ w S sn sc K kn kc D ⟨D.s, D.k ++ [(a, ys)]⟩ 0) := by
  obtain ⟨V, hV⟩ : ∃ V, V = (w.alloc (.cells #[.slice S sn sc, .slice K kn kc] 25)).alloc (.cells #[.slice none 0 0, .slice none 0 0] 25) := ⟨_, rfl⟩
  have bV : Below w.heap.size w V := by rw [hV]; exact ((below_self w).alloc (Nat.le_refl _) _).alloc (by simp) _
  have qV : Hid (DkAt V w.heap.size S sn sc K kn kc) := by rw [hV]; exact Lib.hid (drw_old _ (drw_at _ rfl))
  have rV : Hid (DkAt V (w.heap.size + 1) none 0 0 none 0 0) := by rw [hV]; exact Lib.hid (drw_at _ (by simp))
  have HV := Lib.hid hV
  have hnd := hd.n63
  have hkl := hr.kl
  obtain ⟨E, hE⟩ : ∃ E, dkAsk D a = E := ⟨_, rfl⟩
  have H1 := Lib.hid (dskAsked_any S sn sc K kn kc D a V (hr.below bV) ha)
  rw [hE] at H1
  obtain rfl : E = 0 := by rw [← hE, h]
  have hok : dkOk D = true := by
    unfold dkAsk at h
    cases hx : dkOk D with
    | true => rfl
    | false => rw [if_pos hx] at h; cases h
  have hk5 : kn ≤ 512 := by rw [← hkl]; exact ((dkOk_iff D).1 hok).2.1
  have H2 := Lib.hid (fun W => dskWhole_any B m d W hnd)
  rw [decide_eq_true hm] at H2
  have hkb : ((kn : Int) == 512) = false := beq_eq_false_iff_ne.2 (by omega)
  obtain ⟨⟨vs, hs⟩, us, hus⟩ := id hr
  have hdl := hd.2.1
  have HDL := Lib.hid hdl
  have HM := Lib.hid hm
  have HUS := Lib.hid hus
  clear hV h hE hdl hok hm
  · skip
    go_enter Try.func18, Try.ntmps18
    go_wp2_with fail
    rw [← HV.out]
    refine H1.out.mono ?_
    rintro e w2 ⟨rfl, hb2⟩
    have q2 := qV.out.up hb2
    have r2 := rV.out.up hb2
    have x0 := q2.c0
    have x1 := q2.c1
    have y0 := r2.c0
    have y1 := r2.c1
    have f0 := r2.fr 0
    have f1 := r2.fr 1
    have QS := Lib.hid (r2.s01 S sn sc K kn kc)
    have B2 := below_then bV hb2
    clear q2 r2
    go_wp2_with fail
    refine (H2.out w2).mono ?_
    rintro e w3 ⟨rfl, hb3⟩
    have Q3 := Lib.hid ((qV.out.up hb2).up hb3)
    have R3 := Lib.hid ((rV.out.up hb2).up hb3)
    have x0 := Q3.out.c0
    have x1 := Q3.out.c1
    have B3 := below_then B2 hb3
    clear y0 y1 f0 f1 QS hkl
    go_wp2_with fail
    refine (dskClip_any K kn kc us D.k w3 (hus.below B3)).mono ?_
    rintro e w4 ⟨rfl, hw4⟩
    subst hw4
    go_wp2_with fail
    refine (clone_any B m d ys w4 (hd.below B3) (by have := HM.out; omega)).mono ?_
    rintro e w5 ⟨A5, n5, c5, rfl, ho5, hb5⟩
    have B5 := below_then B3 hb5
    have Q5 := Lib.hid (Q3.out.up hb5)
    have R5 := Lib.hid (R3.out.up hb5)
    clear x0 x1
    obtain ⟨i, hi, hz, hsz, hby⟩ : ∃ i : TypeInfo, Try.prog.info? 55 = some i ∧ i.zero = some (.agg #[.int .i64 0, .slice none 0 0]) ∧ i.size = 2 ∧ i.bytes = 32 := by
      have h : (Try.prog.info? 55).map (fun i => (i.zero, i.size, i.bytes)) = some (some (.agg #[.int .i64 0, .slice none 0 0]), 2, 32) := by kernel_rfl
      obtain ⟨i, hi, he⟩ := Option.map_eq_some_iff.1 h
      injection he with e1 e2
      injection e2 with e2 e3
      exact ⟨i, hi, e1, e2, e3⟩
    obtain ⟨X, hX⟩ : ∃ X, X = w5.alloc (.cells #[.int .i64 a, .slice A5 n5 c5] 55) := ⟨_, rfl⟩
    have bX : Below w5.heap.size w5 X := by rw [hX]; exact (below_self w5).alloc (Nat.le_refl _) _
    have xr : X.heap[w5.heap.size]? = some (.cells #[.int .i64 a, .slice A5 n5 c5] 55 (0, 0)) := by rw [hX]; exact drw_at _ rfl
    have Q6 := Lib.hid (Q5.out.up bX)
    have R6 := Lib.hid (R5.out.up bX)
    have HO6 := Lib.hid (ho5.below bX)
    have B6 := below_then B5 bX
    have hw6 := hus.below B6
    have HX := Lib.hid hX
    have XR := Lib.hid xr
    have HI := Lib.hid hi
    have HZ := Lib.hid hz
    have HSZ := Lib.hid hsz
    have HBY := Lib.hid hby
    have HW6 := Lib.hid hw6
    clear hX xr hi hz hsz hby hw6 ho5 hus
    go_wp2_with (at_builtin; rw [← HX.out]; refine wpList_append_grows _ rfl _ _ 23 rfl 55 i _ 2 32 Try.underlying23 HI.out HZ.out HSZ.out HBY.out rfl (by decide) K kn kn us rfl (ws_none HW6.out) (by have := HW6.out.2.1; omega) (ws_cells HW6.out) ⟨w5.heap.size, 0, none⟩ 1 1 [.int .i64 a, .slice A5 n5 c5] rfl rfl (one_cells XR.out) (by intro u hu; simp at hu; rcases hu with rfl | rfl <;> rfl) (by omega) (by unfold maxLen; omega) (by omega) ?_; intro v7 w7 hown7 hgrow7; obtain ⟨A7, c7, rfl⟩ := own2_form hown7; have hb7 : Below X.heap.size X w7 := ⟨hgrow7.os, hgrow7.tape, hgrow7.output, hgrow7.size, fun k hk => hgrow7.block k hk (by simp)⟩; have Q7 := Lib.hid (Q6.out.up hb7); have R7 := Lib.hid (R6.out.up hb7); have z0 := Q7.out.c0; have z1 := Q7.out.c1; have g0 := Q7.out.fr 0; have g1 := Q7.out.fr 1; have y0 := R7.out.c0; have y1 := R7.out.c1; have f0 := R7.out.fr 0; have f1 := R7.out.fr 1)
    have r8 : DkAt (w7.setCell ⟨w.heap.size, 1, none⟩ (.slice A7 (kn + 1) c7)) (w.heap.size + 1) none 0 0 none 0 0 := (heap_setCell_other _ _ _ _ (by show w.heap.size + 1 ≠ w.heap.size; omega)).trans R7.out
    have QS := Lib.hid (r8.s01 S sn sc A7 (kn + 1) c7)
    have BF := below2 ((below_then B6 hb7).setCell (p := ⟨w.heap.size, 1, none⟩) (Nat.le_refl w.heap.size) (.slice A7 (kn + 1) c7)) (q := w.heap.size + 1) (by omega) (.slice S sn sc) (.slice A7 (kn + 1) c7)
    have oF := own_far (own_far (own_far hown7 Q7.out (by decide) 1 (.slice A7 (kn + 1) c7)) r8 (by decide) 0 (.slice S sn sc)) (r8.s0 S sn sc) (by decide) 1 (.slice A7 (kn + 1) c7)
    have dF : OwnB _ _ A5 n5 c5 ys := own_far (own_far (own_far (HO6.out.below hb7) Q7.out (by decide) 1 (.slice A7 (kn + 1) c7)) r8 (by decide) 0 (.slice S sn sc)) (r8.s0 S sn sc) (by decide) 1 (.slice A7 (kn + 1) c7)
    obtain ⟨e1, e2, e3, e4⟩ := own2_rd oF
    refine bodyPost_ret (dresults_cell_tmp Try.results18 _ _ (w.heap.size + 1) 25 _ (0, 0) _ rfl QS.out Try.underlying25 rfl (dkInfo ..)) rfl ?_
    have HB := WParts.snoc ha dF.rd (HUS.out.below BF).2.2.2.2
    refine ⟨S, sn, sc, A7, kn + 1, c7, rfl, ⟨⟨vs, hs.below BF⟩, _, e1, e2, e3, e4, HB⟩, BF, fun W hag hin hin2 => ?_⟩
    have hz := B6.size
    have hz4 := B3.size
    have hxs := bX.size
    have hb5s := B5.size
    have oQ := own_agr oF (fun j hj hj2 => hag j (by omega) hj2)
    have dQ : OwnB _ _ A5 n5 c5 ys := own_agr dF (fun j hj hj2 => hag j (by omega) hj2)
    obtain ⟨f1, f2, f3, f4⟩ := own2_rd oQ
    exact ⟨hin, _, ⟨e1, e2, e3, e4, HB⟩, f1, f2, f3, f4, WParts.snoc ha dQ.rd (hin2 us HUS.out).2.2.2.2⟩
theorem dskWriteQ_any (S : Option Addr) (sn sc : Nat) (K : Option Addr) (kn kc : Nat) (D : Dk) (a : Int) (B : Option Addr) (m d : Nat) (ys : List UInt8) (w : World) (hr : RdDk w S sn sc K kn kc D) (ha : -9223372036854775808 ≤ a ∧ a ≤ 9223372036854775807) (hd : RdB w B m d ys) :
    Calls Try.prog 18 #[.agg #[.slice S sn sc, .slice K kn kc], .int .i64 a, .slice B m d] w (RetDkQ w S sn sc K kn kc D (dkWrite D a ys) (dkWriteE D a ys)) := by
  have hl := hd.2.1
  have hkl := hr.kl
  by_cases h : dkAsk D a = 0
  · by_cases hm : m = 256
    · by_cases hk : kn = 512
      · have e : dkWriteE D a ys = 4 := by unfold dkWriteE; rw [if_neg (by simp [h]), if_neg (by simp [hl, hm]), if_pos (by omega)]
        rw [e, show dkWrite D a ys = D by unfold dkWrite; rw [if_neg (by rw [e]; decide)]]
        exact dskWrite_full S sn sc K kn kc D a B m d ys w hr ha hd h hm hk
      · have e : dkWriteE D a ys = 0 := by unfold dkWriteE; rw [if_neg (by simp [h]), if_neg (by simp [hl, hm]), if_neg (by omega)]
        rw [e, show dkWrite D a ys = ⟨D.s, D.k ++ [(a, ys)]⟩ by unfold dkWrite; rw [if_pos e]]
        exact dskWrite_ok S sn sc K kn kc D a B m d ys w hr ha hd h hm hk
    · have e : dkWriteE D a ys = 2 := by unfold dkWriteE; rw [if_neg (by simp [h]), if_pos (by omega)]
      rw [e, show dkWrite D a ys = D by unfold dkWrite; rw [if_neg (by rw [e]; decide)]]
      exact dskWrite_arg S sn sc K kn kc D a B m d ys w hr ha hd h hm
  · have e : dkWriteE D a ys = dkAsk D a := by unfold dkWriteE; rw [if_pos h]
    rw [e, show dkWrite D a ys = D by unfold dkWrite; rw [if_neg (by rw [e]; exact h)]]
    exact dskWrite_no S sn sc K kn kc D a B m d ys w hr ha hd h
theorem dskWrite_any (S : Option Addr) (sn sc : Nat) (K : Option Addr) (kn kc : Nat) (D : Dk) (a : Int) (B : Option Addr) (m d : Nat) (ys : List UInt8) (w : World) (hr : RdDk w S sn sc K kn kc D) (ha : -9223372036854775808 ≤ a ∧ a ≤ 9223372036854775807) (hd : RdB w B m d ys) :
    Calls Try.prog 18 #[.agg #[.slice S sn sc, .slice K kn kc], .int .i64 a, .slice B m d] w (RetDk w (dkWrite D a ys) (dkWriteE D a ys)) := by
  refine (dskWriteQ_any S sn sc K kn kc D a B m d ys w hr ha hd).mono ?_
  rintro e w9 ⟨S2, sn2, sc2, K2, kn2, kc2, h1, h2, h3, _⟩
  exact ⟨S2, sn2, sc2, K2, kn2, kc2, h1, h2, h3⟩
end Go.Proofs.Yteajboafcjeagaa
