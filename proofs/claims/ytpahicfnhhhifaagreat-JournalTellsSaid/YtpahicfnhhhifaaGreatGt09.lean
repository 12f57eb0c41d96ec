/-
 Proved here, for the statement JournalTells:
 Layer 5: disks: New, Write.
 Layer 5: disks: slices.Backward at writes: its walk as an iterator.
-/
import Derived.ArgAppend
import Derived.RangeFuncNested
import Derived.RangeFuncBound
import Derived.RangeFuncCalls
import Derived.RangeFuncLeaves
import Derived.RangeFuncFrom
import Derived.RangeFuncWrites
import Derived.Shelf.Abstract
import Derived.Shelf.RegionOpen
import Derived.OwnWalkIn
import Derived.TacticsInMore
import Derived.LoopNIn
import Derived.LoopIn
import Derived.Test.YtpahicfnhhhifaaGreatGt03
set_option linter.unusedVariables false
set_option linter.unusedSimpArgs false
namespace Go.Proofs.YtpahicfnhhhifaaGreat
set_option maxRecDepth 20000
open Go.RowKit
set_option maxHeartbeats 4000000
theorem own_far {w : World} {base : Nat} {e : TypeId} {v : Value} {n size : Nat} {xs : List Value} (h : w.ownsRow base e size v n xs) {q : Nat} {cs : Array Value} {T : TypeId} {fr : Nat × Nat} (hq : w.heap[q]? = some (.cells cs T fr)) (hne : T ≠ e) (k : Nat) (u : Value) : (w.setCell ⟨q, k, none⟩ u).ownsRow base e size v n xs :=
 down_keepT h (fun g' cur' _ hg' => heap_setCell_other w ⟨q, k, none⟩ g' u (fun e => dtyp_ne hg' hq hne.symm e))
theorem own2_form {w : World} {base : Nat} {e : TypeId} {v : Value} {n : Nat} {xs : List Value} (h : w.ownsRow base e 2 v n xs) : ∃ A c, v = .slice A n c := by
 rcases h.2 with ⟨rfl, rfl⟩ | ⟨g, cap, cur, rfl, _⟩
 ·exact ⟨none, 0, by have := h.1; simp at this; subst this; rfl⟩
 ·exact ⟨_, _, rfl⟩
theorem own2_rd {w : World} {base : Nat} {e : TypeId} {A : Option Addr} {n c : Nat} {xs : List Value} (h : w.ownsRow base e 2 (.slice A n c) n xs) : Rd w A xs ∧ xs.length = 2 * n ∧ n ≤ c ∧ c ≤ maxLen := by
 have hl := h.1
 rcases h.2 with ⟨h1, h2⟩ | ⟨g, cap, cur, hv, hb, hg, hc, hm, hs, ht⟩
 ·injection h1 with e1 e2 e3
  subst e1 e2 e3
  have : xs = [] := List.eq_nil_of_length_eq_zero (by simpa using hl)
  subst this
  exact ⟨.inl rfl, rfl, Nat.le_refl _, by simp [maxLen]⟩
 ·injection hv with e1 e2 e3
  subst e1 e3
  refine ⟨.inr ⟨g, 0, rfl, drw_lt hg, fun i u hu => ?_⟩, by omega, hc, hm⟩
  rw [Nat.zero_add, cell_of_row w g i cur e (0, 0) hg, ← hu, ← ht, List.getElem?_take]
  have hi : i < xs.length := (List.getElem?_eq_some_iff.1 hu).1
  rw [if_pos (by omega)]; simp
theorem SecsI.ne {w0 w : World} {g n i : Nat} {f : Nat → List UInt8} (h : SecsI w0 g n f i w) {q : Nat} {cs : Array Value} {T : TypeId} {fr : Nat × Nat} (hq : w.heap[q]? = some (.cells cs T fr)) (hne : T ≠ 47) : q ≠ g := by
 obtain ⟨vs, a, b⟩ := h
 obtain ⟨cur, hc⟩ := a.row
 exact dtyp_ne hq hc hne
def NwI (w : World) (q g n : Nat) (v : Value) (wr : World) : Prop := ∃ k : Nat, k ≤ n ∧ v = .int .i64 (k : Int) ∧ SecsI w g n (fun _ => List.replicate 256 0) k wr ∧ DkAt wr w.heap.size none 0 0 none 0 0 ∧ DkAt wr q (some ⟨g, 0, none⟩) n n none 0 0 ∧ Below w.heap.size w wr
theorem dskNew_any (n : Int) (w : World) (hn : -9223372036854775808 ≤ n ∧ n ≤ 9223372036854775807) :
  Calls Tryz.prog 78 #[.int .i64 n] w (RetDk w (dkNew n) (dkNewE n)) := by
 obtain ⟨V, hV⟩ : ∃ V, V = w.alloc (.cells #[.slice none 0 0, .slice none 0 0] 40) := ⟨_, rfl⟩
 have bV : Below w.heap.size w V := by rw [hV]; exact (below_self w).alloc (Nat.le_refl _) _
 have rV : Hid (DkAt V w.heap.size none 0 0 none 0 0) := by rw [hV]; exact Lib.hid (drw_at _ rfl)
 have zV : V.heap.size = w.heap.size + 1 := by rw [hV]; simp
 by_cases hb : n < 0 ∨ 256 < n
 ·have e1 : dkNewE n = 2 := by unfold dkNewE; rw [if_pos hb]
  rw [e1, show dkNew n = ⟨[], []⟩ by unfold dkNew; rw [if_neg (by rw [e1]; decide)]]
  have QS := Lib.hid rV.out
  have BS := Lib.hid bV
  have HV := Lib.hid hV
  rw [hV] at QS BS
  by_cases h0 : n < 0
  ·have d1 : decide (n < 0) = true := decide_eq_true h0
   clear hV e1 hb
   go_enter Tryz.func78, Tryz.ntmps78
   go_wp2_with fail
   refine bodyPost_ret (dresults_cell_tmp Tryz.results78 _ _ (w.heap.size) 40 _ (0, 0) _ rfl QS.out Tryz.underlying40 rfl (dkInfo ..)) rfl ?_
   exact ⟨none, 0, 0, none, 0, 0, rfl, rdDk_nil _, BS.out⟩
  ·have d1 : decide (n < 0) = false := decide_eq_false h0
   have d2 : decide (256 < n) = true := decide_eq_true (by omega)
   clear hV e1 hb
   go_enter Tryz.func78, Tryz.ntmps78
   go_wp2_with fail
   refine bodyPost_ret (dresults_cell_tmp Tryz.results78 _ _ (w.heap.size) 40 _ (0, 0) _ rfl QS.out Tryz.underlying40 rfl (dkInfo ..)) rfl ?_
   exact ⟨none, 0, 0, none, 0, 0, rfl, rdDk_nil _, BS.out⟩
 ·obtain ⟨k, rfl⟩ : ∃ k : Nat, n = (k : Int) := ⟨n.toNat, by omega⟩
  have hk : k ≤ 256 := by omega
  have e1 : dkNewE (k : Int) = 0 := by unfold dkNewE; rw [if_neg hb]
  have e2 : dkNew (k : Int) = ⟨(List.range k).map (fun _ => List.replicate 256 0), []⟩ := by
   unfold dkNew; rw [if_pos e1]; simp [List.map_const']
  rw [e1, e2]
  have d1 : decide ((k : Int) < 0) = false := decide_eq_false (by omega)
  have d2 : decide ((256 : Int) < (k : Int)) = false := decide_eq_false (by omega)
  have HV := Lib.hid hV
  have ZV := Lib.hid zV
  clear hV e1 e2 hb zV
  go_enter Tryz.func78, Tryz.ntmps78
  go_wp2_with (rw [← HV.out]; refine wp_makeSS rfl _ _ rfl .i64 .i64 k rfl rfl (by omega) ?_; intro w3 ho3 hb3)
  obtain ⟨W, hW⟩ : ∃ W, W = w3.alloc (.cells #[.slice (some ⟨V.heap.size, 0, none⟩) k k, .slice none 0 0] 40) := ⟨_, rfl⟩
  rw [← hW]
  have bW : Below w3.heap.size w3 W := by rw [hW]; exact (below_self w3).alloc (Nat.le_refl _) _
  have qW : DkAt W w3.heap.size (some ⟨V.heap.size, 0, none⟩) k k none 0 0 := by rw [hW]; exact drw_at _ rfl
  have SW : SecsI w V.heap.size k (fun _ => List.replicate 256 0) 0 W := SecsI.zero ((ho3.below bW).mono (by have := ZV.out; omega))
  have rW := (rV.out.up hb3).up bW
  have BW := below_then bV (below_then hb3 bW)
  clear hW ho3
  go_loopw [19] (NwI w w3.heap.size V.heap.size k) (fun i _ => k - (intOf i).toNat)
  case atStart => exact ⟨0, by omega, rfl, SW, rW, qW, BW⟩
  case round =>
  obtain ⟨i, hi, rfl, hS, hR, hQ, hB⟩ := hrel
  have HS := Lib.hid hS
  have HR := Lib.hid hR
  have HQ := Lib.hid hQ
  by_cases hlt : i < k
  ·have c0 := hQ.c0
   have c1 := hQ.c1
   have lq := hQ.lt
   have l1 : (i : Int) < (k : Int) := by omega
   clear hS hR hQ
   go_wp2_with fail
   refine wp_region_last (S := fun w' => Below wr.heap.size wr w') 5 (brw9 6 31) [(0, true), (1, true), (2, true), (3, false), (4, true)] (by kernel_rfl) (by kernel_rfl) (fun _ _ d _ _ h => by cases d <;> exact h) ((Below.refl _ wr).drew) ?_
   iterate 3 (refine seg_take (v := ?_) rfl (Or.inl ⟨by rfl, ?_⟩) ?_; rotate_left; (focus (intro w' hw'; have j0 := (hw'.cell (p := ⟨w3.heap.size, 0, none⟩) lq).trans c0; go_simp <;> with_reducible rfl)); try simp only [Act.put, pst3])
   refine seg_run rfl (fun K hK => ?_)
   rw [if_pos (by rfl)]
   refine op_makeB _ _ rfl .i64 .i64 256 rfl rfl (by omega) ?_
   intro w4 ho4 hb4
   refine hK.out _ _ ((undrew hb4)) ?_
   clear hK
   try simp only [Act.put, pst3]
   iterate 1 (refine seg_take (v := ?_) rfl (Or.inl ⟨by rfl, ?_⟩) ?_; rotate_left; (focus (intro w' hw'; have j0 := (hw'.cell (p := ⟨w3.heap.size, 0, none⟩) lq).trans c0; go_simp <;> with_reducible rfl)); try simp only [Act.put, pst3])
   refine seg_done ?_
   refine last_run rfl (fun K hK => ?_)
   go_simp
   obtain ⟨⟨v9, hv9⟩, hf9⟩ := (HS.out.below (undrew hb4)).cells i hlt
   go_simp
   refine hK.out _ _ ?_
   clear hK
   try simp only [Act.put, pst3]
   have hb4 := undrew hb4
   have HO4 := Lib.hid ho4
   clear ho4
   go_wp2_with fail
   go_roundw
   case rel => exact ⟨i + 1, by omega, by go_num, (HS.out.below hb4).next hlt (HO4.out.mono (by have := hB.size; show w.heap.size ≤ wr.heap.size; omega)) rfl, (heap_setCell_other _ _ _ _ (by have := ZV.out; show w.heap.size ≠ V.heap.size; omega)).trans (HR.out.up hb4), (heap_setCell_other _ _ _ _ (by show w3.heap.size ≠ V.heap.size; exact (HS.out.below hb4).ne (HQ.out.up hb4) (by decide))).trans (HQ.out.up hb4), (below_then hB hb4).setCell (p := ⟨V.heap.size, i, none⟩) (by have := ZV.out; show w.heap.size ≤ V.heap.size; omega) _⟩
   case measure => simp [intOf]; omega
  obtain rfl : k = i := by omega
  have c0 := hQ.c0
  have c1 := hQ.c1
  have y0 := hR.c0
  have y1 := hR.c1
  have f0 := hR.fr 0
  have f1 := hR.fr 1
  have QS := Lib.hid (hR.s01 (some ⟨V.heap.size, 0, none⟩) k k none 0 0)
  clear hS hR hQ
  go_wp2_with fail
  refine bodyPost_ret (dresults_cell_tmp Tryz.results78 _ _ (w.heap.size) 40 _ (0, 0) _ rfl QS.out Tryz.underlying40 rfl (dkInfo ..)) rfl ?_
  obtain ⟨vs9, h9⟩ := ((HS.out.far HR.out (by decide) (by decide) 0 (.slice (some ⟨V.heap.size, 0, none⟩) k k)).far (HR.out.s0 (some ⟨V.heap.size, 0, none⟩) k k) (by decide) (by decide) 1 (.slice none 0 0)).done (by omega)
  exact ⟨_, k, k, none, 0, 0, rfl, ⟨⟨vs9, h9⟩, (rdDk_nil _).2⟩, below2 hB (Nat.le_refl _) _ _⟩
theorem dskClip_any (K : Option Addr) (kn kc : Nat) (us : List Value) (l : List (Int × List UInt8)) (w : World) (hr : RdWs w K kn kc us l) :
  Calls Tryz.prog 119 #[.slice K kn kc] w (fun e w' => e = .returned (.slice K kn kn) ∧ w' = w) := by
 have h1 := hr.2.2.1
 have h2 := hr.2.2.2.1
 unfold maxLen at h2
 have h3 : (kn : Int) ≤ (kc : Int) := by omega
 rcases hr.1 with h0 | ⟨b, o, rfl, hb, _⟩
 ·have hk0 : kn = 0 := by have := hr.2.1; rw [h0] at this; simp at this; omega
  subst hk0
  cases K with
  | none =>
   go_enter Tryz.func119, Tryz.ntmps119
   go_wp2_with fail
   go_ret
   exact ⟨rfl, rfl⟩
  | some a =>
   go_enter Tryz.func119, Tryz.ntmps119
   go_wp2_with fail
   go_ret
   exact ⟨rfl, rfl⟩
 ·go_enter Tryz.func119, Tryz.ntmps119
  go_wp2_with fail
  go_ret
  exact ⟨by simp, rfl⟩
theorem own_agr {w W : World} {base : Nat} {e : TypeId} {v : Value} {n size : Nat} {xs : List Value} (h : w.ownsRow base e size v n xs) (ha : ∀ j, base ≤ j → j < w.heap.size → W.heap[j]? = w.heap[j]?) : W.ownsRow base e size v n xs := by
 refine ⟨h.1, ?_⟩
 rcases h.2 with h0 | ⟨g, cap, cur, rfl, hb, hg, rest⟩
 ·exact .inl h0
 ·exact .inr ⟨g, cap, cur, rfl, hb, (ha g hb (drw_lt hg)).trans hg, rest⟩
def RetDkQ (w : World) (S : Option Addr) (sn sc : Nat) (K : Option Addr) (kn kc : Nat) (D D' : Dk) (er : Int) (e : Ending) (w' : World) : Prop :=
 ∃ S2 sn2 sc2 K2 kn2 kc2, e = .returned (.tuple #[.agg #[.slice S2 sn2 sc2, .slice K2 kn2 kc2], .int .i64 er]) ∧ RdDk w' S2 sn2 sc2 K2 kn2 kc2 D' ∧ Below w.heap.size w w' ∧ ∀ W : World, (∀ j, w.heap.size ≤ j → j < w'.heap.size → W.heap[j]? = w'.heap[j]?) → (∃ vs, RdSS W S sn sc vs D.s) → (∀ us, RdWs w K kn kc us D.k → RdWs W K kn kc us D.k) → (∃ vs, RdSS W S2 sn2 sc2 vs D'.s) ∧ ∃ us, RdWs w' K2 kn2 kc2 us D'.k ∧ RdWs W K2 kn2 kc2 us D'.k
theorem ws_none {w : World} {K : Option Addr} {n c : Nat} {us : List Value} {l : List (Int × List UInt8)} (h : RdWs w K n c us l) : K = none → n = 0 ∧ n = 0 := fun e => by
 subst e
 rcases h.1 with h0 | ⟨b, o, he, _⟩
 ·have := h.2.1; rw [h0] at this; simp at this; omega
 ·cases he
theorem ws_cells {w : World} {K : Option Addr} {n c : Nat} {us : List Value} {l : List (Int × List UInt8)} (h : RdWs w K n c us l) : ∀ b, K = some b → ∀ j u, us[j]? = some u → w.cell? (b.add j) = some u := fun b e j u hj => by
 subst e
 rcases h.1 with h0 | ⟨b', o, he, _, hc⟩
 ·rw [h0] at hj; simp at hj
 ·injection he with he; subst he; rw [Addr.add_lit]; exact hc j u hj
theorem one_cells {w : World} {g : Nat} {x y : Value} {T : TypeId} (h : w.heap[g]? = some (.cells #[x, y] T (0, 0))) : ∀ j u, ([x, y] : List Value)[j]? = some u → w.cell? ((⟨g, 0, none⟩ : Addr).add j) = some u := fun j u hj => by
 rw [Addr.add_lit, Nat.zero_add, cell_of_row w g j _ _ _ h]; simpa using hj
theorem dskWrite_no (S : Option Addr) (sn sc : Nat) (K : Option Addr) (kn kc : Nat) (D : Dk) (a : Int) (B : Option Addr) (m d : Nat) (ys : List UInt8) (w : World) (hr : RdDk w S sn sc K kn kc D) (ha : -9223372036854775808 ≤ a ∧ a ≤ 9223372036854775807) (hd : RdB w B m d ys) (h : dkAsk D a ≠ 0) :
  Calls Tryz.prog 79 #[.agg #[.slice S sn sc, .slice K kn kc], .int .i64 a, .slice B m d] w (RetDkQ w S sn sc K kn kc D D (dkAsk D a)) := by
 obtain ⟨V, hV⟩ : ∃ V, V = (w.alloc (.cells #[.slice S sn sc, .slice K kn kc] 40)).alloc (.cells #[.slice none 0 0, .slice none 0 0] 40) := ⟨_, rfl⟩
 have bV : Below w.heap.size w V := by rw [hV]; exact ((below_self w).alloc (Nat.le_refl _) _).alloc (by simp) _
 have qV : Hid (DkAt V w.heap.size S sn sc K kn kc) := by rw [hV]; exact Lib.hid (drw_old _ (drw_at _ rfl))
 have rV : Hid (DkAt V (w.heap.size + 1) none 0 0 none 0 0) := by rw [hV]; exact Lib.hid (drw_at _ (by simp))
 have HV := Lib.hid hV
 have hnd := hd.n63
 have hkl := hr.kl
 obtain ⟨E, hE⟩ : ∃ E, dkAsk D a = E := ⟨_, rfl⟩
 have H1 := Lib.hid (dskAsked_any S sn sc K kn kc D a V (hr.below bV) ha)
 rw [hE] at H1
 have n1 : (E != 0) = true := bne_iff_ne.2 (by rw [← hE]; exact h)
 rw [hE]
 clear hV h hE
 ·skip
  go_enter Tryz.func79, Tryz.ntmps79
  go_wp2_with fail
  rw [← HV.out]
  refine H1.out.mono ?_
  rintro e w2 ⟨rfl, hb2⟩
  have q2 := qV.out.up hb2
  have r2 := rV.out.up hb2
  have x0 := q2.c0
  have x1 := q2.c1
  have y0 := r2.c0
  have y1 := r2.c1
  have f0 := r2.fr 0
  have f1 := r2.fr 1
  have QS := Lib.hid (r2.s01 S sn sc K kn kc)
  have B2 := below_then bV hb2
  clear q2 r2
  go_wp2_with fail
  refine bodyPost_ret (dresults_cell_tmp Tryz.results79 _ _ (w.heap.size + 1) 40 _ (0, 0) _ rfl QS.out Tryz.underlying40 rfl (dkInfo ..)) rfl ?_
  exact ⟨S, sn, sc, K, kn, kc, rfl, hr.far2 B2 (by omega) _ _, below2 B2 (by omega) _ _, fun W hag hin hin2 => ⟨hin, hr.2.elim fun us hus => ⟨us, hus.below (below2 B2 (by omega) _ _), hin2 us hus⟩⟩⟩
theorem dskWrite_arg (S : Option Addr) (sn sc : Nat) (K : Option Addr) (kn kc : Nat) (D : Dk) (a : Int) (B : Option Addr) (m d : Nat) (ys : List UInt8) (w : World) (hr : RdDk w S sn sc K kn kc D) (ha : -9223372036854775808 ≤ a ∧ a ≤ 9223372036854775807) (hd : RdB w B m d ys) (h : dkAsk D a = 0) (hm : ¬ m = 256) :
  Calls Tryz.prog 79 #[.agg #[.slice S sn sc, .slice K kn kc], .int .i64 a, .slice B m d] w (RetDkQ w S sn sc K kn kc D D 2) := by
 obtain ⟨V, hV⟩ : ∃ V, V = (w.alloc (.cells #[.slice S sn sc, .slice K kn kc] 40)).alloc (.cells #[.slice none 0 0, .slice none 0 0] 40) := ⟨_, rfl⟩
 have bV : Below w.heap.size w V := by rw [hV]; exact ((below_self w).alloc (Nat.le_refl _) _).alloc (by simp) _
 have qV : Hid (DkAt V w.heap.size S sn sc K kn kc) := by rw [hV]; exact Lib.hid (drw_old _ (drw_at _ rfl))
 have rV : Hid (DkAt V (w.heap.size + 1) none 0 0 none 0 0) := by rw [hV]; exact Lib.hid (drw_at _ (by simp))
 have HV := Lib.hid hV
 have hnd := hd.n63
 have hkl := hr.kl
 obtain ⟨E, hE⟩ : ∃ E, dkAsk D a = E := ⟨_, rfl⟩
 have H1 := Lib.hid (dskAsked_any S sn sc K kn kc D a V (hr.below bV) ha)
 rw [hE] at H1
 obtain rfl : E = 0 := by rw [← hE, h]
 have H2 := Lib.hid (fun W => dskWhole_any B m d W hnd)
 rw [decide_eq_false hm] at H2
 clear hV h hE hm
 ·skip
  go_enter Tryz.func79, Tryz.ntmps79
  go_wp2_with fail
  rw [← HV.out]
  refine H1.out.mono ?_
  rintro e w2 ⟨rfl, hb2⟩
  have q2 := qV.out.up hb2
  have r2 := rV.out.up hb2
  have x0 := q2.c0
  have x1 := q2.c1
  have y0 := r2.c0
  have y1 := r2.c1
  have f0 := r2.fr 0
  have f1 := r2.fr 1
  have QS := Lib.hid (r2.s01 S sn sc K kn kc)
  have B2 := below_then bV hb2
  clear q2 r2
  go_wp2_with fail
  refine (H2.out w2).mono ?_
  rintro e w3 ⟨rfl, hb3⟩
  have q2 := (qV.out.up hb2).up hb3
  have r2 := (rV.out.up hb2).up hb3
  have x0 := q2.c0
  have x1 := q2.c1
  have y0 := r2.c0
  have y1 := r2.c1
  have f0 := r2.fr 0
  have f1 := r2.fr 1
  have QS := Lib.hid (r2.s01 S sn sc K kn kc)
  have B3 := below_then B2 hb3
  clear q2 r2
  go_wp2_with fail
  refine bodyPost_ret (dresults_cell_tmp Tryz.results79 _ _ (w.heap.size + 1) 40 _ (0, 0) _ rfl QS.out Tryz.underlying40 rfl (dkInfo ..)) rfl ?_
  exact ⟨S, sn, sc, K, kn, kc, rfl, hr.far2 B3 (by omega) _ _, below2 B3 (by omega) _ _, fun W hag hin hin2 => ⟨hin, hr.2.elim fun us hus => ⟨us, hus.below (below2 B3 (by omega) _ _), hin2 us hus⟩⟩⟩
theorem dskWrite_full (S : Option Addr) (sn sc : Nat) (K : Option Addr) (kn kc : Nat) (D : Dk) (a : Int) (B : Option Addr) (m d : Nat) (ys : List UInt8) (w : World) (hr : RdDk w S sn sc K kn kc D) (ha : -9223372036854775808 ≤ a ∧ a ≤ 9223372036854775807) (hd : RdB w B m d ys) (h : dkAsk D a = 0) (hm : m = 256) (hk : kn = 512) :
  Calls Tryz.prog 79 #[.agg #[.slice S sn sc, .slice K kn kc], .int .i64 a, .slice B m d] w (RetDkQ w S sn sc K kn kc D D 4) := by
 subst hk
 obtain ⟨V, hV⟩ : ∃ V, V = (w.alloc (.cells #[.slice S sn sc, .slice K 512 kc] 40)).alloc (.cells #[.slice none 0 0, .slice none 0 0] 40) := ⟨_, rfl⟩
 have bV : Below w.heap.size w V := by rw [hV]; exact ((below_self w).alloc (Nat.le_refl _) _).alloc (by simp) _
 have qV : Hid (DkAt V w.heap.size S sn sc K 512 kc) := by rw [hV]; exact Lib.hid (drw_old _ (drw_at _ rfl))
 have rV : Hid (DkAt V (w.heap.size + 1) none 0 0 none 0 0) := by rw [hV]; exact Lib.hid (drw_at _ (by simp))
 have HV := Lib.hid hV
 have hnd := hd.n63
 have hkl := hr.kl
 obtain ⟨E, hE⟩ : ∃ E, dkAsk D a = E := ⟨_, rfl⟩
 have H1 := Lib.hid (dskAsked_any S sn sc K 512 kc D a V (hr.below bV) ha)
 rw [hE] at H1
 obtain rfl : E = 0 := by rw [← hE, h]
 have H2 := Lib.hid (fun W => dskWhole_any B m d W hnd)
 rw [decide_eq_true hm] at H2
 clear hV h hE hm
 ·skip
  go_enter Tryz.func79, Tryz.ntmps79
  go_wp2_with fail
  rw [← HV.out]
  refine H1.out.mono ?_
  rintro e w2 ⟨rfl, hb2⟩
  have q2 := qV.out.up hb2
  have r2 := rV.out.up hb2
  have x0 := q2.c0
  have x1 := q2.c1
  have y0 := r2.c0
  have y1 := r2.c1
  have f0 := r2.fr 0
  have f1 := r2.fr 1
  have QS := Lib.hid (r2.s01 S sn sc K 512 kc)
  have B2 := below_then bV hb2
  clear q2 r2
  go_wp2_with fail
  refine (H2.out w2).mono ?_
  rintro e w3 ⟨rfl, hb3⟩
  have q2 := (qV.out.up hb2).up hb3
  have r2 := (rV.out.up hb2).up hb3
  have x0 := q2.c0
  have x1 := q2.c1
  have y0 := r2.c0
  have y1 := r2.c1
  have f0 := r2.fr 0
  have f1 := r2.fr 1
  have QS := Lib.hid (r2.s01 S sn sc K 512 kc)
  have B3 := below_then B2 hb3
  clear q2 r2
  go_wp2_with fail
  refine bodyPost_ret (dresults_cell_tmp Tryz.results79 _ _ (w.heap.size + 1) 40 _ (0, 0) _ rfl QS.out Tryz.underlying40 rfl (dkInfo ..)) rfl ?_
  exact ⟨S, sn, sc, K, 512, kc, rfl, hr.far2 B3 (by omega) _ _, below2 B3 (by omega) _ _, fun W hag hin hin2 => ⟨hin, hr.2.elim fun us hus => ⟨us, hus.below (below2 B3 (by omega) _ _), hin2 us hus⟩⟩⟩
theorem dskWrite_ok (S : Option Addr) (sn sc : Nat) (K : Option Addr) (kn kc : Nat) (D : Dk) (a : Int) (B : Option Addr) (m d : Nat) (ys : List UInt8) (w : World) (hr : RdDk w S sn sc K kn kc D) (ha : -9223372036854775808 ≤ a ∧ a ≤ 9223372036854775807) (hd : RdB w B m d ys) (h : dkAsk D a = 0) (hm : m = 256) (hk : ¬ kn = 512) :
  Calls Tryz.prog 79 #[.agg #[.slice S sn sc, .slice K kn kc], .int .i64 a, .slice B m d] w (RetDkQ w S sn sc K kn kc D ⟨D.s, D.k ++ [(a, ys)]⟩ 0) := by
 obtain ⟨V, hV⟩ : ∃ V, V = (w.alloc (.cells #[.slice S sn sc, .slice K kn kc] 40)).alloc (.cells #[.slice none 0 0, .slice none 0 0] 40) := ⟨_, rfl⟩
 have bV : Below w.heap.size w V := by rw [hV]; exact ((below_self w).alloc (Nat.le_refl _) _).alloc (by simp) _
 have qV : Hid (DkAt V w.heap.size S sn sc K kn kc) := by rw [hV]; exact Lib.hid (drw_old _ (drw_at _ rfl))
 have rV : Hid (DkAt V (w.heap.size + 1) none 0 0 none 0 0) := by rw [hV]; exact Lib.hid (drw_at _ (by simp))
 have HV := Lib.hid hV
 have hnd := hd.n63
 have hkl := hr.kl
 obtain ⟨E, hE⟩ : ∃ E, dkAsk D a = E := ⟨_, rfl⟩
 have H1 := Lib.hid (dskAsked_any S sn sc K kn kc D a V (hr.below bV) ha)
 rw [hE] at H1
 obtain rfl : E = 0 := by rw [← hE, h]
 have hok : dkOk D = true := by
  unfold dkAsk at h
  cases hx : dkOk D with
  | true => rfl
  | false => rw [if_pos hx] at h; cases h
 have hk5 : kn ≤ 512 := by rw [← hkl]; exact ((dkOk_iff D).1 hok).2.1
 have H2 := Lib.hid (fun W => dskWhole_any B m d W hnd)
 rw [decide_eq_true hm] at H2
 have hkb : ((kn : Int) == 512) = false := beq_eq_false_iff_ne.2 (by omega)
 obtain ⟨⟨vs, hs⟩, us, hus⟩ := id hr
 have hdl := hd.2.1
 have HDL := Lib.hid hdl
 have HM := Lib.hid hm
 have HUS := Lib.hid hus
 clear hV h hE hdl hok hm
 ·skip
  go_enter Tryz.func79, Tryz.ntmps79
  go_wp2_with fail
  rw [← HV.out]
  refine H1.out.mono ?_
  rintro e w2 ⟨rfl, hb2⟩
  have q2 := qV.out.up hb2
  have r2 := rV.out.up hb2
  have x0 := q2.c0
  have x1 := q2.c1
  have y0 := r2.c0
  have y1 := r2.c1
  have f0 := r2.fr 0
  have f1 := r2.fr 1
  have QS := Lib.hid (r2.s01 S sn sc K kn kc)
  have B2 := below_then bV hb2
  clear q2 r2
  go_wp2_with fail
  refine (H2.out w2).mono ?_
  rintro e w3 ⟨rfl, hb3⟩
  have Q3 := Lib.hid ((qV.out.up hb2).up hb3)
  have R3 := Lib.hid ((rV.out.up hb2).up hb3)
  have x0 := Q3.out.c0
  have x1 := Q3.out.c1
  have B3 := below_then B2 hb3
  clear y0 y1 f0 f1 QS hkl
  go_wp2_with fail
  refine (dskClip_any K kn kc us D.k w3 (hus.below B3)).mono ?_
  rintro e w4 ⟨rfl, hw4⟩
  subst hw4
  go_wp2_with fail
  refine (clone_any B m d ys w4 (hd.below B3) (by have := HM.out; omega)).mono ?_
  rintro e w5 ⟨A5, n5, c5, rfl, ho5, hb5⟩
  have B5 := below_then B3 hb5
  have Q5 := Lib.hid (Q3.out.up hb5)
  have R5 := Lib.hid (R3.out.up hb5)
  clear x0 x1
  obtain ⟨i, hi, hz, hsz, hby⟩ : ∃ i : TypeInfo, Tryz.prog.info? 119 = some i ∧ i.zero = some (.agg #[.int .i64 0, .slice none 0 0]) ∧ i.size = 2 ∧ i.bytes = 32 := by
   have h : (Tryz.prog.info? 119).map (fun i => (i.zero, i.size, i.bytes)) = some (some (.agg #[.int .i64 0, .slice none 0 0]), 2, 32) := by kernel_rfl
   obtain ⟨i, hi, he⟩ := Option.map_eq_some_iff.1 h
   injection he with e1 e2
   injection e2 with e2 e3
   exact ⟨i, hi, e1, e2, e3⟩
  obtain ⟨X, hX⟩ : ∃ X, X = w5.alloc (.cells #[.int .i64 a, .slice A5 n5 c5] 119) := ⟨_, rfl⟩
  have bX : Below w5.heap.size w5 X := by rw [hX]; exact (below_self w5).alloc (Nat.le_refl _) _
  have xr : X.heap[w5.heap.size]? = some (.cells #[.int .i64 a, .slice A5 n5 c5] 119 (0, 0)) := by rw [hX]; exact drw_at _ rfl
  have Q6 := Lib.hid (Q5.out.up bX)
  have R6 := Lib.hid (R5.out.up bX)
  have HO6 := Lib.hid (ho5.below bX)
  have B6 := below_then B5 bX
  have hw6 := hus.below B6
  have HX := Lib.hid hX
  have XR := Lib.hid xr
  have HI := Lib.hid hi
  have HZ := Lib.hid hz
  have HSZ := Lib.hid hsz
  have HBY := Lib.hid hby
  have HW6 := Lib.hid hw6
  clear hX xr hi hz hsz hby hw6 ho5 hus
  go_wp2_with (at_builtin; rw [← HX.out]; refine wpList_append_grows _ rfl _ _ 38 rfl 119 i _ 2 32 Tryz.underlying38 HI.out HZ.out HSZ.out HBY.out rfl (by decide) K kn kn us rfl (ws_none HW6.out) (by have := HW6.out.2.1; omega) (ws_cells HW6.out) ⟨w5.heap.size, 0, none⟩ 1 1 [.int .i64 a, .slice A5 n5 c5] rfl rfl (one_cells XR.out) (by intro u hu; simp at hu; rcases hu with rfl | rfl <;> rfl) (by omega) (by unfold maxLen; omega) (by omega) ?_; intro v7 w7 hown7 hgrow7; obtain ⟨A7, c7, rfl⟩ := own2_form hown7; have hb7 : Below X.heap.size X w7 := ⟨hgrow7.os, hgrow7.tape, hgrow7.output, hgrow7.size, fun k hk => hgrow7.block k hk (by simp)⟩; have Q7 := Lib.hid (Q6.out.up hb7); have R7 := Lib.hid (R6.out.up hb7); have z0 := Q7.out.c0; have z1 := Q7.out.c1; have g0 := Q7.out.fr 0; have g1 := Q7.out.fr 1; have y0 := R7.out.c0; have y1 := R7.out.c1; have f0 := R7.out.fr 0; have f1 := R7.out.fr 1)
  have r8 : DkAt (w7.setCell ⟨w.heap.size, 1, none⟩ (.slice A7 (kn + 1) c7)) (w.heap.size + 1) none 0 0 none 0 0 := (heap_setCell_other _ _ _ _ (by show w.heap.size + 1 ≠ w.heap.size; omega)).trans R7.out
  have QS := Lib.hid (r8.s01 S sn sc A7 (kn + 1) c7)
  have BF := below2 ((below_then B6 hb7).setCell (p := ⟨w.heap.size, 1, none⟩) (Nat.le_refl w.heap.size) (.slice A7 (kn + 1) c7)) (q := w.heap.size + 1) (by omega) (.slice S sn sc) (.slice A7 (kn + 1) c7)
  have oF := own_far (own_far (own_far hown7 Q7.out (by decide) 1 (.slice A7 (kn + 1) c7)) r8 (by decide) 0 (.slice S sn sc)) (r8.s0 S sn sc) (by decide) 1 (.slice A7 (kn + 1) c7)
  have dF : OwnB _ _ A5 n5 c5 ys := own_far (own_far (own_far (HO6.out.below hb7) Q7.out (by decide) 1 (.slice A7 (kn + 1) c7)) r8 (by decide) 0 (.slice S sn sc)) (r8.s0 S sn sc) (by decide) 1 (.slice A7 (kn + 1) c7)
  obtain ⟨e1, e2, e3, e4⟩ := own2_rd oF
  refine bodyPost_ret (dresults_cell_tmp Tryz.results79 _ _ (w.heap.size + 1) 40 _ (0, 0) _ rfl QS.out Tryz.underlying40 rfl (dkInfo ..)) rfl ?_
  have HB := WParts.snoc ha dF.rd (HUS.out.below BF).2.2.2.2
  refine ⟨S, sn, sc, A7, kn + 1, c7, rfl, ⟨⟨vs, hs.below BF⟩, _, e1, e2, e3, e4, HB⟩, BF, fun W hag hin hin2 => ?_⟩
  have hz := B6.size
  have hz4 := B3.size
  have hxs := bX.size
  have hb5s := B5.size
  have oQ := own_agr oF (fun j hj hj2 => hag j (by omega) hj2)
  have dQ : OwnB _ _ A5 n5 c5 ys := own_agr dF (fun j hj hj2 => hag j (by omega) hj2)
  obtain ⟨f1, f2, f3, f4⟩ := own2_rd oQ
  exact ⟨hin, _, ⟨e1, e2, e3, e4, HB⟩, f1, f2, f3, f4, WParts.snoc ha dQ.rd (hin2 us HUS.out).2.2.2.2⟩
theorem dskWriteQ_any (S : Option Addr) (sn sc : Nat) (K : Option Addr) (kn kc : Nat) (D : Dk) (a : Int) (B : Option Addr) (m d : Nat) (ys : List UInt8) (w : World) (hr : RdDk w S sn sc K kn kc D) (ha : -9223372036854775808 ≤ a ∧ a ≤ 9223372036854775807) (hd : RdB w B m d ys) :
  Calls Tryz.prog 79 #[.agg #[.slice S sn sc, .slice K kn kc], .int .i64 a, .slice B m d] w (RetDkQ w S sn sc K kn kc D (dkWrite D a ys) (dkWriteE D a ys)) := by
 have hl := hd.2.1
 have hkl := hr.kl
 by_cases h : dkAsk D a = 0
 ·by_cases hm : m = 256
  ·by_cases hk : kn = 512
   ·have e : dkWriteE D a ys = 4 := by unfold dkWriteE; rw [if_neg (by simp [h]), if_neg (by simp [hl, hm]), if_pos (by omega)]
    rw [e, show dkWrite D a ys = D by unfold dkWrite; rw [if_neg (by rw [e]; decide)]]
    exact dskWrite_full S sn sc K kn kc D a B m d ys w hr ha hd h hm hk
   ·have e : dkWriteE D a ys = 0 := by unfold dkWriteE; rw [if_neg (by simp [h]), if_neg (by simp [hl, hm]), if_neg (by omega)]
    rw [e, show dkWrite D a ys = ⟨D.s, D.k ++ [(a, ys)]⟩ by unfold dkWrite; rw [if_pos e]]
    exact dskWrite_ok S sn sc K kn kc D a B m d ys w hr ha hd h hm hk
  ·have e : dkWriteE D a ys = 2 := by unfold dkWriteE; rw [if_neg (by simp [h]), if_pos (by omega)]
   rw [e, show dkWrite D a ys = D by unfold dkWrite; rw [if_neg (by rw [e]; decide)]]
   exact dskWrite_arg S sn sc K kn kc D a B m d ys w hr ha hd h hm
 ·have e : dkWriteE D a ys = dkAsk D a := by unfold dkWriteE; rw [if_pos h]
  rw [e, show dkWrite D a ys = D by unfold dkWrite; rw [if_neg (by rw [e]; exact h)]]
  exact dskWrite_no S sn sc K kn kc D a B m d ys w hr ha hd h
end Go.Proofs.YtpahicfnhhhifaaGreat
namespace Go.Proofs.YtpahicfnhhhifaaGreat
set_option maxRecDepth 20000
open Go.RowKit Go.Shelf
set_option maxHeartbeats 8000000
attribute [local go_sem] Oper.semAt_some
def bkV (us : List Value) (ls : List (Int × List UInt8)) (kn x : Nat) : Array Value := #[.int .i64 ((kn - 1 - x : Nat) : Int), .agg #[.int .i64 (ls.getD (kn - 1 - x) (0, [])).1, us.getD ((kn - 1 - x) * 2 + 1) (.slice none 0 0)]]
theorem RdWs.atw {w : World} {A : Option Addr} {n c : Nat} {vs : List Value} {l : List (Int × List UInt8)} (h : RdWs w A n c vs l) (k : Nat) (hk : k < n) :
  ∃ b o B m d, A = some ⟨b, o, none⟩ ∧ b < w.heap.size ∧ w.cell? ⟨b, o + k * 2, none⟩ = some (.int .i64 (l.getD k (0, [])).1) ∧ w.cell? ⟨b, o + k * 2 + 1, none⟩ = some (.slice B m d) ∧ RdB w B m d (l.getD k (0, [])).2 ∧ (-9223372036854775808 ≤ (l.getD k (0, [])).1 ∧ (l.getD k (0, [])).1 ≤ 9223372036854775807) ∧ vs.getD (k * 2 + 1) (.slice none 0 0) = .slice B m d := by
 obtain ⟨b, o, B, m, d, h1, h2, h3, h4, h5, h6, h7⟩ := h.atv k hk
 refine ⟨b, o, B, m, d, h1, h2, h3, h4, h5, h6, ?_⟩
 rw [List.getD, List.getElem?_eq_getElem (by have := h.2.1; omega)] at h7 ⊢
 exact h7
theorem us_slice {w : World} {A : Option Addr} {n c : Nat} {vs : List Value} {l : List (Int × List UInt8)} (h : RdWs w A n c vs l) (x : Nat) : ∃ B m d, vs.getD ((n - 1 - x) * 2 + 1) (.slice none 0 0) = .slice B m d := by
 rcases Nat.eq_zero_or_pos n with rfl | hn
 ·have : vs = [] := List.eq_nil_of_length_eq_zero (by have := h.2.1; omega)
  subst this
  exact ⟨none, 0, 0, rfl⟩
 ·obtain ⟨b, o, B, m, d, _, _, _, _, _, _, e⟩ := h.atw (n - 1 - x) (by omega)
  exact ⟨B, m, d, e⟩
set_option maxRecDepth 100000 in
theorem back1_in (n l Bs : Nat) (Kd : Option Addr) (kn kc : Nat) (us : List Value) (ls : List (Int × List UInt8)) (w0 : World) (hn : 1 ≤ n) (hr : RdWs w0 Kd kn kc us ls) (hkn : kn ≤ 1000000) (J Jx : List Nat → World → Prop) (W : World) (hW : Below w0.heap.size w0 W) (hJ : AbidesFrom W.heap.size J)
  (hY : ∀ pre x W1, J pre W1 → pre.length < kn → x = pre.length → YieldAt Fence.wide (n - 1) Tryz.prog l (bkV us ls kn x) W1 fun e W' => (e = .returned (.bool true) ∧ J (pre ++ [x]) W' ∧ Below w0.heap.size W1 W') ∨ (e = .returned (.bool false) ∧ Jx (pre ++ [x]) W'))
  (hBs : w0.cell? ⟨Bs, 0, none⟩ = some (.slice Kd kn kc)) (hBl : Bs < w0.heap.size) (h0 : J [] W) :
  CallsIn Fence.wide n Tryz.prog 144 #[.func (.yield l) #[] #[], .pointer (some ⟨Bs, 0, none⟩)] W fun e W' => (∃ v, e = .returned v) ∧
   ((∃ ys, ys = List.range kn ∧ J ys W') ∨ (∃ pre, (∃ k, k ≤ kn ∧ pre = List.range k) ∧ Jx pre W')) := by
 refine callsIn_of_wp Tryz.func144 rfl trivial ?_ rfl
 simp only [Tryz.ntmps144, List.size_toArray, List.length_cons, List.length_nil, Nat.reduceAdd, Nat.reduceSub, Array.replicate_succ, Array.replicate_zero, List.push_toArray, List.append_toArray, List.nil_append, List.cons_append]
 have k0 := (hW.cell (p := ⟨Bs, 0, none⟩) hBl).trans hBs
 have w1 : IntKind.i64.wrap ((kn : Int) - 1) = (kn : Int) - 1 := by rw [IntKind.wrap_i64]; omega
 obtain ⟨z, hz⟩ : ∃ z : Int, z = (kn : Int) - 1 := ⟨_, rfl⟩
 rw [← hz] at w1
 have HZ := Lib.hid hz
 have w2 : (kn : Int) - 1 = z := hz.symm
 clear hz
 gi_wp2
 gi_loopw [3] (fun i wr => ∃ k : Nat, k ≤ kn ∧ i = .int .i64 (z - (k : Int)) ∧ J (List.range k) wr ∧ Below w0.heap.size w0 wr) (fun i _ => (intOf i + 1).toNat)
 case atStart => exact ⟨0, Nat.zero_le _, by simp, h0, hW⟩
 case round =>
  obtain ⟨k, hk, rfl, hJs, hB⟩ := hrel
  have k1 := (hB.cell (p := ⟨Bs, 0, none⟩) hBl).trans hBs
  by_cases hlt : k < kn
  ·obtain ⟨j, hj⟩ : ∃ j : Nat, j = kn - 1 - k := ⟨_, rfl⟩
   have hz2 := HZ.out
   have e1 : z - (k : Int) = (j : Int) := by omega
   rw [e1]
   obtain ⟨b, o, B, m, d, rfl, hb, hc0, hc1, hy, hrg, hxv⟩ := (hr.below hB).atw j (by omega)
   have hY2 := hY _ k wr hJs (by rw [List.length_range]; exact hlt) (by rw [List.length_range])
   unfold bkV at hY2
   rw [← hj, hxv] at hY2
   obtain ⟨a, ha⟩ : ∃ a, (ls.getD j (0, [])).1 = a := ⟨_, rfl⟩
   rw [ha] at hY2 hc0
   clear ha hrg hy
   obtain ⟨fn, tmps, assign, body, hy2, hR⟩ := hY2
   have a1 : (0 : Int) ≤ (j : Int) := by omega
   have a2 : (j : Int) < (kn : Int) := by omega
   have a3 : IntKind.i64.wrap ((j : Int) - 1) = (j : Int) - 1 := by rw [IntKind.wrap_i64]; omega
   have HJ2 := Lib.hid hj
   have E1 := Lib.hid e1
   clear hj hxv hz2 e1
   gi_wp2
   refine hR.mono ?_
   rintro e W3 (⟨rfl, hJ3, hk3⟩ | ⟨rfl, hJx3⟩)
   ·gi_wp2
    go_roundw
    case rel => exact ⟨k + 1, by omega, by have := E1.out; congr 1; omega, by rw [List.range_succ]; exact hJ3, hB.trans hk3⟩
    case measure => have := E1.out; simp [intOf]
   ·gi_wp2
    refine bodyPost_ret (results_none rfl _ _ _) rfl ?_
    exact ⟨⟨_, rfl⟩, .inr ⟨_, ⟨k + 1, by omega, List.range_succ.symm⟩, hJx3⟩⟩
  ·obtain rfl : kn = k := by omega
   have hz2 := HZ.out
   have e1 : z - (kn : Int) = -1 := by omega
   rw [e1]
   gi_wp2
   go_end0
   exact ⟨⟨_, rfl⟩, .inl ⟨_, rfl, hJs⟩⟩
theorem back_stops (n Bs : Nat) (Kd : Option Addr) (kn kc : Nat) (us : List Value) (ls : List (Int × List UInt8)) (w0 : World) (hn : 1 ≤ n) (hr : RdWs w0 Kd kn kc us ls) (hkn : kn ≤ 1000000) (hBs : w0.cell? ⟨Bs, 0, none⟩ = some (.slice Kd kn kc)) (hBl : Bs < w0.heap.size) :
  SeqStopsK Fence.wide n Tryz.prog 144 #[.pointer (some ⟨Bs, 0, none⟩)] (bkV us ls kn) (Below w0.heap.size) (fun ys => ys = List.range kn) (fun pre => ∃ k, k ≤ kn ∧ pre = List.range k) kn w0 := by
 intro l J Jx W hW hJ hJx hY h0
 exact back1_in n l Bs Kd kn kc us ls w0 hn hr hkn J Jx W hW hJ (fun pre x W1 hp hl hx => hY pre x W1 hp hl) hBs hBl h0
theorem back_any (Kd : Option Addr) (kn kc : Nat) (w : World) : Calls Tryz.prog 114 #[.slice Kd kn kc] w (fun e w' => e = .returned (.func (.func 144) #[] #[.pointer (some ⟨w.heap.size, 0, none⟩)]) ∧ w'.cell? ⟨w.heap.size, 0, none⟩ = some (.slice Kd kn kc) ∧ Below w.heap.size w w' ∧ w.heap.size < w'.heap.size) := by
 go_enter Tryz.func114, Tryz.ntmps114
 go_wp2
 go_ret
 exact ⟨rfl, (cell_of_row _ _ 0 _ _ _ (drw_at _ rfl)).trans rfl, (below_self w).alloc (Nat.le_refl _) _, by simp⟩
end Go.Proofs.YtpahicfnhhhifaaGreat
namespace Go.Proofs.YtpahicfnhhhifaaGreat
set_option maxRecDepth 20000
open Go.RowKit Go.Shelf
set_option maxHeartbeats 8000000
attribute [local go_sem] Oper.semAt_some
def RdI (w3 : World) (l : List (Int × List UInt8)) (kn : Nat) (i : Int) (pre : List Nat) (W : World) : Prop := (∀ y ∈ pre, (l.getD (kn - 1 - y) (0, [])).1 ≠ i) ∧ Below w3.heap.size w3 W
def RdX (w : World) (q : Nat) (l : List (Int × List UInt8)) (kn : Nat) (i : Int) (c : Code) (pre : List Nat) (W : World) : Prop :=
 c = .ret ∧ (∃ pre' x, pre = pre' ++ [x] ∧ (∀ y ∈ pre', (l.getD (kn - 1 - y) (0, [])).1 ≠ i) ∧ (l.getD (kn - 1 - x) (0, [])).1 = i ∧ ∃ A n cc, W.heap[q]? = some (.cells #[.slice A n cc] 47 (0, 0)) ∧ W.heap[q + 1]? = some (.cells #[.int .i64 0] 34 (0, 0)) ∧ OwnB W w.heap.size A n cc (l.getD (kn - 1 - x) (0, [])).2) ∧ Below w.heap.size w W
def RdA (T : Nat → Nat → Array Value) (us : List Value) (l : List (Int × List UInt8)) (kn : Nat) (x : Nat) (a' : Act) (W : World) : Prop := ∃ g, a' = { tmps := T x g, defers := [] } ∧ W.heap[g]? = some (.cells #[.int .i64 (l.getD (kn - 1 - x) (0, [])).1, us.getD ((kn - 1 - x) * 2 + 1) (.slice none 0 0)] 119 (0, 0))
theorem row_kept {A B : World} {q Bd : Nat} {row : Option Nat} {cs : Array Value} {T : TypeId} {fr : Nat × Nat} (h : A.heap[q]? = some (.cells cs T fr)) (hg : A.grownBy B row) (hr : ∀ r, row = some r → Bd ≤ r ∧ ∃ o : Obj, A.heap[r]? = some o ∧ o.isCells = false) : B.heap[q]? = some (.cells cs T fr) :=
 (hg.block q (drw_lt h) (fun e => by obtain ⟨_, o, ho, hc⟩ := hr q e.symm; rw [h] at ho; cases ho; cases hc)).trans h
theorem rdI_own (w3 : World) (l : List (Int × List UInt8)) (kn : Nat) (i : Int) : OwnFrom w3.heap.size (RdI w3 l kn i) := fun s A B row hs hg hr => ⟨hs.1, hs.2.grown hg hs.2.size (fun q hq => (hr q hq).1)⟩
theorem rdX_own (w : World) (q Bd : Nat) (l : List (Int × List UInt8)) (kn : Nat) (i : Int) (c : Code) (hB : w.heap.size ≤ Bd) : OwnFrom Bd (RdX w q l kn i c) := fun s A B row hs hg hr => by
 obtain ⟨h1, ⟨pre', x, h2, h3, h4, A9, n9, c9, h5, h6, h7⟩, h8⟩ := hs
 exact ⟨h1, ⟨pre', x, h2, h3, h4, A9, n9, c9, row_kept h5 hg hr, row_kept h6 hg hr, down_keepT h7 (fun g' cur' _ hg' => (row_kept hg' hg hr).trans hg'.symm)⟩, h8.grown hg h8.size (fun r e => Nat.le_trans hB (hr r e).1)⟩
theorem keepsD_below {W W' : World} (h : Below W.heap.size W W') : KeepsOthers W W' := ⟨h.size, fun k o hk _ => (h.block k (Array.getElem?_eq_some_iff.1 hk).1).trans hk⟩
theorem idx_hit (l : List (Int × List UInt8)) (i : Int) (j : Nat) (h : (l.getD j (0, [])).1 = i) : ∀ n, j < n → (∀ m, j < m → m < n → (l.getD m (0, [])).1 ≠ i) → dkIdx l (fun _ => true) i n = some j
 | 0, hn, _ => by omega
 | n + 1, hn, hm => by
  unfold dkIdx
  by_cases e : j = n
  ·subst e; rw [if_pos ⟨rfl, h⟩]
  ·rw [if_neg (fun hh => hm n (by omega) (by omega) hh.2)]
   exact idx_hit l i j h n (by omega) (fun m h1 h2 => hm m h1 (by omega))
theorem idx_miss (l : List (Int × List UInt8)) (i : Int) : ∀ n, (∀ m, m < n → (l.getD m (0, [])).1 ≠ i) → dkIdx l (fun _ => true) i n = none
 | 0, _ => rfl
 | n + 1, hm => by
  unfold dkIdx
  rw [if_neg (fun hh => hm n (by omega) hh.2)]
  exact idx_miss l i n (fun m h => hm m (by omega))
def rdV (w : World) (S : Option Addr) (sn sc : Nat) (Kd : Option Addr) (kn kc : Nat) (a : Int) : World := (((w.alloc (.cells #[.slice S sn sc, .slice Kd kn kc] 40)).alloc (.cells #[.int .i64 a] 3)).alloc (.cells #[.slice none 0 0] 47)).alloc (.cells #[.int .i64 0] 34)
theorem dskRead_no (S : Option Addr) (sn sc : Nat) (Kd : Option Addr) (kn kc : Nat) (D : Dk) (a : Int) (w : World) (hr : RdDk w S sn sc Kd kn kc D) (ha : -9223372036854775808 ≤ a ∧ a ≤ 9223372036854775807) (h : dkAsk D a ≠ 0) :
  Calls Tryz.prog 69 #[.agg #[.slice S sn sc, .slice Kd kn kc], .int .i64 a] w (RetBE w [] (dkAsk D a)) := by
 obtain ⟨V, hV⟩ : ∃ V, V = rdV w S sn sc Kd kn kc a := ⟨_, rfl⟩
 unfold rdV at hV
 have bV : Below w.heap.size w V := by rw [hV]; exact ((((below_self w).alloc (Nat.le_refl _) _).alloc (by simp) _).alloc (by simp; omega) _).alloc (by simp; omega) _
 have qV : Hid (DkAt V w.heap.size S sn sc Kd kn kc) := by rw [hV]; exact Lib.hid (drw_old _ (drw_old _ (drw_old _ (drw_at _ rfl))))
 have tV : Hid (V.heap[w.heap.size + 1 + 1]? = some (.cells #[.slice none 0 0] 47 (0, 0))) := by rw [hV]; exact Lib.hid (drw_old _ (drw_at _ (by simp)))
 have eV : Hid (V.heap[w.heap.size + 1 + 1 + 1]? = some (.cells #[.int .i64 0] 34 (0, 0))) := by rw [hV]; exact Lib.hid (drw_at _ (by simp))
 have HV := Lib.hid hV
 obtain ⟨E, hE⟩ : ∃ E, dkAsk D a = E := ⟨_, rfl⟩
 have H1 := Lib.hid (dskAsked_any S sn sc Kd kn kc D a V (hr.below bV) ha)
 rw [hE] at H1 h ⊢
 have n1 : (E != 0) = true := bne_iff_ne.2 h
 clear hV h hE
 go_enter Tryz.func69, Tryz.ntmps69
 go_wp2_with fail
 rw [← HV.out]
 refine H1.out.mono ?_
 rintro e w2 ⟨rfl, hb2⟩
 have t2 := drw_up tV.out hb2
 have e2 := drw_up eV.out hb2
 have y0 := (cell_of_row w2 _ 0 _ _ _ t2).trans (show (#[.slice none 0 0] : Array Value)[0]? = some (.slice none 0 0) from rfl)
 have y1 := (cell_of_row w2 _ 0 _ _ _ e2).trans (show (#[.int .i64 0] : Array Value)[0]? = some (.int .i64 0) from rfl)
 have f0 := frozen_of_row _ _ 0 _ _ t2
 have f1 := frozen_of_row _ _ 0 _ _ e2
 have B2 := below_then bV hb2
 clear t2 e2
 go_wp2_with fail
 refine bodyPost_ret (v := .tuple #[.slice none 0 0, .int .i64 E]) (by simp [results, Tryz.results69, go_sem, y0, y1, f0, f1]) rfl ?_
 exact ⟨none, 0, 0, rfl, OwnB.nilB _ _, (B2.setCell (p := ⟨w.heap.size + 1 + 1, 0, none⟩) (by show _ ≤ _ + 1 + 1; omega) _).setCell (p := ⟨w.heap.size + 1 + 1 + 1, 0, none⟩) (by show _ ≤ _ + 1 + 1 + 1; omega) _⟩
theorem dskRead_ok (S : Option Addr) (sn sc : Nat) (Kd : Option Addr) (kn kc : Nat) (D : Dk) (i : Nat) (w : World) (hr : RdDk w S sn sc Kd kn kc D) (hok : dkOk D = true) (hi : i < sn) (h : dkAsk D (i : Int) = 0) :
  Calls Tryz.prog 69 #[.agg #[.slice S sn sc, .slice Kd kn kc], .int .i64 (i : Int)] w (RetBE w (dkAt D (fun _ => true) i) 0) := by
 obtain ⟨V, hV⟩ : ∃ V, V = rdV w S sn sc Kd kn kc (i : Int) := ⟨_, rfl⟩
 unfold rdV at hV
 have bV : Below w.heap.size w V := by rw [hV]; exact ((((below_self w).alloc (Nat.le_refl _) _).alloc (by simp) _).alloc (by simp; omega) _).alloc (by simp; omega) _
 have qV : Hid (DkAt V w.heap.size S sn sc Kd kn kc) := by rw [hV]; exact Lib.hid (drw_old _ (drw_old _ (drw_old _ (drw_at _ rfl))))
 have aV : Hid (V.heap[w.heap.size + 1]? = some (.cells #[.int .i64 (i : Int)] 3 (0, 0))) := by rw [hV]; exact Lib.hid (drw_old _ (drw_old _ (drw_at _ (by simp))))
 have tV : Hid (V.heap[w.heap.size + 1 + 1]? = some (.cells #[.slice none 0 0] 47 (0, 0))) := by rw [hV]; exact Lib.hid (drw_old _ (drw_at _ (by simp)))
 have eV : Hid (V.heap[w.heap.size + 1 + 1 + 1]? = some (.cells #[.int .i64 0] 34 (0, 0))) := by rw [hV]; exact Lib.hid (drw_at _ (by simp))
 have zV : V.heap.size = w.heap.size + 4 := by rw [hV]; simp
 have HV := Lib.hid hV
 have H1 := Lib.hid (dskAsked_any S sn sc Kd kn kc D (i : Int) V (hr.below bV) (by have := hr.n63; omega))
 rw [h] at H1
 have hkn : kn ≤ 512 := by have := ((dkOk_iff D).1 hok).2.1; have := hr.kl; omega
 obtain ⟨⟨vs, hs⟩, us, hus⟩ := id hr
 have HS := Lib.hid hs
 have HUS := Lib.hid hus
 have HOK := Lib.hid hok
 have ZV := Lib.hid zV
 clear hV h hs hus hok zV
 refine (callsIn_wide (n := 3)).1 ?_
 refine callsIn_of_wp_marks Tryz.func69 rfl trivial ?_ rfl
 simp only [Tryz.ntmps69, List.size_toArray, List.length_cons, List.length_nil, Nat.reduceAdd, Nat.reduceSub, Array.replicate_succ, Array.replicate_zero, List.push_toArray, List.append_toArray, List.nil_append, List.cons_append]
 refine wpIn_wide.2 ?_
 go_wp2_with fail
 rw [← HV.out]
 refine H1.out.mono ?_
 rintro e w2 ⟨rfl, hb2⟩
 have q2 := qV.out.up hb2
 have x0 := q2.c0
 have x1 := q2.c1
 have B2 := below_then bV hb2
 clear q2
 go_wp2_with fail
 refine (back_any Kd kn kc w2).mono ?_
 rintro e w3 ⟨rfl, hcs, hb3, hl3⟩
 have B3 := below_then B2 hb3
 clear x0 x1
 have hl3' : w2.heap.size < w3.heap.size := hl3
 have A3 := Lib.hid (drw_up (drw_up aV.out hb2) hb3)
 have T3 := Lib.hid (drw_up (drw_up tV.out hb2) hb3)
 have E3 := Lib.hid (drw_up (drw_up eV.out hb2) hb3)
 have Q3 := Lib.hid ((qV.out.up hb2).up hb3)
 have W3 := HUS.out.below B3
 have hz3 : w.heap.size + 4 ≤ w3.heap.size := by have := ZV.out; have := hb2.size; omega
 go_wp2_with fail
 refine (wpIn_wide (n := 3)).1 ?_
 refine wpIn_rangeFunc_ownH rfl (by omega) (gf := 144) (lb := #[.pointer (some ⟨w2.heap.size, 0, none⟩)]) rfl trivial (enters_of Tryz.func144 (by kernel_rfl) rfl)
  (back_stops 2 w2.heap.size Kd kn kc us D.k w3 (by omega) W3 (by omega) hcs hl3) (fun h k => h.trans k) (belowK_b (Nat.le_refl _)) (Below.refl _ _) (fun _ => rfl)
  (RdI w3 D.k kn (i : Int)) (RdX w (w.heap.size + 1 + 1) D.k kn (i : Int)) (rdI_own w3 D.k kn (i : Int)) (fun c => rdX_own w _ _ D.k kn (i : Int) c (by omega)) ⟨by simp, Below.refl _ _⟩
  (RdA (fun x g => #[.agg #[.slice S sn sc, .slice Kd kn kc], .int .i64 (i : Int), .pointer (some ⟨w.heap.size, 0, none⟩), .pointer (some ⟨w.heap.size + 1, 0, none⟩), .pointer (some ⟨w.heap.size + 1 + 1, 0, none⟩), .pointer (some ⟨w.heap.size + 1 + 1 + 1, 0, none⟩), .int .i64 0, undef, .pointer (some ⟨g, 0, none⟩), .agg #[.slice S sn sc, .slice Kd kn kc], .int .i64 (i : Int), .int .i64 0, .int .i64 0, .bool false, undef, .pointer (some ⟨w.heap.size, 1, none⟩), .slice Kd kn kc, .func (.func 144) #[] #[.pointer (some ⟨w2.heap.size, 0, none⟩)], .int .i64 ((kn - 1 - x : Nat) : Int), .agg #[.int .i64 (D.k.getD (kn - 1 - x) (0, [])).1, us.getD ((kn - 1 - x) * 2 + 1) (.slice none 0 0)], undef, undef, undef, undef, undef, undef, undef, undef, undef, undef, undef, undef, undef]) us D.k kn)
  (fun x a' _ A B row hs hg hr => by obtain ⟨g, e, h⟩ := hs; exact ⟨g, e, row_kept h hg hr⟩) ?assign ?body ?done ?stop
 case assign =>
  rintro l pre x W K ⟨hne, hB⟩ hK
  obtain ⟨B9, m9, d9, he9⟩ := us_slice W3 x
  unfold bkV
  unfold RdA at hK
  rw [he9] at hK ⊢
  obtain ⟨a9, ha9⟩ : ∃ a9, (D.k.getD (kn - 1 - x) (0, [])).1 = a9 := ⟨_, rfl⟩
  rw [ha9] at hK ⊢
  have hK' := hK _ (W.alloc (.cells #[.int .i64 a9, .slice B9 m9 d9] 119)) ((keepsD_below ((below_self W).alloc (Nat.le_refl _) _)).from _) (((below_self W).alloc (Nat.le_refl _) _).mono hB.size) ⟨hne, below_then hB ((below_self W).alloc (Nat.le_refl _) _)⟩ ⟨W.heap.size, rfl, drw_at _ rfl⟩
  dsimp only at hK'
  rw [ha9, he9] at hK'
  have HK := Lib.hid hK'
  clear hK hK' ha9
  gi_wp2
  exact HK.out
 case body =>
  rintro l pre x a' W hl ⟨rl, hrl⟩ ⟨hne, hB⟩ ⟨g, rfl, hrow⟩ hlt
  obtain ⟨j, hj⟩ : ∃ j, kn - 1 - x = j := ⟨_, rfl⟩
  obtain ⟨b9, o9, B9, m9, d9, he, hb9, hc0, hc1, hy9, hrg, hxv⟩ := (W3.below hB).atw j (by omega)
  rw [hj, hxv] at hrow
  dsimp only
  rw [hj, hxv]
  have hlen := dkOk_klen HOK.out j (by rw [hr.kl]; omega)
  obtain rfl : m9 = 256 := by rw [← hy9.2.1]; exact hlen
  obtain ⟨Y9, hY9⟩ : ∃ Y9, (D.k.getD j (0, [])).2 = Y9 := ⟨_, rfl⟩
  obtain ⟨a9, ha9⟩ : ∃ a9, (D.k.getD j (0, [])).1 = a9 := ⟨_, rfl⟩
  rw [ha9] at hrow ⊢
  rw [hY9] at hy9
  have r0 := (cell_of_row W g 0 _ _ _ hrow).trans (show (#[.int .i64 a9, .slice B9 256 d9] : Array Value)[0]? = some (.int .i64 a9) from rfl)
  have r1 := (cell_of_row W g 1 _ _ _ hrow).trans (show (#[.int .i64 a9, .slice B9 256 d9] : Array Value)[1]? = some (.slice B9 256 d9) from rfl)
  have k3 := (cell_of_row W _ 0 _ _ _ (drw_up A3.out hB)).trans (show (#[.int .i64 (i : Int)] : Array Value)[0]? = some (.int .i64 (i : Int)) from rfl)
  have T4 := Lib.hid (drw_up T3.out hB)
  have E4 := Lib.hid (drw_up E3.out hB)
  have hBs := hB.size
  have BWW := below_then B3 hB
  have HY9 := Lib.hid hY9
  have HA9 := Lib.hid ha9
  have HJ := Lib.hid hj
  have HCL := Lib.hid (clone_any B9 256 d9 Y9 W hy9 (by omega))
  clear hc0 hc1 he hxv hrow hlen ha9 hY9 hj hy9
  by_cases hq : a9 = (i : Int)
  ·have d1 : (a9 == (i : Int)) = true := by rw [hq]; simp
   have HQ := Lib.hid hq
   clear hq
   gi_wp2_with (refine ⟨trivial, ?_⟩; gi_at_call 88; refine (CallsIn.inRound l (callsIn_wide.2 HCL.out)).mono ?_; rintro e W2 ⟨A8, n8, c8, rfl, ho8, hb8⟩; have t5 := drw_up T4.out hb8; have e5 := drw_up E4.out hb8; have y0 := (cell_of_row W2 _ 0 _ _ _ t5).trans (show (#[.slice none 0 0] : Array Value)[0]? = some (.slice none 0 0) from rfl); have y1 := (cell_of_row W2 _ 0 _ _ _ e5).trans (show (#[.int .i64 0] : Array Value)[0]? = some (.int .i64 0) from rfl); have f0 := frozen_of_row _ _ 0 _ _ t5; have f1 := frozen_of_row _ _ 0 _ _ e5; have HO8 := Lib.hid ho8; have T5 := Lib.hid t5; have E5 := Lib.hid e5; clear t5 e5 ho8)
   have e6 : (W2.setCell ⟨w.heap.size + 1 + 1, 0, none⟩ (.slice A8 n8 c8)).heap[w.heap.size + 1 + 1 + 1]? = some (.cells #[.int .i64 0] 34 (0, 0)) := (heap_setCell_other _ _ _ _ (by show w.heap.size + 1 + 1 + 1 ≠ w.heap.size + 1 + 1; omega)).trans E5.out
   refine ⟨((keepsD_below hb8).from _).trans ((KeepsFrom.of_grownBy (grownBy_setCell' W2 (w.heap.size + 1 + 1) _) (fun r e => by cases e; omega)).trans (KeepsFrom.of_grownBy (grownBy_setCell' _ (w.heap.size + 1 + 1 + 1) _) (fun r e => by cases e; omega))), rfl, ⟨pre, x, rfl, hne, by rw [HJ.out, HA9.out, HQ.out], A8, n8, c8, ?_, ?_, ?_⟩, ?_⟩
   ·exact (heap_setCell_other _ _ _ _ (by show w.heap.size + 1 + 1 ≠ w.heap.size + 1 + 1 + 1; omega)).trans ((setc_rowT T5.out).trans rfl)
   ·exact (setc_rowT e6).trans rfl
   ·rw [HJ.out, HY9.out]
    exact own_mono (own_far (own_far HO8.out T5.out (by decide) 0 _) e6 (by decide) 0 _) (by have := BWW.size; omega)
   ·exact ((below_then BWW hb8).setCell (p := ⟨w.heap.size + 1 + 1, 0, none⟩) (by show w.heap.size ≤ w.heap.size + 1 + 1; omega) _).setCell (p := ⟨w.heap.size + 1 + 1 + 1, 0, none⟩) (by show w.heap.size ≤ w.heap.size + 1 + 1 + 1; omega) _
  ·have d1 : (a9 == (i : Int)) = false := beq_eq_false_iff_ne.2 hq
   have HQ := Lib.hid hq
   clear hq
   gi_wp2
   exact ⟨KeepsFrom.refl _ _, Below.refl _ _, fun y hy => (List.mem_append.1 hy).elim (hne y) (fun e => by rw [List.mem_singleton] at e; subst e; rw [HJ.out, HA9.out]; exact HQ.out), hB⟩
 case done =>
  rintro Dd ys W hD rfl ⟨hne, hB⟩ hDf
  have hix : dkIdx D.k (fun _ => true) (i : Int) kn = none := idx_miss _ _ _ (fun m hm => by
   have := hne (kn - 1 - m) (List.mem_range.2 (by omega))
   rwa [show kn - 1 - (kn - 1 - m) = m by omega] at this)
  have hAt : dkAt D (fun _ => true) i = D.s.getD i [] := by unfold dkAt; rw [dkIdx_last, hr.kl, hix]; rfl
  obtain ⟨b9, o9, B9, m9, d9, rfl, hb9, hc, hy9⟩ := ((HS.out.below B3).below hB).at_ i hi
  have hlen := dkOk_slen HOK.out i (by rw [hr.sl]; exact hi)
  obtain rfl : m9 = 256 := by rw [← hy9.2.1]; exact hlen
  obtain ⟨Y9, hY9⟩ : ∃ Y9, D.s.getD i [] = Y9 := ⟨_, rfl⟩
  rw [hY9] at hy9 hAt
  have HAt := Lib.hid hAt
  have x0 := (Q3.out.up hB).c0
  have k3 := (cell_of_row W _ 0 _ _ _ (drw_up A3.out hB)).trans (show (#[.int .i64 (i : Int)] : Array Value)[0]? = some (.int .i64 (i : Int)) from rfl)
  have T4 := Lib.hid (drw_up T3.out hB)
  have E4 := Lib.hid (drw_up E3.out hB)
  have hBs := hB.size
  have BWW := below_then B3 hB
  have HCL := Lib.hid (clone_any B9 256 d9 Y9 W hy9 (by omega))
  have l1 : (i : Int) < (sn : Int) := by omega
  have HDF := Lib.hid hDf
  have HWl := Lib.hid (Array.getElem?_eq_some_iff.1 hDf).1
  clear hlen hy9 hY9 hAt hix hDf hne
  go_wp2_with fail
  refine HCL.out.mono ?_
  rintro e W2 ⟨A8, n8, c8, rfl, ho8, hb8⟩
  have t5 := drw_up T4.out hb8
  have e5 := drw_up E4.out hb8
  have y0 := (cell_of_row W2 _ 0 _ _ _ t5).trans (show (#[.slice none 0 0] : Array Value)[0]? = some (.slice none 0 0) from rfl)
  have y1 := (cell_of_row W2 _ 0 _ _ _ e5).trans (show (#[.int .i64 0] : Array Value)[0]? = some (.int .i64 0) from rfl)
  have f0 := frozen_of_row _ _ 0 _ _ t5
  have f1 := frozen_of_row _ _ 0 _ _ e5
  have HO8 := Lib.hid ho8
  have T5 := Lib.hid t5
  have E5 := Lib.hid e5
  clear t5 e5 ho8 x0 k3
  go_wp2_with fail
  have e6 : (W2.setCell ⟨w.heap.size + 1 + 1, 0, none⟩ (.slice A8 n8 c8)).heap[w.heap.size + 1 + 1 + 1]? = some (.cells #[.int .i64 0] 34 (0, 0)) := (heap_setCell_other _ _ _ _ (by show w.heap.size + 1 + 1 + 1 ≠ w.heap.size + 1 + 1; omega)).trans E5.out
  have hDl := HWl.out
  have hK' : ((W2.setCell ⟨w.heap.size + 1 + 1, 0, none⟩ (.slice A8 n8 c8)).setCell ⟨w.heap.size + 1 + 1 + 1, 0, none⟩ (.int .i64 0)).heap[Dd]? = some (.deferred (some [])) := (heap_setCell_other _ _ _ _ (by show Dd ≠ w.heap.size + 1 + 1 + 1; omega)).trans ((heap_setCell_other _ _ _ _ (by show Dd ≠ w.heap.size + 1 + 1; omega)).trans ((hb8.block Dd hDl).trans HDF.out))
  refine ⟨by simp, .inl ⟨_, _, rfl, run_takeDeferred hK', ?_⟩⟩
  have g1 := row_kept (Bd := 0) ((heap_setCell_other _ _ _ (.int .i64 0) (by show w.heap.size + 1 + 1 ≠ (⟨w.heap.size + 1 + 1 + 1, 0, none⟩ : Addr).block; show w.heap.size + 1 + 1 ≠ w.heap.size + 1 + 1 + 1; omega)).trans ((setc_rowT (v := .slice A8 n8 c8) (i := 0) T5.out).trans rfl)) (grownBy_putObj' _ Dd (.deferred none)) (fun r e => by cases e; exact ⟨Nat.zero_le _, _, hK', rfl⟩)
  have g2 := row_kept (Bd := 0) ((setc_rowT (v := .int .i64 0) (i := 0) e6).trans rfl) (grownBy_putObj' _ Dd (.deferred none)) (fun r e => by cases e; exact ⟨Nat.zero_le _, _, hK', rfl⟩)
  refine ⟨.tuple #[.slice A8 n8 c8, .int .i64 0], by simp [results, Tryz.results69, go_sem, cell_of_row _ _ 0 _ _ _ g1, cell_of_row _ _ 0 _ _ _ g2], ?_⟩
  rw [HAt.out]
  refine ⟨A8, n8, c8, rfl, ?_, ?_⟩
  ·have o9 : OwnB ((W2.setCell ⟨w.heap.size + 1 + 1, 0, none⟩ (.slice A8 n8 c8)).setCell ⟨w.heap.size + 1 + 1 + 1, 0, none⟩ (.int .i64 0)) w.heap.size A8 n8 c8 Y9 := own_mono (own_far (own_far HO8.out T5.out (by decide) 0 _) e6 (by decide) 0 _) (by have := BWW.size; omega)
   exact down_keepT o9 (fun g' cur' _ hg' => (row_kept (Bd := 0) hg' (grownBy_putObj' _ Dd (.deferred none)) (fun r e => by cases e; exact ⟨Nat.zero_le _, _, hK', rfl⟩)).trans hg'.symm)
  ·exact (((below_then BWW hb8).setCell (p := ⟨w.heap.size + 1 + 1, 0, none⟩) (by show w.heap.size ≤ w.heap.size + 1 + 1; omega) _).setCell (p := ⟨w.heap.size + 1 + 1 + 1, 0, none⟩) (by show w.heap.size ≤ w.heap.size + 1 + 1 + 1; omega) _).trans (belowK_b (w := w) (Nat.le_refl _) _ Dd _ _ (by omega) hK' rfl rfl)
 case stop =>
  rintro Dd c pre W hD ⟨k, hk, rfl⟩ ⟨rfl, ⟨pre', x, hpre, hne, hx, A8, n8, c8, r1, r2, ho⟩, hBw⟩ hDf
  obtain ⟨k', rfl⟩ : ∃ k', k = k' + 1 := by
   cases k with
   | zero => simp at hpre
   | succ k' => exact ⟨k', rfl⟩
  rw [List.range_succ] at hpre
  obtain ⟨e1, e2⟩ := List.append_inj' hpre rfl
  injection e2 with e2 _
  subst e1 e2
  have hix : dkIdx D.k (fun _ => true) (i : Int) kn = some (kn - 1 - k') := idx_hit _ _ _ hx kn (by omega) (fun m h1 h2 => by
   have := hne (kn - 1 - m) (List.mem_range.2 (by omega))
   rwa [show kn - 1 - (kn - 1 - m) = m by omega] at this)
  have hAt : dkAt D (fun _ => true) i = (D.k.getD (kn - 1 - k') (0, [])).2 := by unfold dkAt; rw [dkIdx_last, hr.kl, hix]; rfl
  have HAt := Lib.hid hAt
  have HO := Lib.hid ho
  clear hix hAt hx hne ho
  gi_wp2
  refine ⟨by simp, .inl ⟨_, _, rfl, run_takeDeferred hDf, ?_⟩⟩
  have g1 := row_kept (Bd := 0) r1 (grownBy_putObj' _ Dd (.deferred none)) (fun r e => by cases e; exact ⟨Nat.zero_le _, _, hDf, rfl⟩)
  have g2 := row_kept (Bd := 0) r2 (grownBy_putObj' _ Dd (.deferred none)) (fun r e => by cases e; exact ⟨Nat.zero_le _, _, hDf, rfl⟩)
  refine ⟨.tuple #[.slice A8 n8 c8, .int .i64 0], by simp [results, Tryz.results69, go_sem, cell_of_row _ _ 0 _ _ _ g1, cell_of_row _ _ 0 _ _ _ g2], ?_⟩
  rw [HAt.out]
  exact ⟨A8, n8, c8, rfl, down_keepT HO.out (fun g' cur' _ hg' => (row_kept (Bd := 0) hg' (grownBy_putObj' _ Dd (.deferred none)) (fun r e => by cases e; exact ⟨Nat.zero_le _, _, hDf, rfl⟩)).trans hg'.symm), hBw.trans (belowK_b (w := w) (Nat.le_refl _) _ Dd _ _ (by omega) hDf rfl rfl)⟩
theorem dskRead_any (S : Option Addr) (sn sc : Nat) (Kd : Option Addr) (kn kc : Nat) (D : Dk) (a : Int) (w : World) (hr : RdDk w S sn sc Kd kn kc D) (ha : -9223372036854775808 ≤ a ∧ a ≤ 9223372036854775807) :
  Calls Tryz.prog 69 #[.agg #[.slice S sn sc, .slice Kd kn kc], .int .i64 a] w (RetBE w (dkRead D a) (dkAsk D a)) := by
 by_cases h : dkAsk D a = 0
 ·unfold dkRead
  rw [if_pos h]
  have hok : dkOk D = true := by
   unfold dkAsk at h
   cases hx : dkOk D with
   | true => rfl
   | false => rw [if_pos hx] at h; cases h
  have hhas : dkHas D a = true := by
   unfold dkAsk at h
   rw [if_neg (by simp [hok])] at h
   cases hx : dkHas D a with
   | true => rfl
   | false => rw [if_pos hx] at h; cases h
  unfold dkHas at hhas
  rw [Bool.and_eq_true, decide_eq_true_eq, decide_eq_true_eq] at hhas
  obtain ⟨i, rfl⟩ : ∃ i : Nat, a = (i : Int) := ⟨a.toNat, by omega⟩
  rw [Int.toNat_natCast, h]
  exact dskRead_ok S sn sc Kd kn kc D i w hr hok (by have := hr.sl; omega) h
 ·unfold dkRead
  rw [if_neg h]
  exact dskRead_no S sn sc Kd kn kc D a w hr ha h
end Go.Proofs.YtpahicfnhhhifaaGreat
