/-
 Proved here, for the statement JournalLoads:
 Layer 14 (the document): Format.
 Layer 14: the law JournalLoads.
-/
import Derived.Test.YtpahicfnhhhifaaGreatGl25
import Derived.Test.YtpahicfnhhhifaaGreatGl30
set_option linter.unusedVariables false
set_option linter.unusedSimpArgs false
namespace Go.Proofs.YtpahicfnhhhifaaGreat
set_option maxRecDepth 20000
open Go.RowKit
set_option maxHeartbeats 8000000
set_option maxRecDepth 100000 in
theorem refFmt14_no (A : Option Addr) (L c : Nat) (state : List UInt8) (n : Int) (w : World) (hr : RdB w A L c state) (er : Int) (h : ((n < 98 ∨ 256 < n) ∧ er = 2) ∨ ((98 ≤ n ∧ n ≤ 256) ∧ 12288 < L ∧ er = 4)) :
  Calls Tryz.prog 34 #[.slice A L c, .int .i64 n] w (RetDv w ⟨[], []⟩ er) := by
 have hL := hr.n63
 obtain ⟨V, hV⟩ : ∃ V, V = w.alloc (.cells #[.slice none 0 0, .slice none 0 0] 40) := ⟨_, rfl⟩
 have bV : Below w.heap.size w V := by rw [hV]; exact (below_self w).alloc (Nat.le_refl _) _
 have qV : Hid (V.heap[w.heap.size]? = some (.cells #[.slice none 0 0, .slice none 0 0] 40 (0, 0))) := by rw [hV]; exact Lib.hid (drw_at _ rfl)
 have HV := Lib.hid hV
 clear hV
 have fin : ∀ X, X.heap[w.heap.size]? = some (.cells #[.slice none 0 0, .slice none 0 0] 40 (0, 0)) → Below w.heap.size w X → RetDv w ⟨[], []⟩ er (.returned (.tuple #[.agg #[.slice none 0 0, .slice none 0 0], .int .i64 er])) X := fun X _ hb => ⟨_, rfl, dkE_none X, hb⟩
 have k0 := (cell_of_row V _ 0 _ _ _ qV.out).trans rfl
 have k1 := (cell_of_row V _ 1 _ _ _ qV.out).trans rfl
 have f0 := frozen_of_row V _ 0 _ _ qV.out
 have f1 := frozen_of_row V _ 1 _ _ qV.out
 rcases h with ⟨h, rfl⟩ | ⟨h, h2, rfl⟩
 ·have hh : decide (n < 98) = true ∨ (decide (n < 98) = false ∧ decide (256 < n) = true) := by
   simp only [decide_eq_true_eq, decide_eq_false_iff_not]; omega
  clear h
  rcases hh with d1 | ⟨d1, d2⟩
  all_goals
   go_enter Tryz.func34, Tryz.ntmps34
   go_wp2_with (rw [← HV.out])
   have qF : ((V.setCell ⟨w.heap.size, 0, none⟩ (.slice none 0 0)).setCell ⟨w.heap.size, 1, none⟩ (.slice none 0 0)).heap[w.heap.size]? = some (.cells #[.slice none 0 0, .slice none 0 0] 40 (0, 0)) := (setc_rowT (setc_rowT qV.out)).trans rfl
   refine bodyPost_ret (dresults_cell_tmp Tryz.results34 _ _ w.heap.size 40 _ (0, 0) _ rfl qF Tryz.underlying40 rfl disk2) rfl ?_
   exact fin _ qF ((bV.setCell (p := ⟨w.heap.size, 0, none⟩) (Nat.le_refl _) _).setCell (p := ⟨w.heap.size, 1, none⟩) (Nat.le_refl _) _)
 ·have d1 : decide (n < 98) = false := decide_eq_false (by omega)
  have d2 : decide (256 < n) = false := decide_eq_false (by omega)
  have d3 : decide ((12288 : Int) < (L : Int)) = true := decide_eq_true (by omega)
  go_enter Tryz.func34, Tryz.ntmps34
  go_wp2_with (rw [← HV.out])
  have qF : ((V.setCell ⟨w.heap.size, 0, none⟩ (.slice none 0 0)).setCell ⟨w.heap.size, 1, none⟩ (.slice none 0 0)).heap[w.heap.size]? = some (.cells #[.slice none 0 0, .slice none 0 0] 40 (0, 0)) := (setc_rowT (setc_rowT qV.out)).trans rfl
  refine bodyPost_ret (dresults_cell_tmp Tryz.results34 _ _ w.heap.size 40 _ (0, 0) _ rfl qF Tryz.underlying40 rfl disk2) rfl ?_
  exact fin _ qF ((bV.setCell (p := ⟨w.heap.size, 0, none⟩) (Nat.le_refl _) _).setCell (p := ⟨w.heap.size, 1, none⟩) (Nat.le_refl _) _)
theorem OwS.below {w w' : World} {b : Nat} {A : Option Addr} {n c : Nat} {ss : List (List UInt8)} (h : OwS w b A n c ss) (hb : Below w.heap.size w w') : OwS w' b A n c ss := by
 obtain ⟨h0, vs, h1, h2⟩ := h
 refine ⟨h0, vs, down_keep h1 hb, fun j hj => ?_⟩
 obtain ⟨B, m, d, h3, h4⟩ := h2 j hj
 exact ⟨B, m, d, h3, OwnB.below h4 hb⟩
theorem OwS.dk {w : World} {b : Nat} {A : Option Addr} {n c : Nat} {ss : List (List UInt8)} (h : OwS w b A n c ss) : DkVal #[.slice A n c, .slice none 0 0] w ⟨ss, []⟩ := by
 obtain ⟨h0, vs, h1, h2⟩ := h
 have hl : vs.length = n := by have := h1.1; omega
 obtain ⟨A9, c9, hv9, e3, e4, _⟩ := own_form h1
 injection hv9 with hv8 _ hv9
 subst hv8 hv9
 refine ⟨_, _, _, _, _, _, rfl, ⟨vs, Rd.of_own h1, hl, e3, e4, parts_get (by rw [hl, h0]) (fun j hj => ?_)⟩, (rdDk_nil _).2⟩
 obtain ⟨B, m, d, h3, h4⟩ := h2 j (by omega)
 exact ⟨B, m, d, h3, h4.rd⟩
theorem OwS.blk {w : World} {b : Nat} {A : Option Addr} {n c : Nat} {ss : List (List UInt8)} (h : OwS w b A n c ss) (hn : 0 < n) : ∃ g, A = some ⟨g, 0, none⟩ ∧ b ≤ g ∧ g < w.heap.size ∧ (∃ cur, w.heap[g]? = some (.cells cur 47 (0, 0))) ∧ (∀ k, k < n → ∃ v, w.cell? ⟨g, k, none⟩ = some v) ∧ ∀ k, w.frozen? ⟨g, k, none⟩ = false := by
 obtain ⟨h0, vs, h1, h2⟩ := h
 have hl : vs.length = n := by have := h1.1; omega
 rcases h1.2 with ⟨-, e⟩ | ⟨g, cap, cur, hv, hg, hrow, hn2, hcap, hsz, hcur⟩
 ·omega
 ·injection hv with hA hn1 hc
  subst hA
  refine ⟨g, rfl, hg, drw_lt hrow, ⟨_, hrow⟩, fun k hk => ?_, fun k => World.ownsRow.frozenAt h1 k⟩
  have := World.ownsRow.cellAt h1 k (by omega)
  exact ⟨_, this.trans (List.getElem?_eq_getElem (by omega))⟩
theorem OwS.set_ {w : World} {b g n c : Nat} {ss : List (List UInt8)} (h : OwS w b (some ⟨g, 0, none⟩) n c ss) (k : Nat) {B : Option Addr} {m d : Nat} {ys : List UInt8} (hy : OwnB w b B m d ys) (hrow : ∃ cur, w.heap[g]? = some (.cells cur 47 (0, 0))) : OwS (w.setCell ⟨g, k, none⟩ (.slice B m d)) b (some ⟨g, 0, none⟩) n c (ss.set k ys) := by
 obtain ⟨h0, vs, h1, h2⟩ := h
 obtain ⟨cur, hrow⟩ := hrow
 have hl : vs.length = n := by have := h1.1; omega
 refine ⟨by simpa using h0, _, (World.ownsRow.stored h1 k (.slice B m d)).1, fun j hj => ?_⟩
 by_cases hjk : k = j
 ·subst hjk
  refine ⟨B, m, d, by rw [List.getElem?_set_self (by omega)], ?_⟩
  rw [List.getD_eq_getElem?_getD, List.getElem?_set_self (by omega)]
  exact own_far hy hrow (by decide) k _
 ·obtain ⟨B', m', d', h3, h4⟩ := h2 j hj
  refine ⟨B', m', d', by rw [List.getElem?_set_ne hjk]; exact h3, ?_⟩
  rw [List.getD_eq_getElem?_getD, List.getElem?_set_ne hjk, ← List.getD_eq_getElem?_getD]
  exact own_far h4 hrow (by decide) k _
theorem OwParts.at_ {w : World} {base : Nat} : ∀ {vs : List Value} {l : List Jb}, OwParts w base vs l → ∀ (k : Nat), k < l.length → vs[k * 2]? = some (.int .i64 (l.getD k (0, [])).1) ∧ ∃ A n c, vs[k * 2 + 1]? = some (.slice A n c) ∧ OwnB w base A n c (l.getD k (0, [])).2
 | [], [], _, k, hk => by simp at hk
 | a :: v :: vs, p :: l, ⟨h1, h2, ⟨A, n, c, h3, h4⟩, _⟩, 0, _ => ⟨by rw [h1]; rfl, A, n, c, by rw [h3]; rfl, h4⟩
 | a :: v :: vs, p :: l, ⟨_, _, _, h5⟩, k + 1, hk => by
  obtain ⟨e1, A, n, c, e2, e3⟩ := OwParts.at_ h5 k (by simpa using hk)
  refine ⟨?_, A, n, c, ?_, e3⟩
  ·rw [show (k + 1) * 2 = k * 2 + 2 by omega]; exact e1
  ·rw [show (k + 1) * 2 + 1 = k * 2 + 1 + 2 by omega]; exact e2
theorem OwJ.jobAt {w : World} {base : Nat} {A : Option Addr} {n c : Nat} {l : List Jb} (h : OwJ w base A n c l) (k : Nat) (hk : k < n) : ∃ g B m d, A = some ⟨g, 0, none⟩ ∧ g < w.heap.size ∧ (∃ cur, w.heap[g]? = some (.cells cur 60 (0, 0))) ∧ w.cell? ⟨g, k * 2, none⟩ = some (.int .i64 (l.getD k (0, [])).1) ∧ w.cell? ⟨g, k * 2 + 1, none⟩ = some (.slice B m d) ∧ OwnB w base B m d (l.getD k (0, [])).2 := by
 obtain ⟨us, h1, h2⟩ := h
 have hl := h2.wparts.length
 have h11 := h1.1
 obtain ⟨e1, B, m, d, e2, e3⟩ := h2.at_ k (by omega)
 rcases h1.2 with ⟨-, e⟩ | ⟨g, cap, cur, hv, hg, hrow, hn2, hcap, hsz, hcur⟩
 ·omega
 ·injection hv with hA hn1 hc
  subst hA
  have cc : ∀ i, i < us.length → w.cell? ⟨g, i, none⟩ = us[i]? := fun i hi => by
   rw [cell_of_row w g i _ _ _ hrow, ← hcur, List.getElem?_take, if_pos (by rw [h11] at hi; omega)]; simp
  exact ⟨g, B, m, d, rfl, drw_lt hrow, ⟨_, hrow⟩, (cc _ (by omega)).trans e1, (cc _ (by omega)).trans e2, e3⟩
theorem OwJ.setC {w : World} {base : Nat} {A : Option Addr} {n c : Nat} {l : List Jb} (h : OwJ w base A n c l) {g : Nat} {cur : Array Value} (hg : w.heap[g]? = some (.cells cur 47 (0, 0))) (k : Nat) (v : Value) : OwJ (w.setCell ⟨g, k, none⟩ v) base A n c l := by
 obtain ⟨us, h1, h2⟩ := h
 exact ⟨us, own_far h1 hg (by decide) k v, h2.keep (fun A n c xs hx => own_far hx hg (by decide) k v)⟩
theorem OwS.setD {w : World} {b : Nat} {A : Option Addr} {n c : Nat} {ss : List (List UInt8)} (h : OwS w b A n c ss) {g : Nat} {cs : Array Value} (hg : w.heap[g]? = some (.cells cs 40 (0, 0))) (ds : Array Value) : OwS (w.setRow g ds) b A n c ss := by
 obtain ⟨h0, vs, h1, h2⟩ := h
 refine ⟨h0, vs, down_keepT h1 (fun g' cur _ hr => setRow_other _ _ _ _ (dtyp_ne hr hg (by decide))), fun j hj => ?_⟩
 obtain ⟨B, m, d, h3, h4⟩ := h2 j hj
 exact ⟨B, m, d, h3, down_keepT h4 (fun g' cur _ hr => setRow_other _ _ _ _ (dtyp_ne hr hg (by decide)))⟩
def Lf14I (w : World) (b t6 gs n cs : Nat) (J : Option Addr) (M cj : Nat) (l : List Jb) (s0 : List (List UInt8)) (vi : Value) (wr : World) : Prop :=
 ∃ i : Nat, i ≤ M ∧ vi = .int .i64 (i : Int) ∧ Hid (OwS wr b (some ⟨gs, 0, none⟩) n cs (stWr s0 (l.take i))) ∧ Hid (OwJ wr b J M cj l) ∧ Hid (wr.heap[t6]? = some (.cells #[.slice (some ⟨gs, 0, none⟩) n cs, .slice none 0 0] 40 (0, 0))) ∧ Hid (wr.heap[w.heap.size]? = some (.cells #[.slice none 0 0, .slice none 0 0] 40 (0, 0))) ∧ Below b wr wr ∧ Below w.heap.size w wr
set_option maxRecDepth 100000 in
theorem refFmt14_yes (A : Option Addr) (L c : Nat) (state : List UInt8) (n : Nat) (w : World) (hr : RdB w A L c state) (hn : 98 ≤ n ∧ n ≤ 256) (hL : L ≤ 12288) :
  Calls Tryz.prog 34 #[.slice A L c, .int .i64 (n : Int)] w (RetDv w (jnFmt state (n : Int)) 0) := by
 rw [jnFmt_flat state n hn (by rw [hr.2.1]; exact hL)]
 obtain ⟨V, hV⟩ : ∃ V, V = w.alloc (.cells #[.slice none 0 0, .slice none 0 0] 40) := ⟨_, rfl⟩
 have bV : Below w.heap.size w V := by rw [hV]; exact (below_self w).alloc (Nat.le_refl _) _
 have qV : Hid (V.heap[w.heap.size]? = some (.cells #[.slice none 0 0, .slice none 0 0] 40 (0, 0))) := by rw [hV]; exact Lib.hid (drw_at _ rfl)
 have zV : Hid (V.heap.size = w.heap.size + 1) := by rw [hV]; exact Lib.hid (by simp)
 have HV := Lib.hid hV
 have hsl := hr.2.1
 have d1 : decide ((n : Int) < 98) = false := decide_eq_false (by omega)
 have d2 : decide ((256 : Int) < (n : Int)) = false := decide_eq_false (by omega)
 have d3 : decide ((12288 : Int) < (L : Int)) = false := decide_eq_false (by omega)
 have C2 := Lib.hid (fun W (h : RdB W A L c state) => refBase14_any A L c state W h (by omega))
 obtain ⟨DG, hDG⟩ : ∃ q, jnBase state = q := ⟨jnBase state, rfl⟩
 have hDl : DG.length = 32 := by rw [← hDG]; exact shOf_len _
 rw [hDG] at C2
 have BS := Lib.hid (suB3 1 (L : Int) DG hDl)
 obtain ⟨DV, hDV⟩ : ∃ z, z = dgA DG := ⟨_, rfl⟩
 have HDV := Lib.hid hDV
 obtain ⟨SV, hSV⟩ : ∃ z, z = suV 1 0 (L : Int) DG := ⟨_, rfl⟩
 rw [← hDV, ← hSV] at BS
 have C3 := Lib.hid (fun W => refsuPut_any 1 0 (L : Int) DG W (by omega) (by omega) hDl)
 rw [← hSV] at C3
 clear hDV hSV
 have C4 := Lib.hid (fun W (h : RdB W A L c state) => refSplit14_any A L c state 0 W h (by omega))
 have hM : (jnSplit state 0).length = (L + 255) / 256 := by unfold jnSplit; rw [jnSplitK_len, hsl]
 obtain ⟨M, hMe⟩ : ∃ M, M = (L + 255) / 256 := ⟨_, rfl⟩
 have hM48 : M ≤ 48 := by omega
 rw [← hMe] at hM
 have hJ : jnFmtJobs state = jnSplit state 0 ++ [(1, suPutL 1 0 (L : Int) DG)] := by unfold jnFmtJobs; rw [hDG, hsl]
 have hat : ∀ i, i < M → ((jnSplit state 0).getD i (0, [])).1 = ((2 + i : Nat) : Int) := fun i hi => by
  unfold jnSplit jnSplitK
  rw [List.getD_eq_getElem?_getD, List.getElem?_map, List.getElem?_range (by rw [hsl, ← hMe]; exact hi)]
  simp
 obtain ⟨s0, hs0⟩ : ∃ z, z = List.replicate n (List.replicate 256 (0 : UInt8)) := ⟨_, rfl⟩
 obtain ⟨l, hl⟩ : ∃ z, z = jnSplit state 0 := ⟨_, rfl⟩
 rw [← hl] at hM hJ hat C4
 have C1 := Lib.hid (ref_NewO_any n (by omega) V)
 have HJ := Lib.hid hJ
 have HM := Lib.hid hM
 have HAT := Lib.hid hat
 have HS0 := Lib.hid hs0
 have HR := Lib.hid hr
 have HDL := Lib.hid hDl
 clear hV hDG hDl hM hMe hJ hat hs0 hl hr hsl
 go_enter Tryz.func34, Tryz.ntmps34
 go_wp2_with (rw [← HV.out])
 refine C1.out.mono ?_
 rintro e w2 ⟨A2, c2, rfl, o2, b2⟩
 rw [← HS0.out] at o2
 obtain ⟨gs, rfl, hgs, -⟩ := o2.blk (by omega)
 have hV2 := b2.size
 have O2 := Lib.hid o2
 have v2 := o2.dk
 clear o2
 go_wp2_with (refine dk_fresh rfl _ _ rfl rfl rfl w2 rfl rfl v2 ?_; intro X3 q3 x3)
 have B3 := Lib.hid (below_then bV (below_then b2 x3))
 refine (C4.out X3 (HR.out.below B3.out)).mono ?_
 rintro e w4 ⟨A4, n4, c4, rfl, o4, b4⟩
 obtain rfl : M = n4 := by
  obtain ⟨us, h1, h2⟩ := o4
  have h3 := h2.wparts.length
  have h4 := h1.1
  have h5 := HM.out
  omega
 have hzz : V.heap.size ≤ X3.heap.size := Nat.le_trans b2.size x3.size
 have O4 := Lib.hid (OwJ.mono o4 hzz)
 have O2' := Lib.hid ((O2.out.below x3).below b4)
 have q4 := Lib.hid (drw_up q3.out.1 b4)
 have r4 := Lib.hid (drw_up (drw_up (drw_up qV.out b2) x3) b4)
 have B4 := Lib.hid (below_then B3.out b4)
 clear o4 x3 b4 v2 b2
 go_wp2_with fail
 go_loopw [9] (Lf14I w V.heap.size w2.heap.size gs n c2 A4 M c4 l s0) (fun i _ => M - (intOf i).toNat)
 case atStart => exact ⟨0, by omega, rfl, O2', O4, q4, r4, Below.refl _ _, B4.out⟩
 case round =>
 clear O2 O2' O4 q4 r4 B4 B3
 obtain ⟨i, hi, rfl, hS, hJ, hQ, hR, -, hB⟩ := hrel
 have HBo := Lib.hid hB
 by_cases hlt : i < M
 ·have i1 : (i : Int) < (M : Int) := by omega
  have di : decide ((i : Int) < (M : Int)) = true := decide_eq_true i1
  have wi1 : IntKind.i64.wrap ((i : Int) + 1) = (i : Int) + 1 := IntWalk.i64_in _ (by omega)
  obtain ⟨gj, B, m, d, rfl, hgj, ⟨curj, hrj⟩, cj0, cj1, oj⟩ := hJ.out.jobAt i hlt
  obtain ⟨gs', he, hgs2, hgsl, ⟨cur, hrow⟩, hcell, hfr⟩ := hS.out.blk (by omega)
  injection he with he
  injection he with he
  subst he
  obtain ⟨p, hp⟩ : ∃ p, p = 2 + i := ⟨_, rfl⟩
  have hpn : p < n := by omega
  obtain ⟨v0, hv0⟩ := hcell p hpn
  have hfp := hfr p
  have hat := HAT.out i hlt
  rw [← hp] at hat
  have hnx : stWr s0 (l.take (i + 1)) = (stWr s0 (l.take i)).set p (l.getD i (0, [])).2 := by
   have h1 : l.take (i + 1) = l.take i ++ [l.getD i (0, [])] := by
    rw [List.take_add_one, List.getElem?_eq_getElem (by rw [HM.out]; exact hlt), List.getD_eq_getElem?_getD, List.getElem?_eq_getElem (by rw [HM.out]; exact hlt)]; rfl
   rw [h1, stWr_snoc, hat, Int.toNat_natCast]
  rw [hat] at cj0
  have p1 : ¬ ((p : Int) < 0) := by omega
  have p2 : (p : Int) < (n : Int) := by omega
  have OS := Lib.hid (OwS.set_ hS.out p oj ⟨cur, hrow⟩)
  rw [← hnx] at OS
  have OJ := Lib.hid (OwJ.setC hJ.out hrow p (.slice B m d))
  have hne1 : gs ≠ w2.heap.size := by
   intro e; rw [e] at hrow; rw [hQ.out] at hrow; injection hrow with hrow; injection hrow with _ hT; exact absurd hT (by decide)
  have hne2 : gs ≠ w.heap.size := by have := zV.out; omega
  have hql := drw_lt hQ.out
  have k0 := (cell_of_row wr _ 0 _ _ _ hQ.out).trans (show _ = some (.slice (some ⟨gs, 0, none⟩) n c2) from rfl)
  have HQ2 : Hid ((wr.setCell ⟨gs, p, none⟩ (.slice B m d)).heap[w2.heap.size]? = _) := Lib.hid ((setc_rowO hne1).trans hQ.out)
  have HR2 : Hid ((wr.setCell ⟨gs, p, none⟩ (.slice B m d)).heap[w.heap.size]? = _) := Lib.hid ((setc_rowO hne2).trans hR.out)
  have HB2 : Hid (Below w.heap.size w (wr.setCell ⟨gs, p, none⟩ (.slice B m d))) := Lib.hid (hB.setCell (p := ⟨gs, p, none⟩) (by show w.heap.size ≤ gs; have := zV.out; omega) _)
  clear hnx hat oj hrow hrj hS hJ hQ hR hB hcell hfr hp
  go_wp2_with fail
  refine wp_region_last (S := fun w' => Below wr.heap.size wr w') 13 (brw9 14 8191) [(0, true), (1, true), (2, true), (3, true), (4, true), (5, true), (6, true), (7, true), (8, true), (9, true), (10, true), (11, true), (12, true)] (by kernel_rfl) (by kernel_rfl) (fun _ _ d _ _ h => by cases d <;> exact h) ((Below.refl _ wr).drew) ?_
  iterate 13 (refine seg_take (v := ?_) rfl (Or.inl ⟨by rfl, ?_⟩) ?_; rotate_left; (focus (intro w' hw'; have y0 := (hw'.cell (p := ⟨w2.heap.size, 0, none⟩) hql).trans k0; have y1 := (hw'.cell (p := ⟨gj, i * 2, none⟩) hgj).trans cj0; have y2 := (hw'.cell (p := ⟨gj, i * 2 + 1, none⟩) hgj).trans cj1; go_simp <;> with_reducible rfl)); try simp only [Act.put, pst3])
  refine seg_done ?_
  refine last_run rfl (fun K hK => ?_)
  go_simp
  have z0 : wr.drew.cell? ⟨gs, p, none⟩ = some v0 := hv0
  have z1 : wr.drew.frozen? ⟨gs, p, none⟩ = false := hfp
  go_simp
  refine hK.out _ _ ?_
  clear hK
  try simp only [Act.put, pst3]
  go_wp2_with fail
  go_roundw
  case rel => exact ⟨i + 1, by omega, by rw [Int.natCast_add]; rfl, Lib.hid (OS.out.below (Below.refl _ _).drew), Lib.hid (OJ.out.below (Below.refl _ _).drew), HQ2, HR2, Below.refl _ _, HB2.out.drew⟩
  case measure => simp [intOf]; omega
 ·obtain rfl : i = M := by omega
  have i1 : ¬ (i : Int) < (i : Int) := by omega
  have di : decide ((i : Int) < (i : Int)) = false := decide_eq_false i1
  have di2 : decide (i < i) = false := decide_eq_false hlt
  have hall : l.take i = l := List.take_of_length_le (by rw [HM.out]; exact Nat.le_refl _)
  rw [hall] at hS
  have S1 := Lib.hid hS.out
  have Q1 := Lib.hid hQ.out
  have R1 := Lib.hid hR.out
  clear hall hS hQ hR hJ hB
  go_wp2_with fail
  refine (C2.out _ (HR.out.below HBo.out)).mono ?_
  rintro e w5 ⟨rfl, b5⟩
  rw [← HDV.out]
  go_wp2_with (refine wpList_of_exec rfl (rex_build rfl #[(0, .int .u32 1), (2, .int .i64 (L : Int)), (3, .agg DV)] rfl (BS.out _)) ?_)
  refine (C3.out _).mono ?_
  rintro e w6 ⟨A6, n6, c6, rfl, o6, b6⟩
  have S6 := Lib.hid ((S1.out.below b5).below b6)
  have Q6 := Lib.hid (drw_up (drw_up Q1.out b5) b6)
  have R6 := Lib.hid (drw_up (drw_up R1.out b5) b6)
  have B6 := Lib.hid (below_then HBo.out (below_then b5 b6))
  have b56 := b5.size
  have b66 := b6.size
  have O6 : Hid (OwnB w6 V.heap.size A6 n6 c6 (suPutL 1 0 (L : Int) DG)) := Lib.hid (OwnB.mono o6 (by have := drw_lt Q1.out; have := hV2; omega))
  obtain ⟨gs', he, hgs2, hgsl, ⟨cur, hrow⟩, hcell, hfr⟩ := S6.out.blk (by omega)
  injection he with he
  injection he with he
  subst he
  obtain ⟨v0, hv0⟩ := hcell 1 (by omega)
  have hfp := hfr 1
  have hne1 : gs ≠ w2.heap.size := by
   intro e; rw [e] at hrow; rw [Q6.out] at hrow; injection hrow with hrow; injection hrow with _ hT; exact absurd hT (by decide)
  have hne2 : gs ≠ w.heap.size := by have := zV.out; omega
  have hql := drw_lt Q6.out
  have k0 := (cell_of_row w6 _ 0 _ _ _ Q6.out).trans (show _ = some (.slice (some ⟨gs, 0, none⟩) n c2) from rfl)
  obtain ⟨X, hX⟩ : ∃ X, X = w6.setCell ⟨gs, 1, none⟩ (.slice A6 n6 c6) := ⟨_, rfl⟩
  have SX : Hid (OwS X V.heap.size (some ⟨gs, 0, none⟩) n c2 (stWr s0 (l ++ [(1, suPutL 1 0 (L : Int) DG)]))) := Lib.hid (by rw [stWr_snoc, hX]; exact OwS.set_ S6.out 1 O6.out ⟨cur, hrow⟩)
  have QX : Hid (X.heap[w2.heap.size]? = some (.cells #[.slice (some ⟨gs, 0, none⟩) n c2, .slice none 0 0] 40 (0, 0))) := Lib.hid (by rw [hX]; exact (setc_rowO hne1).trans Q6.out)
  have RX : Hid (X.heap[w.heap.size]? = some (.cells #[.slice none 0 0, .slice none 0 0] 40 (0, 0))) := Lib.hid (by rw [hX]; exact (setc_rowO hne2).trans R6.out)
  have i1n : (1 : Int) < (n : Int) := by omega
  have BX : Hid (Below w.heap.size w X) := Lib.hid (by rw [hX]; exact B6.out.setCell (p := ⟨gs, 1, none⟩) (by show w.heap.size ≤ gs; have := zV.out; omega) _)
  have HX := Lib.hid hX
  clear hX hrow hcell hfr o6 b5 b6
  go_wp2_with fail
  refine wp_region_last (S := fun w' => Below w6.heap.size w6 w') 5 (brw9 6 31) [(0, true), (1, true), (3, true), (2, false), (4, true)] (by kernel_rfl) (by kernel_rfl) (fun _ _ d _ _ h => by cases d <;> exact h) ((Below.refl _ w6).drew) ?_
  iterate 3 (refine seg_take (v := ?_) rfl (Or.inl ⟨by rfl, ?_⟩) ?_; rotate_left; (focus (intro w' hw'; have y0 := (hw'.cell (p := ⟨w2.heap.size, 0, none⟩) hql).trans k0; go_simp <;> with_reducible rfl)); try simp only [Act.put, pst3])
  refine seg_run rfl (fun K hK => ?_)
  go_simp
  refine (refsuHome_any 1 _ (by omega)).mono ?_
  rintro e_ w7 ⟨rfl, rfl⟩
  refine hK.out _ _ ((Below.refl w6.heap.size w6).drew) ?_
  clear hK
  try simp only [Act.put, pst3]
  iterate 1 (refine seg_take (v := ?_) rfl (Or.inl ⟨by rfl, ?_⟩) ?_; rotate_left; (focus (intro w' hw'; have y0 := (hw'.cell (p := ⟨w2.heap.size, 0, none⟩) hql).trans k0; go_simp <;> with_reducible rfl)); try simp only [Act.put, pst3])
  refine seg_done ?_
  refine last_run rfl (fun K hK => ?_)
  go_simp
  have z0 : w6.drew.cell? ⟨gs, 1, none⟩ = some v0 := hv0
  have z1 : w6.drew.frozen? ⟨gs, 1, none⟩ = false := hfp
  go_simp
  refine hK.out _ _ ?_
  clear hK
  try simp only [Act.put, pst3]
  have SY := Lib.hid (SX.out.below (Below.refl X.heap.size X).drew)
  have QY : Hid (X.drew.heap[w2.heap.size]? = some (.cells #[.slice (some ⟨gs, 0, none⟩) n c2, .slice none 0 0] 40 (0, 0))) := Lib.hid QX.out
  have RY : Hid (X.drew.heap[w.heap.size]? = some (.cells #[.slice none 0 0, .slice none 0 0] 40 (0, 0))) := Lib.hid RX.out
  have BY := Lib.hid BX.out.drew
  rw [← HX.out]
  obtain ⟨Y, hY⟩ : ∃ Y, Y = X.drew := ⟨_, rfl⟩
  rw [← hY] at SY QY RY BY
  rw [← hY]
  clear hY
  have VY : Hid (DkV Y w2.heap.size #[.slice (some ⟨gs, 0, none⟩) n c2, .slice none 0 0] ⟨stWr s0 (l ++ [(1, suPutL 1 0 (L : Int) DG)]), []⟩) := Lib.hid ⟨QY.out, SY.out.dk⟩
  have SZ := OwS.setD SY.out RY.out #[.slice (some ⟨gs, 0, none⟩) n c2, .slice none 0 0]
  go_wp2_with (first | (refine dk_load rfl _ rfl rfl VY.out ?_) | (refine dk_set (E := ⟨[], []⟩) rfl _ _ rfl rfl rfl RY.out rfl VY.out.2 ?_))
  refine bodyPost_ret (dresults_cell_tmp Tryz.results34 _ _ w.heap.size 40 #[.slice (some ⟨gs, 0, none⟩) n c2, .slice none 0 0] (0, 0) _ rfl (setRow_heap _ _ _ #[.slice (some ⟨gs, 0, none⟩) n c2, .slice none 0 0] _ _ RY.out) Tryz.underlying40 rfl disk2) rfl ?_
  refine ⟨_, rfl, ?_, below_setRow BY.out (Nat.le_refl _) _⟩
  show DkVal _ _ ⟨stWr (List.replicate n (List.replicate 256 0)) (jnFmtJobs state), []⟩
  rw [← HS0.out, HJ.out]
  exact SZ.dk
theorem refFmt14_any (A : Option Addr) (L c : Nat) (state : List UInt8) (n : Int) (w : World) (hr : RdB w A L c state) (hn : -9223372036854775808 ≤ n ∧ n ≤ 9223372036854775807) :
  Calls Tryz.prog 34 #[.slice A L c, .int .i64 n] w (RetDv w (jnFmt state n) (jnFmtE state n)) := by
 have hl := hr.2.1
 by_cases h1 : n < 98 ∨ 256 < n
 ·have e : jnFmtE state n = 2 := by unfold jnFmtE; rw [if_pos h1]
  rw [show jnFmt state n = ⟨[], []⟩ by unfold jnFmt; rw [e]; rfl, e]
  exact refFmt14_no A L c state n w hr 2 (.inl ⟨h1, rfl⟩)
 ·by_cases h2 : 12288 < L
  ·have e : jnFmtE state n = 4 := by unfold jnFmtE; rw [if_neg h1, if_pos (by omega)]
   rw [show jnFmt state n = ⟨[], []⟩ by unfold jnFmt; rw [e]; rfl, e]
   exact refFmt14_no A L c state n w hr 4 (.inr ⟨by omega, h2, rfl⟩)
  ·have e : jnFmtE state n = 0 := by unfold jnFmtE; rw [if_neg h1, if_neg (by omega)]
   obtain ⟨k, rfl⟩ : ∃ k : Nat, n = (k : Int) := ⟨n.toNat, by omega⟩
   rw [e]
   exact refFmt14_yes A L c state k w hr (by omega) (by omega)
set_option maxHeartbeats 8000000
theorem suGet_okL (b : List UInt8) : (suGet b).ok := by
 obtain ⟨h1, ⟨h2, h3⟩, h4, h5⟩ := suGet_bounds b
 exact ⟨h1, ⟨by omega, by omega⟩, ⟨by omega, by omega⟩, suGet_len b⟩
theorem suZ_okL : suZ.ok := ⟨by decide, ⟨by decide, by decide⟩, ⟨by decide, by decide⟩, rfl⟩
theorem load_both (D : Dk) : ∃ (S : Su) (st : List UInt8) (rs : List Rc), (∀ AV W, DkVal AV W D → Calls Tryz.prog 31 #[.agg AV] W (RetLd W S st rs (jnLoadE D))) ∧ (∀ AV W, DkVal AV W D → Calls Tryz.prog 32 #[.agg AV] W (RetLd W S st rs (jnLoadE D))) ∧ S.ok := by
 by_cases h : jnLoadE D = 0
 ·refine ⟨jnLoadS D, jnHad D (jnLoadS D), jnLoadR D, fun AV W v => (jrnLoad_any AV D W v).mono fun e w' hh => by rw [h]; exact hh.1 h, fun AV W v => (refLoad14_any AV D W v).mono fun e w' hh => by rw [h]; exact hh.1 h, ?_⟩
  show (suCh _ _).ok
  unfold suCh
  split
  ·exact suGet_okL _
  ·split
   ·exact suGet_okL _
   ·exact suZ_okL
 ·exact ⟨suZ, [], [], fun AV W v => (jrnLoad_any AV D W v).mono fun e w' hh => hh.2 h, fun AV W v => (refLoad14_any AV D W v).mono fun e w' hh => hh.2 h, suZ_okL⟩
theorem su_freshL {ops : Array Oper} {rest : List Oper} {o : Oper} {a : Act} {w : World} {Q : Exit → Act → World → Prop} {h : Nat} (y : Su) (hgd : o.guard = none) (x z : Operand) (ho : o.op = .store 33 x z) (hx : a.eval x = .pointer (some ⟨h, 0, none⟩)) (hz : a.eval z = .agg y.v) (w0 : World) (hw : w = w0.alloc (.cells zz1 33)) (hh : w0.heap.size = h) (hl : y.D.length = 32)
  (hK : ∀ X, Hid (X.heap[h]? = some (.cells y.v 33 (0, 0))) → Below w0.heap.size w0 X → wpList Tryz.prog ops Q rest (a.put o.dst undef) X) : wpList Tryz.prog ops Q (o :: rest) a w := by
 subst hw
 have hrow : (w0.alloc (.cells zz1 33)).heap[h]? = some (.cells suZ.v 33 (0, 0)) := by rw [suZ_v]; exact drw_at _ hh
 exact su_store hgd x z ho h hx y suZ hz hrow hl suZ_len (hK _ (Lib.hid (setRow_heap _ _ _ y.v _ _ hrow)) (below_setRow ((below_self w0).alloc (Nat.le_refl _) _) (by omega) _))
theorem jrnLoads_law (S : Option Addr) (sn sc : Nat) (K : Option Addr) (kn kc : Nat) (D : Dk) (A : Option Addr) (L c : Nat) (state : List UInt8) (n : Int) (w : World) (hr : RdDk w S sn sc K kn kc D) (hs : RdB w A L c state) (hn : -9223372036854775808 ≤ n ∧ n ≤ 9223372036854775807) :
  Calls Tryz.prog 5 #[.agg #[.slice S sn sc, .slice K kn kc], .slice A L c, .int .i64 n] w (RetV w (.bool true)) := by
 have v1 : DkVal #[.slice S sn sc, .slice K kn kc] w D := ⟨_, _, _, _, _, _, rfl, hr⟩
 generalize (#[.slice S sn sc, .slice K kn kc] : Array Value) = AV at v1 ⊢
 clear hr
 have hL63 := hs.n63
 obtain ⟨V, hV⟩ : ∃ V, V = w.alloc (.cells AV 40) := ⟨_, rfl⟩
 have bV : Below w.heap.size w V := by rw [hV]; exact (below_self w).alloc (Nat.le_refl _) _
 have qa : Hid (DkV V w.heap.size AV D) := Lib.hid ⟨by rw [hV]; exact drw_at _ rfl, v1.below bV⟩
 have HV := Lib.hid hV
 have CF := Lib.hid (vFew qa.out.2)
 obtain ⟨SU, st, rs, hL1, hL2, hSU⟩ := load_both D
 have HL := Lib.hid hL1
 have HL' := Lib.hid hL2
 have HSU := Lib.hid hSU
 have HF := Lib.hid (fun W (h : RdB W A L c state) => jrnFmt_any A L c state n W h hn)
 have HF' := Lib.hid (fun W (h : RdB W A L c state) => refFmt14_any A L c state n W h hn)
 obtain ⟨fa, hfa⟩ : ∃ z, z = dkFew D := ⟨_, rfl⟩
 obtain ⟨E, hE⟩ : ∃ z, z = jnLoadE D := ⟨_, rfl⟩
 obtain ⟨FD, hFD⟩ : ∃ z, z = jnFmt state n := ⟨_, rfl⟩
 obtain ⟨FE, hFE⟩ : ∃ z, z = jnFmtE state n := ⟨_, rfl⟩
 rw [← hfa] at CF
 rw [← hE] at HL HL'
 rw [← hFD, ← hFE] at HF HF'
 have BVh := Lib.hid bV
 have SS := Lib.hid (hs.below bV)
 have KQ := Lib.hid (fun W : World => (run_eqIn_su 9996 W SU SU hSU hSU).trans (by rw [decide_eq_true rfl]))
 have HSL := Lib.hid hSU.2.2.2
 clear hV v1 hL1 hL2 hSU hfa hE hFD hFE bV hs
 go_enter Tryz.func5, Tryz.ntmps5
 go_wp2_with (rw [← HV.out]; refine dk_load rfl _ rfl rfl qa.out ?_)
 refine CF.out.mono ?_
 rintro e w1 ⟨rfl, b1⟩
 have qa1 := Lib.hid (qa.out.up b1)
 have S1 := Lib.hid (SS.out.below b1)
 have B1 := Lib.hid (below_then BVh.out b1)
 clear b1
 cases fa with
 | false =>
  go_wp2_with fail
  refine (heads14 _).mono ?_
  rintro e w2 ⟨rfl, b2⟩
  go_wp2_with fail
  go_ret
  exact ⟨rfl, below_then B1.out b2⟩
 | true =>
 by_cases hL : 13000 < L
 ·have d1 : decide ((13000 : Int) < (L : Int)) = true := decide_eq_true (by omega)
  go_wp2_with fail
  refine (heads14 _).mono ?_
  rintro e w2 ⟨rfl, b2⟩
  go_wp2_with fail
  go_ret
  exact ⟨rfl, below_then B1.out b2⟩
 have d1 : decide ((13000 : Int) < (L : Int)) = false := decide_eq_false (by omega)
 go_wp2_with (refine dk_load rfl _ rfl rfl qa1.out ?_)
 refine (HL.out AV _ qa1.out.2).mono ?_
 rintro e w3 ⟨A5, n5, c5, R5, m5, q5, rfl, o5, r5, b5⟩
 have O5 := Lib.hid o5.rd
 have P5 := Lib.hid r5
 have B5 := Lib.hid (below_then B1.out b5)
 have qa3 := Lib.hid (qa1.out.up b5)
 have S3 := Lib.hid (S1.out.below b5)
 clear o5 r5 b5
 go_wp2_with (first | (refine su_freshL SU rfl _ _ rfl rfl rfl w3 rfl rfl HSL.out ?_; intro X4 s4 b4; have B4 := Lib.hid (below_then B5.out b4); have qa4 := Lib.hid (qa3.out.up b4); have O4 := Lib.hid (O5.out.below b4); have P4 := Lib.hid (OwR.below P5.out b4); have S4 := Lib.hid (S3.out.below b4)) | (refine dk_load rfl _ rfl rfl qa4.out ?_))
 refine (HL'.out AV _ qa4.out.2).mono ?_
 rintro e w5 ⟨A7, n7, c7, R7, m7, q7, rfl, o7, r7, b7⟩
 have O7 := Lib.hid o7.rd
 have P7 := Lib.hid r7
 have B7 := Lib.hid (below_then B4.out b7)
 have s5 := Lib.hid (drw_up s4.out b7)
 have O6 := Lib.hid (O4.out.below b7)
 have P6 := Lib.hid (OwR.below P4.out b7)
 have S5 := Lib.hid (S4.out.below b7)
 obtain rfl : m5 = m7 := P5.out.len.symm.trans r7.len
 clear o7 r7 b7
 go_wp2_with (refine su_freshL SU rfl _ _ rfl rfl rfl w5 rfl rfl HSL.out ?_; intro X6 s6 b6; have B6 := Lib.hid (below_then B7.out b6); have S6 := Lib.hid (S5.out.below b6))
 have s5' := Lib.hid (drw_up s5.out b6)
 refine (HF.out X6 S6.out).mono ?_
 rintro e w7 ⟨FV, rfl, f7, b7⟩
 have sa7 := Lib.hid (drw_up s5'.out b7)
 have sb7 := Lib.hid (drw_up s6.out b7)
 have O7' := Lib.hid ((O7.out.below b6).below b7)
 have O6' := Lib.hid ((O6.out.below b6).below b7)
 have P7' := Lib.hid (OwR.below (OwR.below P7.out b6) b7)
 have P6' := Lib.hid (OwR.below (OwR.below P6.out b6) b7)
 have B8 := Lib.hid (below_then B6.out b7)
 have S7 := Lib.hid (S6.out.below b7)
 have F7 := Lib.hid f7
 clear f7 b7 b6
 go_wp2_with (refine dk_fresh rfl _ _ rfl rfl rfl w7 rfl rfl F7.out ?_; intro X8 q8 x8; have B9 := Lib.hid (below_then B8.out x8); have S8 := Lib.hid (S7.out.below x8); have sa8 := Lib.hid (drw_up sa7.out x8); have sb8 := Lib.hid (drw_up sb7.out x8); have O78 := Lib.hid (O7'.out.below x8); have O68 := Lib.hid (O6'.out.below x8); have P78 := Lib.hid (OwR.below P7'.out x8); have P68 := Lib.hid (OwR.below P6'.out x8))
 refine (HF'.out X8 S8.out).mono ?_
 rintro e w9 ⟨GV, rfl, f9, b9⟩
 have B10 := Lib.hid (below_then B9.out b9)
 have q9 := Lib.hid (DkV.up q8 b9)
 have F9 := Lib.hid f9
 have sa9 := Lib.hid (drw_up sa8.out b9)
 have sb9 := Lib.hid (drw_up sb8.out b9)
 have O79 := Lib.hid (O78.out.below b9)
 have O69 := Lib.hid (O68.out.below b9)
 have P79 := Lib.hid (OwR.below P78.out b9)
 have P69 := Lib.hid (OwR.below P68.out b9)
 clear f9 b9
 have kq := KQ.out
 go_wp2_with (first
  | (refine dk_fresh rfl _ _ rfl rfl rfl w9 rfl rfl F9.out ?_; intro X10 q10 x10; have B11 := Lib.hid (below_then B10.out x10); have qx := Lib.hid (q9.out.up x10); have qy := Lib.hid q10; have SA := Lib.hid (drw_up sa9.out x10); have SB := Lib.hid (drw_up sb9.out x10); have OA := Lib.hid (O69.out.below x10); have OB := Lib.hid (O79.out.below x10); have PA := Lib.hid (OwR.below P69.out x10).rds; have PB := Lib.hid (OwR.below P79.out x10).rds)
  | (refine su_load rfl _ rfl w3.heap.size rfl SU SA.out HSL.out ?_)
  | (refine su_load rfl _ rfl w5.heap.size rfl SU SB.out HSL.out ?_))
 have hby := bytes_any A5 A7 n5 c5 n7 c7 st st X10 OA.out OB.out
 rw [decide_eq_true rfl] at hby
 refine hby.mono ?_
 rintro e_ w11 ⟨rfl, rfl⟩
 clear hby
 go_wp2_with fail
 refine (refRecs_self R5 m5 q5 R7 q7 rs X10 PA.out PB.out).mono ?_
 rintro e_ w12 ⟨rfl, b12⟩
 have qx2 := Lib.hid (qx.out.up b12)
 have qy2 := Lib.hid (qy.out.up b12)
 have B12 := Lib.hid (below_then B11.out b12)
 clear b12
 go_wp2_with (first | (refine wpList_unguard (by rfl) (dk_load rfl _ rfl rfl qx2.out ?_)) | (refine wpList_unguard (by rfl) (dk_load rfl _ rfl rfl qy2.out ?_)))
 refine (vSame qx2.out.2 qy2.out.2).mono ?_
 rintro e_ w13 ⟨rfl, b13⟩
 have B13 := Lib.hid (below_then B12.out b13)
 clear b13
 go_wp2_with fail
 refine (heads14 _).mono ?_
 rintro e_ w14 ⟨rfl, b14⟩
 go_wp2_with fail
 go_ret
 exact ⟨rfl, below_then B13.out b14⟩
end Go.Proofs.YtpahicfnhhhifaaGreat
