/-
  Layer 5: disks: Flush, Crash.
-/
import Derived.Test.YteajboafcjeagaaDskE
namespace Go.Proofs.Yteajboafcjeagaa
set_option maxRecDepth 20000
open Go.RowKit
set_option linter.unusedVariables false
set_option linter.unusedSimpArgs false
set_option maxHeartbeats 4000000

/-- Truth values that are read. -/
def RdBo (w : World) (A : Option Addr) (n c : Nat) (bs : List Bool) : Prop := Rd w A (bs.map Value.bool) ∧ bs.length = n ∧ n ≤ c ∧ c ≤ maxLen
theorem RdBo.below {w w' : World} {A : Option Addr} {n c : Nat} {bs : List Bool} (h : RdBo w A n c bs) (hb : Below w.heap.size w w') : RdBo w' A n c bs := ⟨h.1.below hb, h.2⟩
theorem RdBo.at_ {w : World} {A : Option Addr} {n c : Nat} {bs : List Bool} (h : RdBo w A n c bs) (k : Nat) (hk : k < n) : ∃ b o, A = some ⟨b, o, none⟩ ∧ b < w.heap.size ∧ w.cell? ⟨b, o + k, none⟩ = some (.bool (bs.getD k false)) := by
  obtain ⟨hr, hl, _, _⟩ := h
  obtain ⟨b, o, rfl, hb, hc⟩ := hr.at_ k (by rw [List.length_map]; omega)
  refine ⟨b, o, rfl, hb, hc.trans ?_⟩
  rw [List.getD, List.getElem?_eq_getElem (by omega)]; simp
theorem RdBo.n63 {w : World} {A : Option Addr} {n c : Nat} {bs : List Bool} (h : RdBo w A n c bs) : n ≤ 9223372036854775807 := by have := h.2.2; unfold maxLen at this; omega
theorem rdBo_nil (w : World) : RdBo w none 0 0 [] := ⟨.inl rfl, rfl, Nat.le_refl _, by simp [maxLen]⟩
/-- A disk's rows behind stores into a variable of the call's own. -/
theorem RdDk.far2 {w W : World} {S K : Option Addr} {sn sc kn kc : Nat} {D : Dk} (h : RdDk w S sn sc K kn kc D) (hb : Below w.heap.size w W) {q : Nat} (hq : w.heap.size ≤ q) (v0 v1 : Value) : RdDk ((W.setCell ⟨q, 0, none⟩ v0).setCell ⟨q, 1, none⟩ v1) S sn sc K kn kc D :=
  h.below ((hb.setCell (p := ⟨q, 0, none⟩) hq v0).setCell (p := ⟨q, 1, none⟩) hq v1)
theorem below2 {w W : World} {B : Nat} (hb : Below B w W) {q : Nat} (hq : B ≤ q) (v0 v1 : Value) : Below B w ((W.setCell ⟨q, 0, none⟩ v0).setCell ⟨q, 1, none⟩ v1) := (hb.setCell (p := ⟨q, 0, none⟩) hq v0).setCell (p := ⟨q, 1, none⟩) hq v1
theorem DkAt.s01 {w : World} {g : Nat} {S K : Option Addr} {sn sc kn kc : Nat} (h : DkAt w g S sn sc K kn kc) (S' : Option Addr) (sn' sc' : Nat) (K' : Option Addr) (kn' kc' : Nat) : DkAt ((w.setCell ⟨g, 0, none⟩ (.slice S' sn' sc')).setCell ⟨g, 1, none⟩ (.slice K' kn' kc')) g S' sn' sc' K' kn' kc' := (h.s0 S' sn' sc').s1 K' kn' kc'
theorem dskFlush1_any (i : Int) (w : World) : Calls Try.prog 33 #[.int .i64 i] w (RetV w (.bool true)) := by
  go_enter Try.func33, Try.ntmps33
  go_wp2
  go_ret
  exact ⟨rfl, Below.refl _ _⟩
theorem dskFlush_any (S : Option Addr) (sn sc : Nat) (K : Option Addr) (kn kc : Nat) (D : Dk) (w : World) (hr : RdDk w S sn sc K kn kc D) :
    Calls Try.prog 12 #[.agg #[.slice S sn sc, .slice K kn kc]] w (RetDk w (dkFlush D) (dkE D)) := by
  obtain ⟨V, hV⟩ : ∃ V, V = (w.alloc (.cells #[.slice S sn sc, .slice K kn kc] 25)).alloc (.cells #[.slice none 0 0, .slice none 0 0] 25) := ⟨_, rfl⟩
  have bV : Below w.heap.size w V := by rw [hV]; exact ((below_self w).alloc (Nat.le_refl _) _).alloc (by simp) _
  have qV : Hid (DkAt V w.heap.size S sn sc K kn kc) := by rw [hV]; exact Lib.hid (drw_old _ (drw_at _ rfl))
  have rV : Hid (DkAt V (w.heap.size + 1) none 0 0 none 0 0) := by rw [hV]; exact Lib.hid (drw_at _ (by simp))
  have HV := Lib.hid hV
  have H1 := Lib.hid (dskCheck_any S sn sc K kn kc D V (hr.below bV))
  clear hV
  unfold dkFlush dkE
  cases hok : dkOk D with
  | false =>
    rw [hok] at H1
    rw [if_neg (by simp), if_neg (by simp)]
    clear hok
    go_enter Try.func12, Try.ntmps12
    go_wp2_with fail
    rw [← HV.out]
    refine H1.out.mono ?_
    rintro e w2 ⟨rfl, hb2⟩
    have q2 := qV.out.up hb2
    have r2 := rV.out.up hb2
    have x0 := q2.c0
    have x1 := q2.c1
    have y0 := r2.c0
    have y1 := r2.c1
    have f0 := r2.fr 0
    have f1 := r2.fr 1
    have QS := Lib.hid (r2.s01 S sn sc K kn kc)
    have B2 := below_then bV hb2
    clear q2 r2
    go_wp2_with fail
    refine bodyPost_ret (dresults_cell_tmp Try.results12 _ _ (w.heap.size + 1) 25 _ (0, 0) _ rfl QS.out Try.underlying25 rfl (dkInfo ..)) rfl ?_
    exact ⟨S, sn, sc, K, kn, kc, rfl, hr.far2 B2 (by omega) _ _, below2 B2 (by omega) _ _⟩
  | true =>
    rw [hok] at H1
    rw [if_pos rfl, if_pos rfl]
    have H2 := Lib.hid (fun W (hb : Below V.heap.size V W) => dskLeft_any 33 #[] S sn sc K kn kc D W (fun _ => true) (hr.below (below_then bV hb)) hok (fun args W => by go_simp) (fun W i _ _ => dskFlush1_any i W))
    have HOK := Lib.hid hok
    clear hok
    go_enter Try.func12, Try.ntmps12
    go_wp2_with fail
    rw [← HV.out]
    refine H1.out.mono ?_
    rintro e w2 ⟨rfl, hb2⟩
    have q2 := qV.out.up hb2
    have x0 := q2.c0
    have x1 := q2.c1
    have B2 := below_then bV hb2
    clear q2
    go_wp2_with fail
    refine (H2.out w2 hb2).mono ?_
    rintro e w3 ⟨g3, rfl, hr3, hb3⟩
    have r3 := (rV.out.up hb2).up hb3
    have y0 := r3.c0
    have y1 := r3.c1
    have f0 := r3.fr 0
    have f1 := r3.fr 1
    have QS := Lib.hid (r3.s01 (some ⟨g3, 0, none⟩) sn sn none 0 0)
    have B3 := below_then B2 hb3
    have HR := Lib.hid hr3
    have R3 := Lib.hid r3
    clear r3 hr3 x0 x1
    go_wp2_with fail
    refine bodyPost_ret (dresults_cell_tmp Try.results12 _ _ (w.heap.size + 1) 25 _ (0, 0) _ rfl QS.out Try.underlying25 rfl (dkInfo ..)) rfl ?_
    exact ⟨_, sn, sn, none, 0, 0, rfl, SecsI.disk ((HR.out.far R3.out (by decide) (by decide) 0 _).far (R3.out.s0 (some ⟨g3, 0, none⟩) sn sn) (by decide) (by decide) 1 _) hr.sl (by have := ((dkOk_iff D).1 HOK.out).1; have := hr.sl; omega), below2 B3 (by omega) _ _⟩
theorem dskCrash1_any (i q : Nat) (A : Option Addr) (n c : Nat) (bs : List Bool) (w : World) (hq : w.heap[q]? = some (.cells #[.slice A n c] 26 (0, 0))) (hr : RdBo w A n c bs) (hi : i ≤ 9223372036854775807) :
    Calls Try.prog 34 #[.int .i64 (i : Int), .pointer (some ⟨q, 0, none⟩)] w (RetV w (.bool (dkKeep bs i))) := by
  have hn := hr.n63
  have k0 := (cell_of_row w q 0 _ _ _ hq).trans (show (#[.slice A n c] : Array Value)[0]? = some (.slice A n c) from rfl)
  by_cases hlt : i < n
  · obtain ⟨b, o, rfl, hb, hc⟩ := hr.at_ i hlt
    have d1 : decide ((i : Int) < (n : Int)) = true := decide_eq_true (by omega)
    have l1 : (i : Int) < (n : Int) := by omega
    unfold dkKeep
    generalize bs.getD i false = T at hc ⊢
    go_enter Try.func34, Try.ntmps34
    go_wp2
    go_ret
    exact ⟨rfl, Below.refl _ _⟩
  · have d1 : decide ((i : Int) < (n : Int)) = false := decide_eq_false (by omega)
    rw [show dkKeep bs i = false by unfold dkKeep; rw [List.getD, List.getElem?_eq_none (by have := hr.2.1; omega)]; rfl]
    go_enter Try.func34, Try.ntmps34
    go_wp2
    go_ret
    exact ⟨rfl, Below.refl _ _⟩
theorem dskCrash_any (S : Option Addr) (sn sc : Nat) (K : Option Addr) (kn kc : Nat) (D : Dk) (A : Option Addr) (n c : Nat) (bs : List Bool) (w : World) (hr : RdDk w S sn sc K kn kc D) (hb : RdBo w A n c bs) :
    Calls Try.prog 13 #[.agg #[.slice S sn sc, .slice K kn kc], .slice A n c] w (RetDk w (dkCrash D bs) (dkE D)) := by
  obtain ⟨V, hV⟩ : ∃ V, V = ((w.alloc (.cells #[.slice S sn sc, .slice K kn kc] 25)).alloc (.cells #[.slice A n c] 26)).alloc (.cells #[.slice none 0 0, .slice none 0 0] 25) := ⟨_, rfl⟩
  have bV : Below w.heap.size w V := by rw [hV]; exact (((below_self w).alloc (Nat.le_refl _) _).alloc (by simp) _).alloc (by simp; omega) _
  have qV : Hid (DkAt V w.heap.size S sn sc K kn kc) := by rw [hV]; exact Lib.hid (drw_old _ (drw_old _ (drw_at _ rfl)))
  have kV : Hid (V.heap[w.heap.size + 1]? = some (.cells #[.slice A n c] 26 (0, 0))) := by rw [hV]; exact Lib.hid (drw_old _ (drw_at _ (by simp)))
  have rV : Hid (DkAt V (w.heap.size + 1 + 1) none 0 0 none 0 0) := by rw [hV]; exact Lib.hid (drw_at _ (by simp))
  have HV := Lib.hid hV
  have H1 := Lib.hid (dskCheck_any S sn sc K kn kc D V (hr.below bV))
  clear hV
  unfold dkCrash dkE
  cases hok : dkOk D with
  | false =>
    rw [hok] at H1
    rw [if_neg (by simp), if_neg (by simp)]
    clear hok
    go_enter Try.func13, Try.ntmps13
    go_wp2_with fail
    rw [← HV.out]
    refine H1.out.mono ?_
    rintro e w2 ⟨rfl, hb2⟩
    have q2 := qV.out.up hb2
    have r2 := rV.out.up hb2
    have x0 := q2.c0
    have x1 := q2.c1
    have y0 := r2.c0
    have y1 := r2.c1
    have f0 := r2.fr 0
    have f1 := r2.fr 1
    have QS := Lib.hid (r2.s01 S sn sc K kn kc)
    have B2 := below_then bV hb2
    clear q2 r2
    go_wp2_with fail
    refine bodyPost_ret (dresults_cell_tmp Try.results13 _ _ (w.heap.size + 1 + 1) 25 _ (0, 0) _ rfl QS.out Try.underlying25 rfl (dkInfo ..)) rfl ?_
    exact ⟨S, sn, sc, K, kn, kc, rfl, hr.far2 B2 (by omega) _ _, below2 B2 (by omega) _ _⟩
  | true =>
    rw [hok] at H1
    rw [if_pos rfl, if_pos rfl]
    have hk9 := ((dkOk_iff D).1 hok).2.1
    have hkl := hr.kl
    have H2 := Lib.hid (fun W (hbW : Below V.heap.size V W) => dskLeft_any 34 #[.pointer (some ⟨w.heap.size + 1, 0, none⟩)] S sn sc K kn kc D W (dkKeep bs) (hr.below (below_then bV hbW)) hok (fun args W => by go_simp) (fun W2 i hb2 hi => dskCrash1_any i (w.heap.size + 1) A n c bs W2 (drw_up (drw_up kV.out hbW) hb2) (hb.below (below_then (below_then bV hbW) hb2)) (by omega)))
    have HOK := Lib.hid hok
    clear hok hk9 hkl
    go_enter Try.func13, Try.ntmps13
    go_wp2_with fail
    rw [← HV.out]
    refine H1.out.mono ?_
    rintro e w2 ⟨rfl, hb2⟩
    have q2 := qV.out.up hb2
    have x0 := q2.c0
    have x1 := q2.c1
    have B2 := below_then bV hb2
    clear q2
    go_wp2_with fail
    refine (H2.out w2 hb2).mono ?_
    rintro e w3 ⟨g3, rfl, hr3, hb3⟩
    have r3 := (rV.out.up hb2).up hb3
    have y0 := r3.c0
    have y1 := r3.c1
    have f0 := r3.fr 0
    have f1 := r3.fr 1
    have QS := Lib.hid (r3.s01 (some ⟨g3, 0, none⟩) sn sn none 0 0)
    have B3 := below_then B2 hb3
    have HR := Lib.hid hr3
    have R3 := Lib.hid r3
    clear r3 hr3 x0 x1
    go_wp2_with fail
    refine bodyPost_ret (dresults_cell_tmp Try.results13 _ _ (w.heap.size + 1 + 1) 25 _ (0, 0) _ rfl QS.out Try.underlying25 rfl (dkInfo ..)) rfl ?_
    exact ⟨_, sn, sn, none, 0, 0, rfl, SecsI.disk ((HR.out.far R3.out (by decide) (by decide) 0 _).far (R3.out.s0 (some ⟨g3, 0, none⟩) sn sn) (by decide) (by decide) 1 _) hr.sl (by have := ((dkOk_iff D).1 HOK.out).1; have := hr.sl; omega), below2 B3 (by omega) _ _⟩
end Go.Proofs.Yteajboafcjeagaa
