/-
  Layer 5: disks: Check, asked.
-/
import Derived.Test.YteajboafcjeagaaDsk
namespace Go.Proofs.Yteajboafcjeagaa
set_option maxRecDepth 20000
open Go.RowKit
set_option linter.unusedVariables false
set_option linter.unusedSimpArgs false
set_option maxHeartbeats 4000000

theorem drw_at {w : World} {k : Nat} (o : Obj) (h : w.heap.size = k) : (w.alloc o).heap[k]? = some o := by subst h; exact heap_alloc_new w o
theorem drw_old {w : World} {g : Nat} {o : Obj} (o' : Obj) (h : w.heap[g]? = some o) : (w.alloc o').heap[g]? = some o := (heap_alloc_old _ _ (Array.getElem?_eq_some_iff.1 h).1).trans h
theorem drw_up {w w' : World} {g : Nat} {o : Obj} (h : w.heap[g]? = some o) (hb : Below w.heap.size w w') : w'.heap[g]? = some o := (hb.block g (Array.getElem?_eq_some_iff.1 h).1).trans h
theorem drw_lt {w : World} {g : Nat} {o : Obj} (h : w.heap[g]? = some o) : g < w.heap.size := (Array.getElem?_eq_some_iff.1 h).1
/-- A disk in a variable of the call's own. -/
def DkAt (w : World) (g : Nat) (S : Option Addr) (sn sc : Nat) (K : Option Addr) (kn kc : Nat) : Prop := w.heap[g]? = some (.cells #[.slice S sn sc, .slice K kn kc] 25 (0, 0))
section
variable {w w' : World} {g : Nat} {S K : Option Addr} {sn sc kn kc : Nat}
theorem DkAt.c0 (h : DkAt w g S sn sc K kn kc) : w.cell? ⟨g, 0, none⟩ = some (.slice S sn sc) := (cell_of_row w g 0 _ _ _ h).trans rfl
theorem DkAt.c1 (h : DkAt w g S sn sc K kn kc) : w.cell? ⟨g, 1, none⟩ = some (.slice K kn kc) := (cell_of_row w g 1 _ _ _ h).trans rfl
theorem DkAt.fr (h : DkAt w g S sn sc K kn kc) (i : Nat) : w.frozen? ⟨g, i, none⟩ = false := frozen_of_row _ _ i _ _ h
theorem DkAt.up (h : DkAt w g S sn sc K kn kc) (hb : Below w.heap.size w w') : DkAt w' g S sn sc K kn kc := drw_up h hb
theorem DkAt.lt (h : DkAt w g S sn sc K kn kc) : g < w.heap.size := drw_lt h
theorem DkAt.s0 (h : DkAt w g S sn sc K kn kc) (S' : Option Addr) (n' c' : Nat) : DkAt (w.setCell ⟨g, 0, none⟩ (.slice S' n' c')) g S' n' c' K kn kc := (setc_rowT h).trans rfl
theorem DkAt.s1 (h : DkAt w g S sn sc K kn kc) (S' : Option Addr) (n' c' : Nat) : DkAt (w.setCell ⟨g, 1, none⟩ (.slice S' n' c')) g S sn sc S' n' c' := (setc_rowT h).trans rfl
end
theorem all_getD {α : Type} (l : List α) (f : α → Bool) (d : α) : l.all f = true ↔ ∀ j, j < l.length → f (l.getD j d) = true := by
  rw [List.all_eq_true]
  constructor
  · intro h j hj
    rw [List.getD, List.getElem?_eq_getElem hj]; exact h _ (List.getElem_mem _)
  · intro h x hx
    obtain ⟨j, hj, rfl⟩ := List.mem_iff_getElem.1 hx
    have := h j hj
    rwa [List.getD, List.getElem?_eq_getElem hj] at this
theorem nall_getD {α : Type} (l : List α) (f : α → Bool) (d : α) : (!(l.all f)) = true ↔ ∃ j, j < l.length ∧ (!f (l.getD j d)) = true := by
  have := all_getD l f d
  constructor
  · intro h
    refine Classical.byContradiction fun hn => ?_
    have : l.all f = true := this.2 (fun j hj => by
      cases hf : f (l.getD j d) with
      | true => rfl
      | false => exact absurd ⟨j, hj, by rw [hf]; rfl⟩ hn)
    rw [this] at h; cases h
  · rintro ⟨j, hj, h⟩
    cases ha : l.all f with
    | false => rfl
    | true => rw [this.1 ha j hj] at h; cases h
/-- A write that is lost, at a disk of n sectors. -/
def wLost (sn : Nat) (a : Int) (n : Nat) : Bool := !(decide (0 ≤ a) && decide (a < (sn : Int))) || !decide (n = 256)
theorem dskLost_any (a : Int) (A : Option Addr) (n c : Nat) (g : Nat) (S : Option Addr) (sn sc : Nat) (K : Option Addr) (kn kc : Nat) (w : World) (hn : n ≤ 9223372036854775807) (ha : -9223372036854775808 ≤ a ∧ a ≤ 9223372036854775807) (hs : sn ≤ 9223372036854775807) (hq : DkAt w g S sn sc K kn kc) :
    Calls Try.prog 43 #[.agg #[.int .i64 a, .slice A n c], .pointer (some ⟨g, 0, none⟩)] w (RetV w (.bool (wLost sn a n))) := by
  obtain ⟨V, hV⟩ : ∃ V, V = w.alloc (.cells #[.int .i64 a, .slice A n c] 55) := ⟨_, rfl⟩
  have bV : Below w.heap.size w V := by rw [hV]; exact (below_self w).alloc (Nat.le_refl _) _
  have qV : DkAt V g S sn sc K kn kc := hq.up bV
  have aV : V.heap[w.heap.size]? = some (.cells #[.int .i64 a, .slice A n c] 55 (0, 0)) := by rw [hV]; exact drw_at _ rfl
  have c0 := qV.c0
  have c1 := qV.c1
  have a1V := (cell_of_row V _ 1 _ _ _ aV).trans (show (#[.int .i64 a, .slice A n c] : Array Value)[1]? = some (.slice A n c) from rfl)
  have lV := drw_lt aV
  have H1 := Lib.hid (dskHas_any S sn sc K kn kc a V hs ha)
  have H2 := Lib.hid (fun W => dskWhole_any A n c W hn)
  rw [hV] at c0 c1
  have HV := Lib.hid hV
  obtain ⟨T, hT⟩ : ∃ T, T = (decide (0 ≤ a) && decide (a < (sn : Int))) := ⟨_, rfl⟩
  obtain ⟨Z, hZ⟩ : ∃ T, T = decide (n = 256) := ⟨_, rfl⟩
  have hL : wLost sn a n = (!T || !Z) := by rw [hT, hZ]; rfl
  rw [← hT] at H1
  rw [← hZ] at H2
  rw [hL]
  clear hV aV qV hq hT hZ hL
  cases T with
  | false =>
    go_enter Try.func43, Try.ntmps43
    go_wp2_with fail
    rw [← HV.out]
    refine H1.out.mono ?_
    rintro e w2 ⟨rfl, hb2⟩
    go_wp2_with fail
    go_ret
    exact ⟨rfl, below_then bV hb2⟩
  | true =>
    go_enter Try.func43, Try.ntmps43
    go_wp2_with fail
    rw [← HV.out]
    refine H1.out.mono ?_
    rintro e w2 ⟨rfl, hb2⟩
    have j1 := (hb2.cell (p := ⟨w.heap.size, 1, none⟩) lV).trans a1V
    go_wp2_with fail
    refine (H2.out w2).mono ?_
    rintro e w3 ⟨rfl, hb3⟩
    go_wp2_with fail
    go_ret
    exact ⟨rfl, below_then (below_then bV hb2) hb3⟩
theorem dskIdxW_any (g : Nat) (S : Option Addr) (sn sc : Nat) (K : Option Addr) (kn kc : Nat) (us : List Value) (l : List (Int × List UInt8)) (w : World) (hr : RdWs w K kn kc us l) (hn : kn ≤ 1000000) (hs : sn ≤ 9223372036854775807) (hq : DkAt w g S sn sc K kn kc) :
    Calls Try.prog 60 #[.slice K kn kc, .func (.func 43) #[] #[.pointer (some ⟨g, 0, none⟩)]] w (RetIx w kn (fun j => wLost sn (l.getD j (0, [])).1 (l.getD j (0, [])).2.length)) := by
  go_enter Try.func60, Try.ntmps60
  go_wp2_with fail
  go_loopw [8] (IxI w kn (fun j => wLost sn (l.getD j (0, [])).1 (l.getD j (0, [])).2.length)) (fun i _ => kn - (intOf i).toNat)
  case atStart => exact ⟨0, by omega, rfl, fun j hj => by omega, Below.refl _ _⟩
  case round =>
    obtain ⟨k, hk, rfl, hp, hB⟩ := hrel
    have HPp := Lib.hid hp
    clear hp
    by_cases hlt : k < kn
    · obtain ⟨b, o, B, m, d, rfl, hb, hc0, hc1, hy, hrg⟩ := (hr.below hB).at_ k hlt
      have hm := hy.n63
      have HM := Lib.hid hy.2.1
      have qr := hq.up hB
      have hEq : wLost sn (l.getD k (0, [])).1 (l.getD k (0, [])).2.length = wLost sn (l.getD k (0, [])).1 m := by rw [hy.2.1]
      have HEQ := Lib.hid hEq
      obtain ⟨a, ha⟩ : ∃ a, (l.getD k (0, [])).1 = a := ⟨_, rfl⟩
      rw [ha] at hc0 hrg HEQ
      have HA := Lib.hid ha
      clear hEq ha
      have H := Lib.hid (dskLost_any a B m d g S sn sc _ kn kc wr hm hrg hs qr)
      clear qr
      cases hd : wLost sn a m with
      | false =>
        rw [hd] at H HEQ
        clear hd
        go_wp2_with fail
        refine H.out.mono ?_
        rintro e w2 ⟨rfl, hb2⟩
        go_wp2_with fail
        go_roundw
        case rel => exact ⟨k + 1, by omega, by go_num, fun j hj => by
          rcases Nat.lt_or_ge j k with h | h
          · exact HPp.out j h
          · obtain rfl : j = k := by omega
            show wLost sn (l.getD j (0, [])).1 (l.getD j (0, [])).2.length = false
            rw [HA.out]; exact HEQ.out, below_then hB hb2⟩
        case measure => simp [intOf]; omega
      | true =>
        rw [hd] at H HEQ
        clear hd
        go_wp2_with fail
        refine H.out.mono ?_
        rintro e w2 ⟨rfl, hb2⟩
        go_wp2_with fail
        go_ret
        exact ⟨_, rfl, .inl ⟨by omega, k, hlt, by show wLost sn (l.getD k (0, [])).1 (l.getD k (0, [])).2.length = true; rw [HA.out]; exact HEQ.out⟩, below_then hB hb2⟩
    · obtain rfl : k = kn := by omega
      go_wp2_with fail
      go_ret
      exact ⟨_, rfl, .inr ⟨rfl, HPp.out⟩, hB⟩
theorem dskHasS_any (S : Option Addr) (sn sc : Nat) (vs : List Value) (yss : List (List UInt8)) (w : World) (hr : RdSS w S sn sc vs yss) (hn : sn ≤ 1000000) :
    Calls Try.prog 45 #[.slice S sn sc, .func (.func 42) #[] #[]] w (RetV w (.bool (!(yss.all (fun b => decide (b.length = 256)))))) := by
  have H := Lib.hid (dskIdxS_any S sn sc vs yss w hr hn)
  have HP := Lib.hid (nall_getD yss (fun b => decide (b.length = 256)) [])
  have HL := Lib.hid hr.len
  obtain ⟨P, hP⟩ : ∃ P, P = (!(yss.all (fun b => decide (b.length = 256)))) := ⟨_, rfl⟩
  rw [← hP] at HP ⊢
  clear hP
  go_enter Try.func45, Try.ntmps45
  go_wp2_with fail
  refine H.out.mono ?_
  rintro e w2 ⟨r, rfl, hrr, hb2⟩
  have hR : decide (0 ≤ r) = P := by
    rcases hrr with ⟨h1, j, h2, h3⟩ | ⟨h1, h2⟩
    · rw [decide_eq_true h1, HP.out.2 ⟨j, by rw [HL.out]; exact h2, h3⟩]
    · rw [decide_eq_false (by omega)]
      cases P with
      | false => rfl
      | true =>
        obtain ⟨j, h3, h4⟩ := HP.out.1 rfl
        exact absurd (h4.symm.trans (h2 j (by rw [← HL.out]; exact h3))) (by decide)
  clear hrr
  go_wp2_with fail
  go_ret
  exact ⟨rfl, hb2⟩
theorem dskHasW_any (g : Nat) (S : Option Addr) (sn sc : Nat) (K : Option Addr) (kn kc : Nat) (us : List Value) (D : Dk) (w : World) (hr : RdWs w K kn kc us D.k) (hn : kn ≤ 1000000) (hs : sn ≤ 9223372036854775807) (hsl : D.s.length = sn) (hq : DkAt w g S sn sc K kn kc) :
    Calls Try.prog 46 #[.slice K kn kc, .func (.func 43) #[] #[.pointer (some ⟨g, 0, none⟩)]] w (RetV w (.bool (!(D.k.all (fun p => dkHas D p.1 && decide (p.2.length = 256)))))) := by
  have H := Lib.hid (dskIdxW_any g S sn sc K kn kc us D.k w hr hn hs hq)
  have HP := Lib.hid (nall_getD D.k (fun p => dkHas D p.1 && decide (p.2.length = 256)) (0, []))
  have HL := Lib.hid hr.len
  obtain ⟨P, hP⟩ : ∃ P, P = (!(D.k.all (fun p => dkHas D p.1 && decide (p.2.length = 256)))) := ⟨_, rfl⟩
  rw [← hP] at HP ⊢
  have HX := Lib.hid (show ∀ p : Int × List UInt8, wLost sn p.1 p.2.length = !(dkHas D p.1 && decide (p.2.length = 256)) from fun p => by unfold wLost dkHas; rw [hsl]; cases decide (0 ≤ p.1) <;> cases decide (p.1 < (sn : Int)) <;> cases decide (p.2.length = 256) <;> rfl)
  clear hP
  go_enter Try.func46, Try.ntmps46
  go_wp2_with fail
  refine H.out.mono ?_
  rintro e w2 ⟨r, rfl, hrr, hb2⟩
  have hR : decide (0 ≤ r) = P := by
    rcases hrr with ⟨h1, j, h2, h3⟩ | ⟨h1, h2⟩
    · rw [decide_eq_true h1, HP.out.2 ⟨j, by rw [HL.out]; exact h2, by rw [← HX.out]; exact h3⟩]
    · rw [decide_eq_false (by omega)]
      cases P with
      | false => rfl
      | true =>
        obtain ⟨j, h3, h4⟩ := HP.out.1 rfl
        rw [← HX.out] at h4
        exact absurd (h4.symm.trans (h2 j (by rw [← HL.out]; exact h3))) (by decide)
  clear hrr
  go_wp2_with fail
  go_ret
  exact ⟨rfl, hb2⟩
theorem dskCheck_any (S : Option Addr) (sn sc : Nat) (K : Option Addr) (kn kc : Nat) (D : Dk) (w : World) (hr : RdDk w S sn sc K kn kc D) :
    Calls Try.prog 26 #[.agg #[.slice S sn sc, .slice K kn kc]] w (RetV w (.bool (dkOk D))) := by
  obtain ⟨hn1, hn2, _, _, _, _⟩ := hr.n63
  have hsl := hr.sl
  have hkl := hr.kl
  obtain ⟨V, hV⟩ : ∃ V, V = w.alloc (.cells #[.slice S sn sc, .slice K kn kc] 25) := ⟨_, rfl⟩
  have bV : Below w.heap.size w V := by rw [hV]; exact (below_self w).alloc (Nat.le_refl _) _
  have qV : Hid (DkAt V w.heap.size S sn sc K kn kc) := by rw [hV]; exact Lib.hid (drw_at _ rfl)
  have HV := Lib.hid hV
  clear hV
  by_cases h1 : sn ≤ 256
  · by_cases h2 : kn ≤ 512
    · have d1 : decide ((256 : Int) < (sn : Int)) = false := decide_eq_false (by omega)
      have d2 : decide ((512 : Int) < (kn : Int)) = false := decide_eq_false (by omega)
      obtain ⟨⟨vs, hs⟩, us, hk⟩ := hr.below bV
      have H1 := Lib.hid (dskHasS_any S sn sc vs D.s V hs (by omega))
      have H2 := Lib.hid (fun W (hb : Below V.heap.size V W) => dskHasW_any w.heap.size S sn sc K kn kc us D W (hk.below hb) (by omega) hn1 hsl (qV.out.up hb))
      have hE : dkOk D = (D.s.all (fun b => decide (b.length = 256)) && D.k.all (fun p => dkHas D p.1 && decide (p.2.length = 256))) := by
        unfold dkOk; rw [decide_eq_true (show D.s.length ≤ 256 by omega), decide_eq_true (show D.k.length ≤ 512 by omega)]; simp
      obtain ⟨P, hP⟩ : ∃ P, P = D.s.all (fun b => decide (b.length = 256)) := ⟨_, rfl⟩
      obtain ⟨Q, hQ⟩ : ∃ P, P = D.k.all (fun p => dkHas D p.1 && decide (p.2.length = 256)) := ⟨_, rfl⟩
      rw [← hP] at H1 hE
      rw [← hQ] at H2 hE
      rw [hE]
      have lV := qV.out.lt
      clear hP hQ hE hs hk
      cases P with
      | false =>
        go_enter Try.func26, Try.ntmps26
        go_wp2_with fail
        rw [← HV.out]
        refine H1.out.mono ?_
        rintro e w2 ⟨rfl, hb2⟩
        go_wp2_with fail
        go_ret
        exact ⟨rfl, below_then bV hb2⟩
      | true =>
        go_enter Try.func26, Try.ntmps26
        go_wp2_with fail
        rw [← HV.out]
        refine H1.out.mono ?_
        rintro e w2 ⟨rfl, hb2⟩
        have j1 := (qV.out.up hb2).c1
        go_wp2_with fail
        refine (H2.out w2 hb2).mono ?_
        rintro e w3 ⟨rfl, hb3⟩
        go_wp2_with fail
        go_ret
        exact ⟨by simp, below_then (below_then bV hb2) hb3⟩
    · have d1 : decide ((256 : Int) < (sn : Int)) = false := decide_eq_false (by omega)
      have d2 : decide ((512 : Int) < (kn : Int)) = true := decide_eq_true (by omega)
      rw [show dkOk D = false by unfold dkOk; rw [decide_eq_false (show ¬ D.k.length ≤ 512 by omega)]; simp]
      go_enter Try.func26, Try.ntmps26
      go_wp2_with fail
      rw [← HV.out]
      go_ret
      exact ⟨rfl, bV⟩
  · have d1 : decide ((256 : Int) < (sn : Int)) = true := decide_eq_true (by omega)
    rw [show dkOk D = false by unfold dkOk; rw [decide_eq_false (show ¬ D.s.length ≤ 256 by omega)]; simp]
    go_enter Try.func26, Try.ntmps26
    go_wp2_with fail
    rw [← HV.out]
    go_ret
    exact ⟨rfl, bV⟩
theorem dskAsked_any (S : Option Addr) (sn sc : Nat) (K : Option Addr) (kn kc : Nat) (D : Dk) (a : Int) (w : World) (hr : RdDk w S sn sc K kn kc D) (ha : -9223372036854775808 ≤ a ∧ a ≤ 9223372036854775807) :
    Calls Try.prog 35 #[.agg #[.slice S sn sc, .slice K kn kc], .int .i64 a] w (RetV w (.int .i64 (dkAsk D a))) := by
  obtain ⟨hn1, hn2, _, _, _, _⟩ := hr.n63
  have hsl := hr.sl
  obtain ⟨V, hV⟩ : ∃ V, V = w.alloc (.cells #[.slice S sn sc, .slice K kn kc] 25) := ⟨_, rfl⟩
  have bV : Below w.heap.size w V := by rw [hV]; exact (below_self w).alloc (Nat.le_refl _) _
  have qV : Hid (DkAt V w.heap.size S sn sc K kn kc) := by rw [hV]; exact Lib.hid (drw_at _ rfl)
  have HV := Lib.hid hV
  have H1 := Lib.hid (dskCheck_any S sn sc K kn kc D V (hr.below bV))
  have H2 := Lib.hid (fun W => dskHas_any S sn sc K kn kc a W hn1 ha)
  have hE : dkAsk D a = if dkOk D = false then 3 else if (decide (0 ≤ a) && decide (a < (sn : Int))) = false then 50 else 0 := by unfold dkAsk dkHas; rw [hsl]
  obtain ⟨P, hP⟩ : ∃ P, P = dkOk D := ⟨_, rfl⟩
  obtain ⟨Q, hQ⟩ : ∃ P, P = (decide (0 ≤ a) && decide (a < (sn : Int))) := ⟨_, rfl⟩
  rw [← hP] at H1 hE
  rw [← hQ] at H2 hE
  clear hV hP hQ
  cases P with
  | false =>
    rw [hE, if_pos rfl]
    clear hE
    go_enter Try.func35, Try.ntmps35
    go_wp2_with fail
    rw [← HV.out]
    refine H1.out.mono ?_
    rintro e w2 ⟨rfl, hb2⟩
    have j0 := (qV.out.up hb2).c0
    have j1 := (qV.out.up hb2).c1
    go_wp2_with fail
    go_ret
    exact ⟨rfl, below_then bV hb2⟩
  | true =>
    rw [if_neg (by decide)] at hE
    cases Q with
    | false =>
      rw [hE, if_pos rfl]
      clear hE
      go_enter Try.func35, Try.ntmps35
      go_wp2_with fail
      rw [← HV.out]
      refine H1.out.mono ?_
      rintro e w2 ⟨rfl, hb2⟩
      have j0 := (qV.out.up hb2).c0
      have j1 := (qV.out.up hb2).c1
      go_wp2_with fail
      refine (H2.out w2).mono ?_
      rintro e w3 ⟨rfl, hb3⟩
      go_wp2_with fail
      go_ret
      exact ⟨rfl, below_then (below_then bV hb2) hb3⟩
    | true =>
      rw [hE, if_neg (by decide)]
      clear hE
      go_enter Try.func35, Try.ntmps35
      go_wp2_with fail
      rw [← HV.out]
      refine H1.out.mono ?_
      rintro e w2 ⟨rfl, hb2⟩
      have j0 := (qV.out.up hb2).c0
      have j1 := (qV.out.up hb2).c1
      go_wp2_with fail
      refine (H2.out w2).mono ?_
      rintro e w3 ⟨rfl, hb3⟩
      go_wp2_with fail
      go_ret
      exact ⟨rfl, below_then (below_then bV hb2) hb3⟩
end Go.Proofs.Yteajboafcjeagaa
