/-
 Proved here, for the statement JournalTells:
 Layer 5: disks: words; what asks.
 Layer 5: disks: Check, asked.
-/
import Derived.Deep.RegionHeld3
import Derived.Test.YtpahicfnhhhifaaGreatGt01
set_option linter.unusedVariables false
set_option linter.unusedSimpArgs false
namespace Go.Proofs.YtpahicfnhhhifaaGreat
set_option maxRecDepth 20000
open Go.RowKit
set_option maxHeartbeats 4000000
def RdSS (w : World) (A : Option Addr) (n c : Nat) (vs : List Value) (yss : List (List UInt8)) : Prop := Rd w A vs ∧ vs.length = n ∧ n ≤ c ∧ c ≤ maxLen ∧ Parts w vs yss
theorem RdSS.at_ {w : World} {A : Option Addr} {n c : Nat} {vs : List Value} {yss : List (List UInt8)} (h : RdSS w A n c vs yss) (k : Nat) (hk : k < n) :
  ∃ b o B m d, A = some ⟨b, o, none⟩ ∧ b < w.heap.size ∧ w.cell? ⟨b, o + k, none⟩ = some (.slice B m d) ∧ RdB w B m d (yss.getD k []) := by
 obtain ⟨hr, hl, _, _, hp⟩ := h
 obtain ⟨b, o, rfl, hb, hc⟩ := hr.at_ k (by omega)
 have hy := hp.length
 obtain ⟨B, m, d, he, hrr⟩ := hp.at_ k (by omega) (by omega)
 refine ⟨b, o, B, m, d, rfl, hb, ?_, ?_⟩
 ·rw [hc, he]
 ·rw [List.getD, List.getElem?_eq_getElem (by omega)]; exact hrr
theorem RdSS.below {w w' : World} {A : Option Addr} {n c : Nat} {vs : List Value} {yss : List (List UInt8)} (h : RdSS w A n c vs yss) (hb : Below w.heap.size w w') : RdSS w' A n c vs yss := ⟨h.1.below hb, h.2.1, h.2.2.1, h.2.2.2.1, h.2.2.2.2.below hb⟩
theorem RdSS.len {w : World} {A : Option Addr} {n c : Nat} {vs : List Value} {yss : List (List UInt8)} (h : RdSS w A n c vs yss) : yss.length = n := by rw [← h.2.2.2.2.length]; exact h.2.1
def WParts (w : World) : List Value → List (Int × List UInt8) → Prop
 | [], [] => True
 | a :: v :: vs, p :: l => a = .int .i64 p.1 ∧ (-9223372036854775808 ≤ p.1 ∧ p.1 ≤ 9223372036854775807) ∧ (∃ A n c, v = .slice A n c ∧ RdB w A n c p.2) ∧ WParts w vs l
 | _, _ => False
theorem WParts.length {w : World} : ∀ {vs : List Value} {l : List (Int × List UInt8)}, WParts w vs l → vs.length = 2 * l.length
 | [], [], _ => rfl
 | _ :: _ :: _, _ :: _, h => by simp [WParts.length h.2.2.2]; omega
 | [], _ :: _, h => h.elim
 | [_], _, h => by cases ‹List (Int × List UInt8)› <;> exact h.elim
 | _ :: _ :: _, [], h => h.elim
theorem WParts.at_ {w : World} : ∀ {vs : List Value} {l : List (Int × List UInt8)}, WParts w vs l → ∀ (k : Nat), k < l.length → vs[k * 2]? = some (.int .i64 (l.getD k (0, [])).1) ∧ (-9223372036854775808 ≤ (l.getD k (0, [])).1 ∧ (l.getD k (0, [])).1 ≤ 9223372036854775807) ∧ ∃ A n c, vs[k * 2 + 1]? = some (.slice A n c) ∧ RdB w A n c (l.getD k (0, [])).2
 | a :: v :: vs, p :: l, h, 0, _ => by
  obtain ⟨h1, h2, ⟨A, n, c, h3, h4⟩, _⟩ := h
  subst h1 h3
  exact ⟨rfl, h2, A, n, c, rfl, h4⟩
 | a :: v :: vs, p :: l, h, k + 1, hk => by
  have := WParts.at_ h.2.2.2 k (by simpa using hk)
  rw [show (k + 1) * 2 = k * 2 + 1 + 1 by omega]
  simpa using this
 | _, [], _, _, hk => absurd hk (by simp)
theorem WParts.below {w w' : World} (hb : Below w.heap.size w w') : ∀ {vs : List Value} {l : List (Int × List UInt8)}, WParts w vs l → WParts w' vs l
 | [], [], _ => trivial
 | _ :: _ :: _, _ :: _, ⟨h1, h2, ⟨A, n, c, he, hr⟩, h⟩ => ⟨h1, h2, ⟨A, n, c, he, hr.below hb⟩, WParts.below hb h⟩
theorem WParts.snoc {w : World} {a : Int} {A : Option Addr} {n c : Nat} {ys : List UInt8} (ha : -9223372036854775808 ≤ a ∧ a ≤ 9223372036854775807) (h : RdB w A n c ys) : ∀ {vs : List Value} {l : List (Int × List UInt8)}, WParts w vs l → WParts w (vs ++ [.int .i64 a, .slice A n c]) (l ++ [(a, ys)])
 | [], [], _ => ⟨rfl, ha, ⟨_, _, _, rfl, h⟩, trivial⟩
 | _ :: _ :: _, _ :: _, hp => ⟨hp.1, hp.2.1, hp.2.2.1, WParts.snoc ha h hp.2.2.2⟩
def RdWs (w : World) (A : Option Addr) (n c : Nat) (vs : List Value) (l : List (Int × List UInt8)) : Prop := Rd w A vs ∧ vs.length = 2 * n ∧ n ≤ c ∧ c ≤ maxLen ∧ WParts w vs l
theorem RdWs.below {w w' : World} {A : Option Addr} {n c : Nat} {vs : List Value} {l : List (Int × List UInt8)} (h : RdWs w A n c vs l) (hb : Below w.heap.size w w') : RdWs w' A n c vs l := ⟨h.1.below hb, h.2.1, h.2.2.1, h.2.2.2.1, h.2.2.2.2.below hb⟩
theorem RdWs.len {w : World} {A : Option Addr} {n c : Nat} {vs : List Value} {l : List (Int × List UInt8)} (h : RdWs w A n c vs l) : l.length = n := by have := h.2.2.2.2.length; have := h.2.1; omega
theorem RdWs.at_ {w : World} {A : Option Addr} {n c : Nat} {vs : List Value} {l : List (Int × List UInt8)} (h : RdWs w A n c vs l) (k : Nat) (hk : k < n) :
  ∃ b o B m d, A = some ⟨b, o, none⟩ ∧ b < w.heap.size ∧ w.cell? ⟨b, o + k * 2, none⟩ = some (.int .i64 (l.getD k (0, [])).1) ∧ w.cell? ⟨b, o + k * 2 + 1, none⟩ = some (.slice B m d) ∧ RdB w B m d (l.getD k (0, [])).2 ∧ (-9223372036854775808 ≤ (l.getD k (0, [])).1 ∧ (l.getD k (0, [])).1 ≤ 9223372036854775807) := by
 have hl := h.len
 obtain ⟨hr, hl2, _, _, hp⟩ := h
 obtain ⟨h1, h2, B, m, d, h3, h4⟩ := hp.at_ k (by omega)
 obtain ⟨b, o, rfl, hb, hc⟩ := hr.at_ (k * 2) (by omega)
 obtain ⟨b', o', he, _, hc'⟩ := hr.at_ (k * 2 + 1) (by omega)
 injection he with he; injection he with e1 e2; subst e1 e2
 rw [List.getElem?_eq_getElem (by omega)] at h1 h3
 refine ⟨b, o, B, m, d, rfl, hb, hc.trans h1, ?_, h4, h2⟩
 rw [Nat.add_assoc]; exact hc'.trans h3
def RdDk (w : World) (S : Option Addr) (sn sc : Nat) (K : Option Addr) (kn kc : Nat) (D : Dk) : Prop := (∃ vs, RdSS w S sn sc vs D.s) ∧ (∃ us, RdWs w K kn kc us D.k)
section
variable {w w' : World} {S K : Option Addr} {sn sc kn kc : Nat} {D : Dk}
theorem RdDk.below (h : RdDk w S sn sc K kn kc D) (hb : Below w.heap.size w w') : RdDk w' S sn sc K kn kc D := by
 obtain ⟨⟨vs, h1⟩, us, h2⟩ := h
 exact ⟨⟨vs, h1.below hb⟩, us, h2.below hb⟩
theorem RdDk.sl (h : RdDk w S sn sc K kn kc D) : D.s.length = sn := by obtain ⟨⟨vs, h1⟩, us, h2⟩ := h; exact h1.len
theorem RdDk.kl (h : RdDk w S sn sc K kn kc D) : D.k.length = kn := by obtain ⟨⟨vs, h1⟩, us, h2⟩ := h; exact h2.len
theorem RdDk.n63 (h : RdDk w S sn sc K kn kc D) : sn ≤ 9223372036854775807 ∧ kn ≤ 9223372036854775807 ∧ sn ≤ sc ∧ kn ≤ kc ∧ sc ≤ 9223372036854775807 ∧ kc ≤ 9223372036854775807 := by
 obtain ⟨⟨vs, h1⟩, us, h2⟩ := h
 have a := h1.2.2; have b := h2.2.2
 unfold maxLen at a b
 omega
end
def RetDk (w : World) (D : Dk) (er : Int) (e : Ending) (w' : World) : Prop :=
 ∃ S sn sc K kn kc, e = .returned (.tuple #[.agg #[.slice S sn sc, .slice K kn kc], .int .i64 er]) ∧ RdDk w' S sn sc K kn kc D ∧ Below w.heap.size w w'
theorem dskWhole_any (A : Option Addr) (n c : Nat) (w : World) (hn : n ≤ 9223372036854775807) :
  Calls Tryz.prog 108 #[.slice A n c] w (RetV w (.bool (decide (n = 256)))) := by
 by_cases h : n = 256
 ·subst h
  go_enter Tryz.func108, Tryz.ntmps108
  go_wp2
  go_ret
  exact ⟨rfl, Below.refl _ _⟩
 ·have d1 : ((n : Int) == 256) = false := beq_eq_false_iff_ne.2 (by omega)
  rw [decide_eq_false h]
  clear h
  go_enter Tryz.func108, Tryz.ntmps108
  go_wp2
  go_ret
  exact ⟨rfl, Below.refl _ _⟩
theorem dskTorn_any (A : Option Addr) (n c : Nat) (w : World) (hn : n ≤ 9223372036854775807) :
  Calls Tryz.prog 107 #[.slice A n c] w (RetV w (.bool (!decide (n = 256)))) := by
 have H := Lib.hid (dskWhole_any A n c w hn)
 go_enter Tryz.func107, Tryz.ntmps107
 go_wp2_with fail
 refine H.out.mono ?_
 rintro e w2 ⟨rfl, hb2⟩
 go_wp2
 go_ret
 exact ⟨rfl, hb2⟩
theorem dskHas_any (S : Option Addr) (sn sc : Nat) (K : Option Addr) (kn kc : Nat) (a : Int) (w : World) (hn : sn ≤ 9223372036854775807) (ha : -9223372036854775808 ≤ a ∧ a ≤ 9223372036854775807) :
  Calls Tryz.prog 110 #[.agg #[.slice S sn sc, .slice K kn kc], .int .i64 a] w (RetV w (.bool (decide (0 ≤ a) && decide (a < (sn : Int))))) := by
 by_cases h : 0 ≤ a
 ·have d1 : decide (0 ≤ a) = true := decide_eq_true h
  go_enter Tryz.func110, Tryz.ntmps110
  go_wp2
  go_ret
  exact ⟨by simp [d1], (below_self w).alloc (Nat.le_refl _) _⟩
 ·have d1 : decide (0 ≤ a) = false := decide_eq_false h
  go_enter Tryz.func110, Tryz.ntmps110
  go_wp2
  go_ret
  exact ⟨by simp [d1], (below_self w).alloc (Nat.le_refl _) _⟩
theorem refDskHas_any (S : Option Addr) (sn sc : Nat) (K : Option Addr) (kn kc : Nat) (a : Int) (w : World) (hn : sn ≤ 9223372036854775807) (ha : -9223372036854775808 ≤ a ∧ a ≤ 9223372036854775807) :
  Calls Tryz.prog 84 #[.agg #[.slice S sn sc, .slice K kn kc], .int .i64 a] w (RetV w (.bool (decide (0 ≤ a) && decide (a < (sn : Int))))) := by
 by_cases h : 0 ≤ a
 ·have d1 : decide (0 ≤ a) = true := decide_eq_true h
  go_enter Tryz.func84, Tryz.ntmps84
  go_wp2
  go_ret
  exact ⟨by simp [d1], (below_self w).alloc (Nat.le_refl _) _⟩
 ·have d1 : decide (0 ≤ a) = false := decide_eq_false h
  go_enter Tryz.func84, Tryz.ntmps84
  go_wp2
  go_ret
  exact ⟨by simp [d1], (below_self w).alloc (Nat.le_refl _) _⟩
def IxI (w : World) (n : Nat) (p : Nat → Bool) (v : Value) (wr : World) : Prop := ∃ k : Nat, k ≤ n ∧ v = .int .i64 (k : Int) ∧ (∀ j, j < k → p j = false) ∧ Below w.heap.size w wr
def RetIx (w : World) (n : Nat) (p : Nat → Bool) (e : Ending) (w' : World) : Prop := ∃ r : Int, e = .returned (.int .i64 r) ∧ ((0 ≤ r ∧ ∃ j, j < n ∧ p j = true) ∨ (r = -1 ∧ ∀ j, j < n → p j = false)) ∧ Below w.heap.size w w'
theorem dskIdxS_any (S : Option Addr) (sn sc : Nat) (vs : List Value) (yss : List (List UInt8)) (w : World) (hr : RdSS w S sn sc vs yss) (hn : sn ≤ 1000000) :
  Calls Tryz.prog 142 #[.slice S sn sc, .func (.func 107) #[] #[]] w (RetIx w sn (fun j => !decide ((yss.getD j []).length = 256))) := by
 go_enter Tryz.func142, Tryz.ntmps142
 go_wp2_with fail
 go_loopw [8] (IxI w sn (fun j => !decide ((yss.getD j []).length = 256))) (fun i _ => sn - (intOf i).toNat)
 case atStart => exact ⟨0, by omega, rfl, fun j hj => by omega, Below.refl _ _⟩
 case round =>
  obtain ⟨k, hk, rfl, hp, hB⟩ := hrel
  have HPp := Lib.hid hp
  clear hp
  by_cases hlt : k < sn
  ·obtain ⟨b, o, B, m, d, rfl, hb, hc, hy⟩ := (hr.below hB).at_ k hlt
   have hm := hy.n63
   have H := Lib.hid (dskTorn_any B m d wr hm)
   have HM := Lib.hid hy.2.1
   cases hd : decide (m = 256) with
   | true =>
    rw [hd] at H
    have HD := Lib.hid (of_decide_eq_true hd)
    clear hd
    go_wp2_with fail
    refine H.out.mono ?_
    rintro e w2 ⟨rfl, hb2⟩
    go_wp2_with fail
    go_roundw
    case rel => exact ⟨k + 1, by omega, by go_num, fun j hj => by
     rcases Nat.lt_or_ge j k with h | h
     ·exact HPp.out j h
     ·obtain rfl : j = k := by omega
      show (!decide ((yss.getD j []).length = 256)) = false; rw [HM.out, HD.out]; rfl, below_then hB hb2⟩
    case measure => simp [intOf]; omega
   | false =>
    rw [hd] at H
    have HD := Lib.hid (of_decide_eq_false hd)
    clear hd
    go_wp2_with fail
    refine H.out.mono ?_
    rintro e w2 ⟨rfl, hb2⟩
    go_wp2_with fail
    go_ret
    exact ⟨_, rfl, .inl ⟨by omega, k, hlt, by show (!decide ((yss.getD k []).length = 256)) = true; rw [HM.out, decide_eq_false HD.out]; rfl⟩, below_then hB hb2⟩
  ·obtain rfl : k = sn := by omega
   go_wp2_with fail
   go_ret
   exact ⟨_, rfl, .inr ⟨rfl, HPp.out⟩, hB⟩
set_option maxHeartbeats 4000000
theorem drw_at {w : World} {k : Nat} (o : Obj) (h : w.heap.size = k) : (w.alloc o).heap[k]? = some o := by subst h; exact heap_alloc_new w o
theorem drw_old {w : World} {g : Nat} {o : Obj} (o' : Obj) (h : w.heap[g]? = some o) : (w.alloc o').heap[g]? = some o := (heap_alloc_old _ _ (Array.getElem?_eq_some_iff.1 h).1).trans h
theorem drw_up {w w' : World} {g : Nat} {o : Obj} (h : w.heap[g]? = some o) (hb : Below w.heap.size w w') : w'.heap[g]? = some o := (hb.block g (Array.getElem?_eq_some_iff.1 h).1).trans h
theorem drw_lt {w : World} {g : Nat} {o : Obj} (h : w.heap[g]? = some o) : g < w.heap.size := (Array.getElem?_eq_some_iff.1 h).1
def DkAt (w : World) (g : Nat) (S : Option Addr) (sn sc : Nat) (K : Option Addr) (kn kc : Nat) : Prop := w.heap[g]? = some (.cells #[.slice S sn sc, .slice K kn kc] 40 (0, 0))
section
variable {w w' : World} {g : Nat} {S K : Option Addr} {sn sc kn kc : Nat}
theorem DkAt.c0 (h : DkAt w g S sn sc K kn kc) : w.cell? ⟨g, 0, none⟩ = some (.slice S sn sc) := (cell_of_row w g 0 _ _ _ h).trans rfl
theorem DkAt.c1 (h : DkAt w g S sn sc K kn kc) : w.cell? ⟨g, 1, none⟩ = some (.slice K kn kc) := (cell_of_row w g 1 _ _ _ h).trans rfl
theorem DkAt.fr (h : DkAt w g S sn sc K kn kc) (i : Nat) : w.frozen? ⟨g, i, none⟩ = false := frozen_of_row _ _ i _ _ h
theorem DkAt.up (h : DkAt w g S sn sc K kn kc) (hb : Below w.heap.size w w') : DkAt w' g S sn sc K kn kc := drw_up h hb
theorem DkAt.lt (h : DkAt w g S sn sc K kn kc) : g < w.heap.size := drw_lt h
theorem DkAt.s0 (h : DkAt w g S sn sc K kn kc) (S' : Option Addr) (n' c' : Nat) : DkAt (w.setCell ⟨g, 0, none⟩ (.slice S' n' c')) g S' n' c' K kn kc := (setc_rowT h).trans rfl
theorem DkAt.s1 (h : DkAt w g S sn sc K kn kc) (S' : Option Addr) (n' c' : Nat) : DkAt (w.setCell ⟨g, 1, none⟩ (.slice S' n' c')) g S sn sc S' n' c' := (setc_rowT h).trans rfl
end
theorem all_getD {α : Type} (l : List α) (f : α → Bool) (d : α) : l.all f = true ↔ ∀ j, j < l.length → f (l.getD j d) = true := by
 rw [List.all_eq_true]
 constructor
 ·intro h j hj
  rw [List.getD, List.getElem?_eq_getElem hj]; exact h _ (List.getElem_mem _)
 ·intro h x hx
  obtain ⟨j, hj, rfl⟩ := List.mem_iff_getElem.1 hx
  have := h j hj
  rwa [List.getD, List.getElem?_eq_getElem hj] at this
theorem nall_getD {α : Type} (l : List α) (f : α → Bool) (d : α) : (!(l.all f)) = true ↔ ∃ j, j < l.length ∧ (!f (l.getD j d)) = true := by
 have := all_getD l f d
 constructor
 ·intro h
  refine Classical.byContradiction fun hn => ?_
  have : l.all f = true := this.2 (fun j hj => by
   cases hf : f (l.getD j d) with
   | true => rfl
   | false => exact absurd ⟨j, hj, by rw [hf]; rfl⟩ hn)
  rw [this] at h; cases h
 ·rintro ⟨j, hj, h⟩
  cases ha : l.all f with
  | false => rfl
  | true => rw [this.1 ha j hj] at h; cases h
def wLost (sn : Nat) (a : Int) (n : Nat) : Bool := !(decide (0 ≤ a) && decide (a < (sn : Int))) || !decide (n = 256)
theorem dskLost_any (a : Int) (A : Option Addr) (n c : Nat) (g : Nat) (S : Option Addr) (sn sc : Nat) (K : Option Addr) (kn kc : Nat) (w : World) (hn : n ≤ 9223372036854775807) (ha : -9223372036854775808 ≤ a ∧ a ≤ 9223372036854775807) (hs : sn ≤ 9223372036854775807) (hq : DkAt w g S sn sc K kn kc) :
  Calls Tryz.prog 109 #[.agg #[.int .i64 a, .slice A n c], .pointer (some ⟨g, 0, none⟩)] w (RetV w (.bool (wLost sn a n))) := by
 obtain ⟨V, hV⟩ : ∃ V, V = w.alloc (.cells #[.int .i64 a, .slice A n c] 119) := ⟨_, rfl⟩
 have bV : Below w.heap.size w V := by rw [hV]; exact (below_self w).alloc (Nat.le_refl _) _
 have qV : DkAt V g S sn sc K kn kc := hq.up bV
 have aV : V.heap[w.heap.size]? = some (.cells #[.int .i64 a, .slice A n c] 119 (0, 0)) := by rw [hV]; exact drw_at _ rfl
 have c0 := qV.c0
 have c1 := qV.c1
 have a1V := (cell_of_row V _ 1 _ _ _ aV).trans (show (#[.int .i64 a, .slice A n c] : Array Value)[1]? = some (.slice A n c) from rfl)
 have lV := drw_lt aV
 have H1 := Lib.hid (dskHas_any S sn sc K kn kc a V hs ha)
 have H2 := Lib.hid (fun W => dskWhole_any A n c W hn)
 rw [hV] at c0 c1
 have HV := Lib.hid hV
 obtain ⟨T, hT⟩ : ∃ T, T = (decide (0 ≤ a) && decide (a < (sn : Int))) := ⟨_, rfl⟩
 obtain ⟨Z, hZ⟩ : ∃ T, T = decide (n = 256) := ⟨_, rfl⟩
 have hL : wLost sn a n = (!T || !Z) := by rw [hT, hZ]; rfl
 rw [← hT] at H1
 rw [← hZ] at H2
 rw [hL]
 clear hV aV qV hq hT hZ hL
 cases T with
 | false =>
  go_enter Tryz.func109, Tryz.ntmps109
  go_wp2_with fail
  rw [← HV.out]
  refine H1.out.mono ?_
  rintro e w2 ⟨rfl, hb2⟩
  go_wp2_with fail
  go_ret
  exact ⟨rfl, below_then bV hb2⟩
 | true =>
  go_enter Tryz.func109, Tryz.ntmps109
  go_wp2_with fail
  rw [← HV.out]
  refine H1.out.mono ?_
  rintro e w2 ⟨rfl, hb2⟩
  have j1 := (hb2.cell (p := ⟨w.heap.size, 1, none⟩) lV).trans a1V
  go_wp2_with fail
  refine (H2.out w2).mono ?_
  rintro e w3 ⟨rfl, hb3⟩
  go_wp2_with fail
  go_ret
  exact ⟨rfl, below_then (below_then bV hb2) hb3⟩
theorem dskIdxW_any (g : Nat) (S : Option Addr) (sn sc : Nat) (K : Option Addr) (kn kc : Nat) (us : List Value) (l : List (Int × List UInt8)) (w : World) (hr : RdWs w K kn kc us l) (hn : kn ≤ 1000000) (hs : sn ≤ 9223372036854775807) (hq : DkAt w g S sn sc K kn kc) :
  Calls Tryz.prog 143 #[.slice K kn kc, .func (.func 109) #[] #[.pointer (some ⟨g, 0, none⟩)]] w (RetIx w kn (fun j => wLost sn (l.getD j (0, [])).1 (l.getD j (0, [])).2.length)) := by
 go_enter Tryz.func143, Tryz.ntmps143
 go_wp2_with fail
 go_loopw [8] (IxI w kn (fun j => wLost sn (l.getD j (0, [])).1 (l.getD j (0, [])).2.length)) (fun i _ => kn - (intOf i).toNat)
 case atStart => exact ⟨0, by omega, rfl, fun j hj => by omega, Below.refl _ _⟩
 case round =>
  obtain ⟨k, hk, rfl, hp, hB⟩ := hrel
  have HPp := Lib.hid hp
  clear hp
  by_cases hlt : k < kn
  ·obtain ⟨b, o, B, m, d, rfl, hb, hc0, hc1, hy, hrg⟩ := (hr.below hB).at_ k hlt
   have hm := hy.n63
   have HM := Lib.hid hy.2.1
   have qr := hq.up hB
   have hEq : wLost sn (l.getD k (0, [])).1 (l.getD k (0, [])).2.length = wLost sn (l.getD k (0, [])).1 m := by rw [hy.2.1]
   have HEQ := Lib.hid hEq
   obtain ⟨a, ha⟩ : ∃ a, (l.getD k (0, [])).1 = a := ⟨_, rfl⟩
   rw [ha] at hc0 hrg HEQ
   have HA := Lib.hid ha
   clear hEq ha
   have H := Lib.hid (dskLost_any a B m d g S sn sc _ kn kc wr hm hrg hs qr)
   clear qr
   cases hd : wLost sn a m with
   | false =>
    rw [hd] at H HEQ
    clear hd
    go_wp2_with fail
    refine H.out.mono ?_
    rintro e w2 ⟨rfl, hb2⟩
    go_wp2_with fail
    go_roundw
    case rel => exact ⟨k + 1, by omega, by go_num, fun j hj => by
     rcases Nat.lt_or_ge j k with h | h
     ·exact HPp.out j h
     ·obtain rfl : j = k := by omega
      show wLost sn (l.getD j (0, [])).1 (l.getD j (0, [])).2.length = false
      rw [HA.out]; exact HEQ.out, below_then hB hb2⟩
    case measure => simp [intOf]; omega
   | true =>
    rw [hd] at H HEQ
    clear hd
    go_wp2_with fail
    refine H.out.mono ?_
    rintro e w2 ⟨rfl, hb2⟩
    go_wp2_with fail
    go_ret
    exact ⟨_, rfl, .inl ⟨by omega, k, hlt, by show wLost sn (l.getD k (0, [])).1 (l.getD k (0, [])).2.length = true; rw [HA.out]; exact HEQ.out⟩, below_then hB hb2⟩
  ·obtain rfl : k = kn := by omega
   go_wp2_with fail
   go_ret
   exact ⟨_, rfl, .inr ⟨rfl, HPp.out⟩, hB⟩
theorem dskHasS_any (S : Option Addr) (sn sc : Nat) (vs : List Value) (yss : List (List UInt8)) (w : World) (hr : RdSS w S sn sc vs yss) (hn : sn ≤ 1000000) :
  Calls Tryz.prog 111 #[.slice S sn sc, .func (.func 107) #[] #[]] w (RetV w (.bool (!(yss.all (fun b => decide (b.length = 256)))))) := by
 have H := Lib.hid (dskIdxS_any S sn sc vs yss w hr hn)
 have HP := Lib.hid (nall_getD yss (fun b => decide (b.length = 256)) [])
 have HL := Lib.hid hr.len
 obtain ⟨P, hP⟩ : ∃ P, P = (!(yss.all (fun b => decide (b.length = 256)))) := ⟨_, rfl⟩
 rw [← hP] at HP ⊢
 clear hP
 go_enter Tryz.func111, Tryz.ntmps111
 go_wp2_with fail
 refine H.out.mono ?_
 rintro e w2 ⟨r, rfl, hrr, hb2⟩
 have hR : decide (0 ≤ r) = P := by
  rcases hrr with ⟨h1, j, h2, h3⟩ | ⟨h1, h2⟩
  ·rw [decide_eq_true h1, HP.out.2 ⟨j, by rw [HL.out]; exact h2, h3⟩]
  ·rw [decide_eq_false (by omega)]
   cases P with
   | false => rfl
   | true =>
    obtain ⟨j, h3, h4⟩ := HP.out.1 rfl
    exact absurd (h4.symm.trans (h2 j (by rw [← HL.out]; exact h3))) (by decide)
 clear hrr
 go_wp2_with fail
 go_ret
 exact ⟨rfl, hb2⟩
theorem dskHasW_any (g : Nat) (S : Option Addr) (sn sc : Nat) (K : Option Addr) (kn kc : Nat) (us : List Value) (D : Dk) (w : World) (hr : RdWs w K kn kc us D.k) (hn : kn ≤ 1000000) (hs : sn ≤ 9223372036854775807) (hsl : D.s.length = sn) (hq : DkAt w g S sn sc K kn kc) :
  Calls Tryz.prog 112 #[.slice K kn kc, .func (.func 109) #[] #[.pointer (some ⟨g, 0, none⟩)]] w (RetV w (.bool (!(D.k.all (fun p => dkHas D p.1 && decide (p.2.length = 256)))))) := by
 have H := Lib.hid (dskIdxW_any g S sn sc K kn kc us D.k w hr hn hs hq)
 have HP := Lib.hid (nall_getD D.k (fun p => dkHas D p.1 && decide (p.2.length = 256)) (0, []))
 have HL := Lib.hid hr.len
 obtain ⟨P, hP⟩ : ∃ P, P = (!(D.k.all (fun p => dkHas D p.1 && decide (p.2.length = 256)))) := ⟨_, rfl⟩
 rw [← hP] at HP ⊢
 have HX := Lib.hid (show ∀ p : Int × List UInt8, wLost sn p.1 p.2.length = !(dkHas D p.1 && decide (p.2.length = 256)) from fun p => by unfold wLost dkHas; rw [hsl]; cases decide (0 ≤ p.1) <;> cases decide (p.1 < (sn : Int)) <;> cases decide (p.2.length = 256) <;> rfl)
 clear hP
 go_enter Tryz.func112, Tryz.ntmps112
 go_wp2_with fail
 refine H.out.mono ?_
 rintro e w2 ⟨r, rfl, hrr, hb2⟩
 have hR : decide (0 ≤ r) = P := by
  rcases hrr with ⟨h1, j, h2, h3⟩ | ⟨h1, h2⟩
  ·rw [decide_eq_true h1, HP.out.2 ⟨j, by rw [HL.out]; exact h2, by rw [← HX.out]; exact h3⟩]
  ·rw [decide_eq_false (by omega)]
   cases P with
   | false => rfl
   | true =>
    obtain ⟨j, h3, h4⟩ := HP.out.1 rfl
    rw [← HX.out] at h4
    exact absurd (h4.symm.trans (h2 j (by rw [← HL.out]; exact h3))) (by decide)
 clear hrr
 go_wp2_with fail
 go_ret
 exact ⟨rfl, hb2⟩
theorem dskCheck_any (S : Option Addr) (sn sc : Nat) (K : Option Addr) (kn kc : Nat) (D : Dk) (w : World) (hr : RdDk w S sn sc K kn kc D) :
  Calls Tryz.prog 68 #[.agg #[.slice S sn sc, .slice K kn kc]] w (RetV w (.bool (dkOk D))) := by
 obtain ⟨hn1, hn2, _, _, _, _⟩ := hr.n63
 have hsl := hr.sl
 have hkl := hr.kl
 obtain ⟨V, hV⟩ : ∃ V, V = w.alloc (.cells #[.slice S sn sc, .slice K kn kc] 40) := ⟨_, rfl⟩
 have bV : Below w.heap.size w V := by rw [hV]; exact (below_self w).alloc (Nat.le_refl _) _
 have qV : Hid (DkAt V w.heap.size S sn sc K kn kc) := by rw [hV]; exact Lib.hid (drw_at _ rfl)
 have HV := Lib.hid hV
 clear hV
 by_cases h1 : sn ≤ 256
 ·by_cases h2 : kn ≤ 512
  ·have d1 : decide ((256 : Int) < (sn : Int)) = false := decide_eq_false (by omega)
   have d2 : decide ((512 : Int) < (kn : Int)) = false := decide_eq_false (by omega)
   obtain ⟨⟨vs, hs⟩, us, hk⟩ := hr.below bV
   have H1 := Lib.hid (dskHasS_any S sn sc vs D.s V hs (by omega))
   have H2 := Lib.hid (fun W (hb : Below V.heap.size V W) => dskHasW_any w.heap.size S sn sc K kn kc us D W (hk.below hb) (by omega) hn1 hsl (qV.out.up hb))
   have hE : dkOk D = (D.s.all (fun b => decide (b.length = 256)) && D.k.all (fun p => dkHas D p.1 && decide (p.2.length = 256))) := by
    unfold dkOk; rw [decide_eq_true (show D.s.length ≤ 256 by omega), decide_eq_true (show D.k.length ≤ 512 by omega)]; simp
   obtain ⟨P, hP⟩ : ∃ P, P = D.s.all (fun b => decide (b.length = 256)) := ⟨_, rfl⟩
   obtain ⟨Q, hQ⟩ : ∃ P, P = D.k.all (fun p => dkHas D p.1 && decide (p.2.length = 256)) := ⟨_, rfl⟩
   rw [← hP] at H1 hE
   rw [← hQ] at H2 hE
   rw [hE]
   have lV := qV.out.lt
   clear hP hQ hE hs hk
   cases P with
   | false =>
    go_enter Tryz.func68, Tryz.ntmps68
    go_wp2_with fail
    rw [← HV.out]
    refine H1.out.mono ?_
    rintro e w2 ⟨rfl, hb2⟩
    go_wp2_with fail
    go_ret
    exact ⟨rfl, below_then bV hb2⟩
   | true =>
    go_enter Tryz.func68, Tryz.ntmps68
    go_wp2_with fail
    rw [← HV.out]
    refine H1.out.mono ?_
    rintro e w2 ⟨rfl, hb2⟩
    have j1 := (qV.out.up hb2).c1
    go_wp2_with fail
    refine (H2.out w2 hb2).mono ?_
    rintro e w3 ⟨rfl, hb3⟩
    go_wp2_with fail
    go_ret
    exact ⟨by simp, below_then (below_then bV hb2) hb3⟩
  ·have d1 : decide ((256 : Int) < (sn : Int)) = false := decide_eq_false (by omega)
   have d2 : decide ((512 : Int) < (kn : Int)) = true := decide_eq_true (by omega)
   rw [show dkOk D = false by unfold dkOk; rw [decide_eq_false (show ¬ D.k.length ≤ 512 by omega)]; simp]
   go_enter Tryz.func68, Tryz.ntmps68
   go_wp2_with fail
   rw [← HV.out]
   go_ret
   exact ⟨rfl, bV⟩
 ·have d1 : decide ((256 : Int) < (sn : Int)) = true := decide_eq_true (by omega)
  rw [show dkOk D = false by unfold dkOk; rw [decide_eq_false (show ¬ D.s.length ≤ 256 by omega)]; simp]
  go_enter Tryz.func68, Tryz.ntmps68
  go_wp2_with fail
  rw [← HV.out]
  go_ret
  exact ⟨rfl, bV⟩
theorem dskAsked_any (S : Option Addr) (sn sc : Nat) (K : Option Addr) (kn kc : Nat) (D : Dk) (a : Int) (w : World) (hr : RdDk w S sn sc K kn kc D) (ha : -9223372036854775808 ≤ a ∧ a ≤ 9223372036854775807) :
  Calls Tryz.prog 113 #[.agg #[.slice S sn sc, .slice K kn kc], .int .i64 a] w (RetV w (.int .i64 (dkAsk D a))) := by
 obtain ⟨hn1, hn2, _, _, _, _⟩ := hr.n63
 have hsl := hr.sl
 obtain ⟨V, hV⟩ : ∃ V, V = w.alloc (.cells #[.slice S sn sc, .slice K kn kc] 40) := ⟨_, rfl⟩
 have bV : Below w.heap.size w V := by rw [hV]; exact (below_self w).alloc (Nat.le_refl _) _
 have qV : Hid (DkAt V w.heap.size S sn sc K kn kc) := by rw [hV]; exact Lib.hid (drw_at _ rfl)
 have HV := Lib.hid hV
 have H1 := Lib.hid (dskCheck_any S sn sc K kn kc D V (hr.below bV))
 have H2 := Lib.hid (fun W => dskHas_any S sn sc K kn kc a W hn1 ha)
 have hE : dkAsk D a = if dkOk D = false then 3 else if (decide (0 ≤ a) && decide (a < (sn : Int))) = false then 50 else 0 := by unfold dkAsk dkHas; rw [hsl]
 obtain ⟨P, hP⟩ : ∃ P, P = dkOk D := ⟨_, rfl⟩
 obtain ⟨Q, hQ⟩ : ∃ P, P = (decide (0 ≤ a) && decide (a < (sn : Int))) := ⟨_, rfl⟩
 rw [← hP] at H1 hE
 rw [← hQ] at H2 hE
 clear hV hP hQ
 cases P with
 | false =>
  rw [hE, if_pos rfl]
  clear hE
  go_enter Tryz.func113, Tryz.ntmps113
  go_wp2_with fail
  rw [← HV.out]
  refine H1.out.mono ?_
  rintro e w2 ⟨rfl, hb2⟩
  have j0 := (qV.out.up hb2).c0
  have j1 := (qV.out.up hb2).c1
  go_wp2_with fail
  go_ret
  exact ⟨rfl, below_then bV hb2⟩
 | true =>
  rw [if_neg (by decide)] at hE
  cases Q with
  | false =>
   rw [hE, if_pos rfl]
   clear hE
   go_enter Tryz.func113, Tryz.ntmps113
   go_wp2_with fail
   rw [← HV.out]
   refine H1.out.mono ?_
   rintro e w2 ⟨rfl, hb2⟩
   have j0 := (qV.out.up hb2).c0
   have j1 := (qV.out.up hb2).c1
   go_wp2_with fail
   refine (H2.out w2).mono ?_
   rintro e w3 ⟨rfl, hb3⟩
   go_wp2_with fail
   go_ret
   exact ⟨rfl, below_then (below_then bV hb2) hb3⟩
  | true =>
   rw [hE, if_neg (by decide)]
   clear hE
   go_enter Tryz.func113, Tryz.ntmps113
   go_wp2_with fail
   rw [← HV.out]
   refine H1.out.mono ?_
   rintro e w2 ⟨rfl, hb2⟩
   have j0 := (qV.out.up hb2).c0
   have j1 := (qV.out.up hb2).c1
   go_wp2_with fail
   refine (H2.out w2).mono ?_
   rintro e w3 ⟨rfl, hb3⟩
   go_wp2_with fail
   go_ret
   exact ⟨rfl, below_then (below_then bV hb2) hb3⟩
def planB (ops : Array Oper) : List (Nat × Bool) → Array Bool → Bool
 | [], listed => (Region.ready .any ops listed).isEmpty
 | (i, true) :: rest, listed => Region.free .any ops listed i && (Region.ready .any ops listed).contains i && planB ops rest (listed.setIfInBounds i true)
 | (i, false) :: rest, listed => (Region.ready .any ops listed == [i]) && planB ops rest (listed.setIfInBounds i true)
section
variable {P : Program} {ops : Array Oper} {Q : Exit → Act → World → Prop} {S : World → Prop}
def wpPlan (P : Program) (ops : Array Oper) (S : World → Prop) (Q : Exit → Act → World → Prop) : List (Nat × Bool) → Act → World → Prop
 | [], a, w => Q .normal a w
 | (i, true) :: rest, a, w => ∃ o v, ops[i]? = some o ∧ YieldsIf P ops S o v a ∧ wpPlan P ops S Q rest (a.put o.dst v) w
 | (i, false) :: rest, a, w => wpOp P ops Q i (fun a' w' => S w' ∧ wpPlan P ops S Q rest a' w') a w
theorem at_drop {i : Nat} {o : Oper} {tl : List Oper} (ho : ops.toList.drop i = o :: tl) : ops[i]? = some o := by
 have h : (ops.toList.drop i)[0]? = some o := by rw [ho]; rfl
 rw [List.getElem?_drop, Nat.add_zero] at h
 simpa using h
theorem plan_take {i : Nat} {rest : List (Nat × Bool)} {o : Oper} {tl : List Oper} {v : Value} {a : Act} {w : World} (ho : ops.toList.drop i = o :: tl) (hy : YieldsIf P ops S o v a)
  (h : wpPlan P ops S Q rest (a.put o.dst v) w) : wpPlan P ops S Q ((i, true) :: rest) a w := ⟨o, v, at_drop ho, hy, h⟩
theorem plan_run {i : Nat} {rest : List (Nat × Bool)} {o : Oper} {tl : List Oper} {a : Act} {w : World} (ho : ops.toList.drop i = o :: tl)
  (h : ∀ K' : Act → World → Prop, Shut (∀ a w, S w → wpPlan P ops S Q rest a w → K' a w) → if Region.wanted o (yielded ops a.tmps) = true then Oper.wp P o a w K' Q else K' (a.put o.dst undef) w) :
  wpPlan P ops S Q ((i, false) :: rest) a w := wpOp_step (at_drop ho) (fun K' hK => h K' (fun a w hS hW => hK a w ⟨hS, hW⟩))
theorem plan_done {a : Act} {w : World} (h : Q .normal a w) : wpPlan P ops S Q [] a w := h
theorem wpAnyH_plan (hs : Region.noSelect ops = true) (hQ : ∀ c (a : Act) (d : Option Tmp) (v : Value) w, Q (.panic c) (a.put d v) w → Q (.panic c) a w) :
  ∀ (plan : List (Nat × Bool)) (fuel : Nat) (listed : Array Bool) (a : Act) (w : World), plan.length ≤ fuel → planB ops plan listed = true → S w → wpPlan P ops S Q plan a w →
   wpAnyH P .any ops Q S fuel listed a w := by
 intro plan
 induction plan with
 | nil =>
  intro fuel listed a w _ hB _ h
  exact wpAnyH_done (by simpa [planB] using hB) h fuel
 | cons p rest ih =>
  obtain ⟨i, b⟩ := p
  intro fuel listed a w hl hB hS h
  obtain ⟨fuel, rfl⟩ : ∃ f, fuel = f + 1 := ⟨fuel - 1, by simp at hl; omega⟩
  have hl' : rest.length ≤ fuel := by simpa using hl
  cases b with
  | true =>
   simp only [planB, Bool.and_eq_true] at hB
   obtain ⟨o, v, ho, hy, hr⟩ := h
   exact wpAnyH_take ho hs hB.1.1 hB.1.2 (fun c a w => hQ c a _ _ w) hy hS (ih fuel _ _ _ hl' hB.2 hS hr)
  | false =>
   simp only [planB, Bool.and_eq_true, beq_iff_eq] at hB
   refine wpAnyH_all hB.1 (by simp) (fun j hj => ?_)
   obtain rfl : j = i := by simpa using hj
   exact wpOp_mono (fun a' w' h' => ⟨h'.1, ih fuel _ _ _ hl' hB.2 h'.1 h'.2⟩) h
theorem wp_region_plan {id : Nat} {a : Act} {w : World} (plan : List (Nat × Bool)) (hm : P.follows .mixedOrders = true)
  (hB : (Region.noSelect ops && decide (plan.length ≤ ops.size) && planB ops plan (Array.replicate ops.size false)) = true)
  (hQ : ∀ c (a : Act) (d : Option Tmp) (v : Value) w, Q (.panic c) (a.put d v) w → Q (.panic c) a w) (hS : S w.drew)
  (h : wpPlan P ops S Q plan a w.drew) : (Code.region id ops true).wp P Q a w := by
 simp only [Bool.and_eq_true, decide_eq_true_eq] at hB
 exact wp_region_held hm (wpAnyH_plan hB.1.1 hQ plan _ _ _ _ hB.1.2 hB.2 hS h)
end
section
variable {P : Program} {ops : Array Oper} {Q : Exit → Act → World → Prop} {S : World → Prop}
def YieldsX (P : Program) (ops : Array Oper) (S : World → Prop) (o : Oper) (v : Value) (a : Act) : Prop :=
 YieldsIf P ops S o v a ∨ (Region.wanted o (yielded ops a.tmps) = true ∧ ∃ f args, ∀ w, S w → (execOp a.eval o).run P w = .ok (.enter f args) w ∧ Calls P f args w (fun e w' => e = .returned v ∧ w = w'))
theorem YieldsX.wpOp {i : Nat} {o : Oper} {v : Value} {a : Act} (hi : ops[i]? = some o) (hy : YieldsX P ops S o v a)
  {K : Act → World → Prop} {w : World} (hS : S w) (h : K (a.put o.dst v) w) : wpOp P ops Q i K a w := by
 rcases hy with hy | ⟨hw, f, args, hv⟩
 ·exact hy.wpOp hi hS h
 ·unfold Go.wpOp
  obtain ⟨h1, h2⟩ := hv w hS
  simp only [hi, hw, if_true, Oper.wp, h1, Oper.upon]
  refine .inl (Calls.mono h2 ?_)
  rintro e w' ⟨rfl, rfl⟩
  exact h
theorem YieldsX.of_same {o : Oper} {v : Value} {a a' : Act} (hy : YieldsX P ops S o v a) (he : execOp a'.eval o = execOp a.eval o)
  (hw : Region.wanted o (yielded ops a'.tmps) = Region.wanted o (yielded ops a.tmps)) : YieldsX P ops S o v a' := by
 rcases hy with hy | hy
 ·exact .inl (hy.of_same he hw)
 ·right
  rw [he, hw]
  exact hy
theorem wpOp_putX {j : Nat} {oi oj : Oper} {v : Value} (hj : ops[j]? = some oj) (hap : oi.apart ops oj = true)
  (hsi : ∀ cs b, oi.op ≠ .select cs b) (hsj : ∀ cs b, oj.op ≠ .select cs b)
  (hQ : ∀ c a w, Q (.panic c) (a.put oi.dst v) w → Q (.panic c) a w) {K : Act → World → Prop} {a : Act} {w : World}
  (hy : YieldsX P ops S oi v a) (h : wpOp P ops Q j K (a.put oi.dst v) w) :
  wpOp P ops Q j (fun a' w' => YieldsX P ops S oi v a' ∧ K (a'.put oi.dst v) w') a w := by
 obtain ⟨h1, h2, h3⟩ := Oper.apart_spec hap
 have keep : ∀ (a : Act), YieldsX P ops S oi v a → ∀ u, YieldsX P ops S oi v (a.put oj.dst u) := fun a hy u =>
  hy.of_same (execOp_put oi hsi a oj.dst u h3) (wanted_put oi a oj.dst u h3)
 have keepD : ∀ d, YieldsX P ops S oi v { a with defers := d :: a.defers } := fun d => hy.of_same rfl rfl
 unfold wpOp at *
 simp only [hj] at *
 rw [wanted_put oj a oi.dst v h1] at h
 split
 ·rename_i hw
  simp only [hw, if_true] at h
  rcases h with h | ⟨hasks, hlets⟩
  case inr => exact .inr ⟨by unfold Oper.asks at *; rw [execOp_put oj hsj a oi.dst v h1] at hasks; exact hasks, hlets⟩
  refine .inl ?_
  unfold Oper.wp at *
  rw [execOp_put oj hsj a oi.dst v h1] at h
  generalize (execOp a.eval oj).run P w = r at *
  cases r with
  | ok n w' =>
   cases n <;> simp only [Oper.upon] at h ⊢
   case value u => exact ⟨keep a hy u, by rw [← Act.put_comm a v u h2]; exact h⟩
   case skip => exact ⟨keep a hy _, by rw [← Act.put_comm a v undef h2]; exact h⟩
   case defer d =>
    refine ⟨keep _ (keepD d) _, ?_⟩
    rw [← Act.put_comm _ v undef h2, ← Act.put_defers]
    exact h
   case enter f args =>
    refine Calls.mono h fun e w'' he => ?_
    cases e with
    | returned u => exact ⟨keep a hy u, by rw [← Act.put_comm a v u h2]; exact he⟩
    | panicked c => exact hQ _ _ _ he
    | outgrown => exact he
   case row row args => exact Rows.mono h fun u w'' he => ⟨keep a hy u, by rw [← Act.put_comm a v u h2]; exact he⟩
  | halt x w' =>
   cases x <;> simp only [Oper.upon] at h ⊢
   case panic u => exact hQ _ _ _ h
 ·rename_i hw
  simp only [hw] at h
  exact ⟨keep a hy _, by rw [← Act.put_comm a v undef h2]; exact h⟩
theorem wpAnyH_firstX {md : Region.Mode} {i : Nat} {oi : Oper} {v : Value} (hi : ops[i]? = some oi) (hsel : ∀ (j : Nat) (o : Oper) cs b, ops[j]? = some o → o.op ≠ .select cs b)
  (hQ : ∀ c a w, Q (.panic c) (a.put oi.dst v) w → Q (.panic c) a w) :
  ∀ (fuel : Nat) (listed : Array Bool) (a : Act) (w : World),
   (∀ j oj, ops[j]? = some oj → j ≠ i → listed.getD j true = false → (∀ e ∈ oj.after, Region.binds md e = true → e.on ≠ i) → oi.apart ops oj = true) →
   i ∈ Region.ready md ops listed → YieldsX P ops S oi v a → S w →
   wpAnyH P md ops Q S fuel (listed.setIfInBounds i true) (a.put oi.dst v) w → wpAnyH P md ops Q S (fuel + 1) listed a w := by
 intro fuel
 induction fuel with
 | zero =>
  intro listed a w _ hr hy hS H
  refine ⟨fun h => (by rw [h] at hr; cases hr), fun j hj => ?_⟩
  by_cases hji : j = i
  ·subst hji; exact hy.wpOp hi hS ⟨hS, H⟩
  ·have := ready_mono hj hji
   rw [H.1] at this
   cases this
 | succ fuel ih =>
  intro listed a w hfree hr hy hS H
  refine ⟨fun h => (by rw [h] at hr; cases hr), fun j hj => ?_⟩
  by_cases hji : j = i
  ·subst hji; exact hy.wpOp hi hS ⟨hS, H⟩
  ·have h1 := H.2 j (ready_mono hj hji)
   obtain ⟨hjun, oj, hoj, hall⟩ := mem_ready.1 hj
   have hnot : ∀ e ∈ oj.after, Region.binds md e = true → e.on ≠ i := fun e he hb heq => by
    have h1 := hall e he hb
    have h0 := (mem_ready.1 hr).1
    rw [heq] at h1
    rcases Nat.lt_or_ge i listed.size with h' | h'
    ·simp [h'] at h0 h1; rw [h0] at h1; cases h1
    ·simp [Array.getElem?_eq_none h'] at h1
   have h2 := wpOp_putX hoj (hfree j oj hoj hji hjun hnot) (fun cs b => hsel i oi cs b hi) (fun cs b => hsel j oj cs b hoj) hQ hy h1
   have hfree' : ∀ k ok, ops[k]? = some ok → k ≠ i → (listed.setIfInBounds j true).getD k true = false →
     (∀ e ∈ ok.after, Region.binds md e = true → e.on ≠ i) → oi.apart ops ok = true := fun k ok hk hki hun hno => by
    refine hfree k ok hk hki ?_ hno
    by_cases hjk : j = k
    ·subst hjk; exact hjun
    ·rw [getD_set_ne true hjk] at hun; exact hun
   refine wpOp_mono (fun a' w' h3 => ⟨h3.2.1, ih (listed.setIfInBounds j true) a' w' hfree' (ready_mono hr (Ne.symm hji)) h3.1 h3.2.1 ?_⟩) h2
   rw [Array.setIfInBounds_comm _ _ hji]
   exact h3.2.2
theorem wpAnyH_takeX {md : Region.Mode} {i : Nat} {oi : Oper} {v : Value} {fuel : Nat} {listed : Array Bool} {a : Act} {w : World} (hi : ops[i]? = some oi)
  (hs : Region.noSelect ops = true) (hf : Region.free md ops listed i = true) (hr : (Region.ready md ops listed).contains i = true)
  (hQ : ∀ c a w, Q (.panic c) (a.put oi.dst v) w → Q (.panic c) a w) (hy : YieldsX P ops S oi v a) (hS : S w)
  (h : wpAnyH P md ops Q S fuel (listed.setIfInBounds i true) (a.put oi.dst v) w) : wpAnyH P md ops Q S (fuel + 1) listed a w :=
 wpAnyH_firstX hi (Region.noSelect_spec hs) hQ fuel listed a w (Region.free_spec hi hf) (by simpa using hr) hy hS h
end
def planL (ops : Array Oper) : List (Nat × Bool) → Array Bool → Option (Array Bool)
 | [], l => some l
 | (i, true) :: r, l => if (Region.free .any ops l i && (Region.ready .any ops l).contains i) = true then planL ops r (l.setIfInBounds i true) else none
 | (i, false) :: r, l => if (Region.ready .any ops l == [i]) = true then planL ops r (l.setIfInBounds i true) else none
section
variable {P : Program} {ops : Array Oper} {Q : Exit → Act → World → Prop} {S : World → Prop} {C : Act → World → Prop}
def wpPlanC (P : Program) (ops : Array Oper) (S : World → Prop) (Q : Exit → Act → World → Prop) (C : Act → World → Prop) : List (Nat × Bool) → Act → World → Prop
 | [], a, w => C a w
 | (i, true) :: rest, a, w => ∃ o v, ops[i]? = some o ∧ YieldsX P ops S o v a ∧ wpPlanC P ops S Q C rest (a.put o.dst v) w
 | (i, false) :: rest, a, w => wpOp P ops Q i (fun a' w' => S w' ∧ wpPlanC P ops S Q C rest a' w') a w
theorem seg_take {i : Nat} {rest : List (Nat × Bool)} {o : Oper} {tl : List Oper} {v : Value} {a : Act} {w : World} (ho : ops.toList.drop i = o :: tl) (hy : YieldsIf P ops S o v a)
  (h : wpPlanC P ops S Q C rest (a.put o.dst v) w) : wpPlanC P ops S Q C ((i, true) :: rest) a w := ⟨o, v, at_drop ho, .inl hy, h⟩
theorem seg_pure {i : Nat} {rest : List (Nat × Bool)} {o : Oper} {tl : List Oper} {v : Value} {a : Act} {w : World} (ho : ops.toList.drop i = o :: tl) {f : FuncId} {args : Array Value} (hw : Region.wanted o (yielded ops a.tmps) = true)
  (hy : ∀ w, S w → (execOp a.eval o).run P w = .ok (.enter f args) w) (hc : ∀ w, S w → Calls P f args w (fun e w' => e = .returned v ∧ w = w'))
  (h : wpPlanC P ops S Q C rest (a.put o.dst v) w) : wpPlanC P ops S Q C ((i, true) :: rest) a w := ⟨o, v, at_drop ho, .inr ⟨hw, f, args, fun w hS => ⟨hy w hS, hc w hS⟩⟩, h⟩
theorem seg_run {i : Nat} {rest : List (Nat × Bool)} {o : Oper} {tl : List Oper} {a : Act} {w : World} (ho : ops.toList.drop i = o :: tl)
  (h : ∀ K' : Act → World → Prop, Shut (∀ a w, S w → wpPlanC P ops S Q C rest a w → K' a w) → if Region.wanted o (yielded ops a.tmps) = true then Oper.wp P o a w K' Q else K' (a.put o.dst undef) w) :
  wpPlanC P ops S Q C ((i, false) :: rest) a w := wpOp_step (at_drop ho) (fun K' hK => h K' (fun a w hS hW => hK a w ⟨hS, hW⟩))
theorem seg_done {a : Act} {w : World} (h : C a w) : wpPlanC P ops S Q C [] a w := h
theorem op_run {i : Nat} {o : Oper} {tl : List Oper} {a : Act} {w : World} (ho : ops.toList.drop i = o :: tl)
  (h : ∀ K' : Act → World → Prop, Shut (∀ a w, S w → C a w → K' a w) → if Region.wanted o (yielded ops a.tmps) = true then Oper.wp P o a w K' Q else K' (a.put o.dst undef) w) :
  wpOp P ops Q i (fun a' w' => S w' ∧ C a' w') a w := wpOp_step (at_drop ho) (fun K' hK => h K' (fun a w hS hW => hK a w ⟨hS, hW⟩))
theorem wpAnyH_seg (hs : Region.noSelect ops = true) (hQ : ∀ c (a : Act) (d : Option Tmp) (v : Value) w, Q (.panic c) (a.put d v) w → Q (.panic c) a w) (f : Nat) (l' : Array Bool) :
  ∀ (plan : List (Nat × Bool)) (l : Array Bool) (a : Act) (w : World), (planL ops plan l == some l') = true → S w →
   wpPlanC P ops S Q (fun a w => S w → wpAnyH P .any ops Q S f l' a w) plan a w → wpAnyH P .any ops Q S (f + plan.length) l a w := by
 intro plan
 induction plan with
 | nil =>
  intro l a w hB hS h
  have : l = l' := by simpa [planL] using hB
  subst this
  exact h hS
 | cons p rest ih =>
  obtain ⟨i, b⟩ := p
  intro l a w hB hS h
  rw [List.length_cons, ← Nat.add_assoc]
  cases b with
  | true =>
   by_cases hc : (Region.free .any ops l i && (Region.ready .any ops l).contains i) = true
   ·have hB' : (planL ops rest (l.setIfInBounds i true) == some l') = true := by simpa only [planL, if_pos hc] using hB
    rw [Bool.and_eq_true] at hc
    obtain ⟨o, v, ho, hy, hr⟩ := h
    exact wpAnyH_takeX ho hs hc.1 hc.2 (fun c a w => hQ c a _ _ w) hy hS (ih _ _ _ hB' hS hr)
   ·simp only [planL, if_neg hc] at hB
    exact absurd hB (by simp)
  | false =>
   by_cases hc : (Region.ready .any ops l == [i]) = true
   ·have hB' : (planL ops rest (l.setIfInBounds i true) == some l') = true := by simpa only [planL, if_pos hc] using hB
    refine wpAnyH_all (by simpa using hc) (by simp) (fun j hj => ?_)
    obtain rfl : j = i := by simpa using hj
    exact wpOp_mono (fun a' w' h' => ⟨h'.1, ih _ _ _ hB' h'.1 h'.2⟩) h
   ·simp only [planL, if_neg hc] at hB
    exact absurd hB (by simp)
theorem wp_region_seg {id : Nat} {a : Act} {w : World} (f : Nat) (l' : Array Bool) (plan : List (Nat × Bool)) (hm : P.follows .mixedOrders = true)
  (hB : (Region.noSelect ops && (f + plan.length == ops.size) && (planL ops plan (Array.replicate ops.size false) == some l')) = true)
  (hQ : ∀ c (a : Act) (d : Option Tmp) (v : Value) w, Q (.panic c) (a.put d v) w → Q (.panic c) a w) (hS : S w.drew)
  (h : wpPlanC P ops S Q (fun a w => S w → wpAnyH P .any ops Q S f l' a w) plan a w.drew) : (Code.region id ops true).wp P Q a w := by
 rw [Bool.and_eq_true, Bool.and_eq_true, beq_iff_eq] at hB
 refine wp_region_held (S := S) hm ?_
 have := wpAnyH_seg hB.1.1 hQ f l' plan _ a w.drew hB.2 hS h
 rw [hB.1.2] at this
 exact this
theorem wpAnyH_two {i j f : Nat} {l : Array Bool} {a : Act} {w : World} (hr : (Region.ready .any ops l == [i, j]) = true)
  (hi : wpOp P ops Q i (fun a' w' => S w' ∧ wpAnyH P .any ops Q S f (l.setIfInBounds i true) a' w') a w)
  (hj : wpOp P ops Q j (fun a' w' => S w' ∧ wpAnyH P .any ops Q S f (l.setIfInBounds j true) a' w') a w) : wpAnyH P .any ops Q S (f + 1) l a w := by
 refine wpAnyH_all (rs := [i, j]) (by simpa using hr) (by simp) (fun k hk => ?_)
 simp only [List.mem_cons, List.not_mem_nil, or_false] at hk
 rcases hk with rfl | rfl
 ·exact hi
 ·exact hj
theorem wpAnyH_three {i j k f : Nat} {l : Array Bool} {a : Act} {w : World} (hr : (Region.ready .any ops l == [i, j, k]) = true)
  (hi : wpOp P ops Q i (fun a' w' => S w' ∧ wpAnyH P .any ops Q S f (l.setIfInBounds i true) a' w') a w)
  (hj : wpOp P ops Q j (fun a' w' => S w' ∧ wpAnyH P .any ops Q S f (l.setIfInBounds j true) a' w') a w)
  (hk : wpOp P ops Q k (fun a' w' => S w' ∧ wpAnyH P .any ops Q S f (l.setIfInBounds k true) a' w') a w) : wpAnyH P .any ops Q S (f + 1) l a w := by
 refine wpAnyH_all (rs := [i, j, k]) (by simpa using hr) (by simp) (fun m hm => ?_)
 simp only [List.mem_cons, List.not_mem_nil, or_false] at hm
 rcases hm with rfl | rfl | rfl
 ·exact hi
 ·exact hj
 ·exact hk
end
section
variable {P : Program} {ops : Array Oper} {Q : Exit → Act → World → Prop} {S : World → Prop} {md : Region.Mode} {z : Nat}
def wpAnyZ (P : Program) (md : Region.Mode) (ops : Array Oper) (Q : Exit → Act → World → Prop) (S : World → Prop) (z : Nat) : Nat → Array Bool → Act → World → Prop
 | 0, listed, a, w => Region.ready md ops listed = [] ∧ Q .normal a w
 | fuel + 1, listed, a, w =>
  (Region.ready md ops listed = [] → Q .normal a w) ∧
  ∀ i ∈ Region.ready md ops listed, wpOp P ops Q i (fun a' w' => (i ≠ z → S w') ∧ wpAnyZ P md ops Q S z fuel (listed.setIfInBounds i true) a' w') a w
theorem wpAny_of_Z : ∀ (fuel : Nat) (listed : Array Bool) (a : Act) (w : World), wpAnyZ P md ops Q S z fuel listed a w → wpAny P md ops Q fuel listed a w
 | 0, _, _, _, h => h
 | fuel + 1, _, _, _, h => ⟨h.1, fun i hi => wpOp_mono (fun a' w' h' => wpAny_of_Z fuel _ a' w' h'.2) (h.2 i hi)⟩
def Closed (md : Region.Mode) (ops : Array Oper) (l : Array Bool) : Prop :=
 ∀ k ok, ops[k]? = some ok → l.getD k false = true → ∀ e ∈ ok.after, Region.binds md e = true → l.getD e.on false = true
theorem Closed.set {l : Array Bool} {j : Nat} (h : Closed md ops l) (hj : j ∈ Region.ready md ops l) : Closed md ops (l.setIfInBounds j true) := by
 intro k ok hk hl e he hb
 by_cases hjk : j = k
 ·subst hjk
  obtain ⟨_, o, ho, hall⟩ := mem_ready.1 hj
  rw [hk] at ho
  injection ho with ho
  subst ho
  exact getD_set_true (hall e he hb)
 ·rw [getD_set_ne false hjk] at hl
  exact getD_set_true (h k ok hk hl e he hb)
def waitsN (md : Region.Mode) (ops : Array Oper) : Nat → Nat → Nat → Bool
 | 0, _, _ => false
 | n + 1, k, i => ((ops[k]?).map (fun o => o.after.any fun e => Region.binds md e && (e.on == i || waitsN md ops n e.on i))).getD false
theorem waitsN_no {l : Array Bool} {i : Nat} (hcl : Closed md ops l) (hi : l.getD i false = false) : ∀ (n k : Nat), waitsN md ops n k i = true → ∀ ok, ops[k]? = some ok → (∀ e ∈ ok.after, Region.binds md e = true → l.getD e.on false = true) → False := by
 intro n
 induction n with
 | zero => intro k h; simp [waitsN] at h
 | succ n ih =>
  intro k h ok hk hall
  simp only [waitsN, hk, Option.map_some, Option.getD_some, Array.any_eq_true] at h
  obtain ⟨q, hq, hq2⟩ := h
  rw [Bool.and_eq_true, Bool.or_eq_true, beq_iff_eq] at hq2
  have hl := hall _ (Array.getElem_mem hq) hq2.1
  rcases hq2.2 with e | e
  ·rw [e, hi] at hl; cases hl
  ·cases ho : ops[(ok.after[q]).on]? with
   | none =>
    cases n with
    | zero => simp [waitsN] at e
    | succ n => simp [waitsN, ho] at e
   | some o2 => exact ih _ e o2 ho (fun e2 he2 hb2 => hcl _ o2 ho hl e2 he2 hb2)
theorem wpAnyZ_first {i : Nat} {oi oz : Oper} {v : Value} (hi : ops[i]? = some oi) (hz : ops[z]? = some oz) (hiz : i ≠ z) (N : Nat) (hwait : waitsN md ops N z i = true)
  (hsel : ∀ (j : Nat) (o : Oper) cs b, ops[j]? = some o → o.op ≠ .select cs b)
  (hQ : ∀ c a w, Q (.panic c) (a.put oi.dst v) w → Q (.panic c) a w) :
  ∀ (fuel : Nat) (listed : Array Bool) (a : Act) (w : World),
   (∀ j oj, ops[j]? = some oj → j ≠ i → listed.getD j true = false → (∀ e ∈ oj.after, Region.binds md e = true → e.on ≠ i) → oi.apart ops oj = true) →
   i ∈ Region.ready md ops listed → Closed md ops listed → YieldsX P ops S oi v a → S w →
   wpAnyZ P md ops Q S z fuel (listed.setIfInBounds i true) (a.put oi.dst v) w → wpAnyZ P md ops Q S z (fuel + 1) listed a w := by
 intro fuel
 induction fuel with
 | zero =>
  intro listed a w _ hr hcl hy hS H
  refine ⟨fun h => (by rw [h] at hr; cases hr), fun j hj => ?_⟩
  by_cases hji : j = i
  ·subst hji; exact hy.wpOp hi hS ⟨fun _ => hS, H⟩
  ·have := ready_mono hj hji
   rw [H.1] at this
   cases this
 | succ fuel ih =>
  intro listed a w hfree hr hcl hy hS H
  refine ⟨fun h => (by rw [h] at hr; cases hr), fun j hj => ?_⟩
  by_cases hji : j = i
  ·subst hji; exact hy.wpOp hi hS ⟨fun _ => hS, H⟩
  ·have h1 := H.2 j (ready_mono hj hji)
   obtain ⟨hjun, oj, hoj, hall⟩ := mem_ready.1 hj
   have hnot : ∀ e ∈ oj.after, Region.binds md e = true → e.on ≠ i := fun e he hb heq => by
    have h1 := hall e he hb
    have h0 := (mem_ready.1 hr).1
    rw [heq] at h1
    rcases Nat.lt_or_ge i listed.size with h' | h'
    ·simp [h'] at h0 h1; rw [h0] at h1; cases h1
    ·simp [Array.getElem?_eq_none h'] at h1
   have hjz : j ≠ z := by
    rintro rfl
    have h0 := (mem_ready.1 hr).1
    refine waitsN_no hcl ?_ N j hwait oj hoj hall
    rcases Nat.lt_or_ge i listed.size with h' | h'
    ·simp [h'] at h0 ⊢; exact h0
    ·simp [Array.getElem?_eq_none h']
   have h2 := wpOp_putX hoj (hfree j oj hoj hji hjun hnot) (fun cs b => hsel i oi cs b hi) (fun cs b => hsel j oj cs b hoj) hQ hy h1
   have hfree' : ∀ k ok, ops[k]? = some ok → k ≠ i → (listed.setIfInBounds j true).getD k true = false →
     (∀ e ∈ ok.after, Region.binds md e = true → e.on ≠ i) → oi.apart ops ok = true := fun k ok hk hki hun hno => by
    refine hfree k ok hk hki ?_ hno
    by_cases hjk : j = k
    ·subst hjk; exact hjun
    ·rw [getD_set_ne true hjk] at hun; exact hun
   refine wpOp_mono (fun a' w' h3 => ⟨fun _ => h3.2.1 hjz, ih (listed.setIfInBounds j true) a' w' hfree' (ready_mono hr (Ne.symm hji)) (hcl.set hj) h3.1 (h3.2.1 hjz) ?_⟩) h2
   rw [Array.setIfInBounds_comm _ _ hji]
   exact h3.2.2
def waitsB (ops : Array Oper) (z : Nat) (plan : List (Nat × Bool)) : Bool :=
 plan.all fun p => p.1 != z && (!p.2 || waitsN .any ops 12 z p.1)
theorem wpAnyZ_seg (hs : Region.noSelect ops = true) (hQ : ∀ c (a : Act) (d : Option Tmp) (v : Value) w, Q (.panic c) (a.put d v) w → Q (.panic c) a w) (l' : Array Bool) (hz : (Region.ready .any ops l' == [z]) = true) (hz2 : (Region.ready .any ops (l'.setIfInBounds z true)).isEmpty = true) :
  ∀ (plan : List (Nat × Bool)) (l : Array Bool) (a : Act) (w : World), (planL ops plan l == some l') = true → waitsB ops z plan = true → Closed .any ops l → S w →
   wpPlanC P ops S Q (fun a w => wpOp P ops Q z (fun a' w' => Q .normal a' w') a w) plan a w → wpAnyZ P .any ops Q S z (1 + plan.length) l a w := by
 intro plan
 induction plan with
 | nil =>
  intro l a w hB _ _ hS h
  have : l = l' := by simpa [planL] using hB
  subst this
  have hr : Region.ready .any ops l = [z] := by simpa using hz
  refine ⟨fun h0 => absurd (hr ▸ h0) (by simp), fun i hi => ?_⟩
  rw [hr] at hi
  obtain rfl : i = z := by simpa using hi
  exact wpOp_mono (fun a' w' h' => ⟨fun h => absurd rfl h, by simpa using hz2, h'⟩) h
 | cons p rest ih =>
  obtain ⟨i, b⟩ := p
  intro l a w hB hW hcl hS h
  rw [List.length_cons, ← Nat.add_assoc]
  simp only [waitsB, List.all_cons, Bool.and_eq_true] at hW
  have hW2 : waitsB ops z rest = true := by simpa only [waitsB] using hW.2
  cases b with
  | true =>
   by_cases hc : (Region.free .any ops l i && (Region.ready .any ops l).contains i) = true
   ·have hB' : (planL ops rest (l.setIfInBounds i true) == some l') = true := by simpa only [planL, if_pos hc] using hB
    rw [Bool.and_eq_true] at hc
    obtain ⟨o, v, ho, hy, hr⟩ := h
    have hiz : i ≠ z := by simpa using hW.1.1
    have hw := hW.1.2
    simp only [Bool.not_true, Bool.false_or] at hw
    cases hoz : ops[z]? with
    | none => rw [waitsN, hoz] at hw; simp at hw
    | some oz =>
     have hrd : i ∈ Region.ready .any ops l := by simpa using hc.2
     exact wpAnyZ_first ho hoz hiz 12 hw (Region.noSelect_spec hs) (fun c a w => hQ c a _ _ w) _ _ _ _ (Region.free_spec ho hc.1) hrd hcl hy hS (ih _ _ _ hB' hW2 (hcl.set hrd) hS hr)
   ·simp only [planL, if_neg hc] at hB
    exact absurd hB (by simp)
  | false =>
   by_cases hc : (Region.ready .any ops l == [i]) = true
   ·have hB' : (planL ops rest (l.setIfInBounds i true) == some l') = true := by simpa only [planL, if_pos hc] using hB
    have hr : Region.ready .any ops l = [i] := by simpa using hc
    refine ⟨fun h0 => absurd (hr ▸ h0) (by simp), fun j hj => ?_⟩
    rw [hr] at hj
    obtain rfl : j = i := by simpa using hj
    exact wpOp_mono (fun a' w' h' => ⟨fun _ => h'.1, ih _ _ _ hB' hW2 (hcl.set (by rw [hr]; simp)) h'.1 h'.2⟩) h
   ·simp only [planL, if_neg hc] at hB
    exact absurd hB (by simp)
theorem wp_region_last {id : Nat} {a : Act} {w : World} (z : Nat) (l' : Array Bool) (plan : List (Nat × Bool)) (hm : P.follows .mixedOrders = true)
  (hB : (Region.noSelect ops && (1 + plan.length == ops.size) && (planL ops plan (Array.replicate ops.size false) == some l') && (Region.ready .any ops l' == [z]) && (Region.ready .any ops (l'.setIfInBounds z true)).isEmpty && waitsB ops z plan) = true)
  (hQ : ∀ c (a : Act) (d : Option Tmp) (v : Value) w, Q (.panic c) (a.put d v) w → Q (.panic c) a w) (hS : S w.drew)
  (h : wpPlanC P ops S Q (fun a w => wpOp P ops Q z (fun a' w' => Q .normal a' w') a w) plan a w.drew) : (Code.region id ops true).wp P Q a w := by
 simp only [Bool.and_eq_true] at hB
 obtain ⟨⟨⟨⟨⟨h1, h2⟩, h3⟩, h4⟩, h5⟩, h6⟩ := hB
 have := wpAnyZ_seg (S := S) h1 hQ l' h4 h5 plan _ a w.drew h3 h6 (fun k ok _ hl => by simp [Array.getD] at hl) hS h
 rw [beq_iff_eq.1 h2] at this
 exact wp_region_any hm (wpAny_of_Z _ _ _ _ this)
theorem last_run {o : Oper} {tl : List Oper} {a : Act} {w : World} {C : Act → World → Prop} (ho : ops.toList.drop z = o :: tl)
  (h : ∀ K' : Act → World → Prop, Shut (∀ a w, C a w → K' a w) → if Region.wanted o (yielded ops a.tmps) = true then Oper.wp P o a w K' Q else K' (a.put o.dst undef) w) :
  wpOp P ops Q z C a w := wpOp_step (at_drop ho) (fun K' hK => h K' (fun a w hW => hK a w hW))
end
section
variable {P : Program} {o : Oper} {a : Act} {w : World} {K : Act → World → Prop} {Q : Exit → Act → World → Prop}
theorem op_value {v : Value} {w' : World} (hrun : (execOp a.eval o).run P w = .ok (.value v) w') (h : K (a.put o.dst v) w') : o.wp P a w K Q := by
 unfold Oper.wp
 rw [hrun]
 exact h
theorem op_new (cs : Array Value) (T : TypeId) (hrun : ∀ w : World, (execOp a.eval o).run P w = .ok (.value (.pointer (some ⟨w.heap.size, 0, none⟩))) (w.alloc (.cells cs T)))
  (h : ∀ g w', w.heap.size = g → w'.heap[g]? = some (.cells cs T (0, 0)) → Below w.heap.size w w' → w'.heap.size = g + 1 → K (a.put o.dst (.pointer (some ⟨g, 0, none⟩))) w') : o.wp P a w K Q :=
 op_value (hrun w) (h _ _ rfl (heap_alloc_new w _) ((below_self w).alloc (Nat.le_refl _) _) (by simp))
theorem op_lit (cs : Array Value) (T : TypeId) (n : Nat) (hn : cs.size = n) (hrun : ∀ w : World, (execOp a.eval o).run P w = .ok (.value (.slice (some ⟨w.heap.size, 0, none⟩) n n)) (w.alloc (.cells cs T)))
  (h : ∀ g w', w.heap.size = g → w'.heap[g]? = some (.cells cs T (0, 0)) → Below w.heap.size w w' → w'.heap.size = g + 1 → K (a.put o.dst (.slice (some ⟨g, 0, none⟩) n n)) w') : o.wp P a w K Q :=
 op_value (hrun w) (h _ _ rfl (heap_alloc_new w _) ((below_self w).alloc (Nat.le_refl _) _) (by simp))
end
theorem named {P : Program} {f : FuncId} {args : Array Value} {W : World} {R : Ending → World → Prop} (h : ∀ W', W' = W → Calls P f args W' R) : Calls P f args W R := h W rfl
theorem rdK {W : World} {k : Nat} (h : W.heap.size = k) (cs : Array Value) (xs : List UInt8) (n : Nat) (hc : cs.toList = xs.map vB) (hn : xs.length = n) (hm : n ≤ maxLen) : RdB (W.alloc (.cells cs 5)) (some ⟨k, 0, none⟩) n n xs := by
 subst h
 exact RdB.litM W cs (0, 0) xs n hc hn hm
theorem wp_makeK {ops : Array Oper} {rest : List Oper} {o : Oper} {a : Act} {w : World} {Q : Exit → Act → World → Prop} (hgd : o.guard = none) (l c : Operand) (ho : o.op = Op.makeSlice 47 l c)
  (kl kc : IntKind) (n : Nat) (hl : a.eval l = .int kl n) (hc : a.eval c = .int kc n) (hn : n ≤ 70368744177664) (k : Nat) (hk : w.heap.size = k)
  (h : ∀ w', OwnB w' k (some ⟨k, 0, none⟩) n n (List.replicate n 0) → Below w.heap.size w w' → wpList Tryz.prog ops Q rest (a.put o.dst (.slice (some ⟨k, 0, none⟩) n n)) w') : wpList Tryz.prog ops Q (o :: rest) a w := by
 subst hk
 exact wp_makeB hgd l c ho kl kc n hl hc hn h
theorem own_at0 {w : World} {g : Nat} (h : w.heap[g]? = some (.cells #[] 5 (0, 0))) {base : Nat} (hb : base ≤ g) : OwnB w base (some ⟨g, 0, none⟩) 0 0 [] :=
 ⟨rfl, .inr ⟨g, 0, #[], rfl, hb, h, Nat.le_refl _, by simp [maxLen], rfl, rfl⟩⟩
theorem op_appB {o : Oper} {a : Act} {w0 w : World} {K : Act → World → Prop} {Q : Exit → Act → World → Prop} (s x : Operand)
  (ho : o.op = .call { callee := .builtin .append, args := #[s, x], argTypes := #[47, 47] })
  (hb : Below w0.heap.size w0 w) {base : Nat} (hbase : w0.heap.size ≤ base) (hbw : base ≤ w.heap.size) (A : Option Addr) (n c : Nat) (xs : List UInt8) (hs : a.eval s = .slice A n c) (hown : OwnB w base A n c xs)
  (B : Option Addr) (m d : Nat) (ys : List UInt8) (hx : a.eval x = .slice B m d) (hr : RdB w B m d ys) (hm : n + m ≤ 70368744177664) (k : Nat) (zs : List UInt8) (hk : n + m = k) (hz : xs ++ ys = zs)
  (h : ∀ A' c' w', OwnB w' base A' k c' zs → Below w0.heap.size w0 w' → w.grownBy w' (Value.slice A n c).ownBlock → K (a.put o.dst (.slice A' k c')) w') : o.wp Tryz.prog a w K Q := by
 subst hk hz
 obtain ⟨A', c', w', hr', h2, h3⟩ := run_app (P := Tryz.prog) (w := w) elemB o.type base _ n _ hown B m d _ hr.1 (by simpa using hr.2.1) (oneCell_vB _) (by unfold maxLen; omega) (by omega) hbw
 unfold Oper.wp execOp
 simp only [ho, resolve, invoke, builtin, Sem.run_bind, Sem.run_pure, Result.andThen_ok, List.map_toArray, List.map_cons, List.map_nil, hs, hx, hr']
 refine h A' c' w' ?_ ?_ h3
 ·unfold OwnB; rw [List.map_append]; exact h2
 ·exact hb.grown h3 hb.size (fun q hq => Nat.le_trans hbase (hown.lt q hq).1)
end Go.Proofs.YtpahicfnhhhifaaGreat
