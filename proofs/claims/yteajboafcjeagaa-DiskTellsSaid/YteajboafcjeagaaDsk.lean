/-
  Layer 5: disks: words; what asks.
-/
import Derived.Test.YteajboafcjeagaaDskP
import Derived.Test.YteajboafcjeagaaAid
import Derived.LoopTactic
namespace Go.Proofs.Yteajboafcjeagaa
set_option maxRecDepth 20000
open Go.RowKit
set_option linter.unusedVariables false
set_option linter.unusedSimpArgs false
set_option maxHeartbeats 4000000

/-! ### Rows -/
def RdSS (w : World) (A : Option Addr) (n c : Nat) (vs : List Value) (yss : List (List UInt8)) : Prop := Rd w A vs ∧ vs.length = n ∧ n ≤ c ∧ c ≤ maxLen ∧ Parts w vs yss
theorem RdSS.at_ {w : World} {A : Option Addr} {n c : Nat} {vs : List Value} {yss : List (List UInt8)} (h : RdSS w A n c vs yss) (k : Nat) (hk : k < n) :
    ∃ b o B m d, A = some ⟨b, o, none⟩ ∧ b < w.heap.size ∧ w.cell? ⟨b, o + k, none⟩ = some (.slice B m d) ∧ RdB w B m d (yss.getD k []) := by
  obtain ⟨hr, hl, _, _, hp⟩ := h
  obtain ⟨b, o, rfl, hb, hc⟩ := hr.at_ k (by omega)
  have hy := hp.length
  obtain ⟨B, m, d, he, hrr⟩ := hp.at_ k (by omega) (by omega)
  refine ⟨b, o, B, m, d, rfl, hb, ?_, ?_⟩
  · rw [hc, he]
  · rw [List.getD, List.getElem?_eq_getElem (by omega)]; exact hrr
theorem RdSS.below {w w' : World} {A : Option Addr} {n c : Nat} {vs : List Value} {yss : List (List UInt8)} (h : RdSS w A n c vs yss) (hb : Below w.heap.size w w') : RdSS w' A n c vs yss := ⟨h.1.below hb, h.2.1, h.2.2.1, h.2.2.2.1, h.2.2.2.2.below hb⟩
theorem RdSS.len {w : World} {A : Option Addr} {n c : Nat} {vs : List Value} {yss : List (List UInt8)} (h : RdSS w A n c vs yss) : yss.length = n := by rw [← h.2.2.2.2.length]; exact h.2.1
/-- A row of writes: a number and a slice each. -/
def WParts (w : World) : List Value → List (Int × List UInt8) → Prop
  | [], [] => True
  | a :: v :: vs, p :: l => a = .int .i64 p.1 ∧ (-9223372036854775808 ≤ p.1 ∧ p.1 ≤ 9223372036854775807) ∧ (∃ A n c, v = .slice A n c ∧ RdB w A n c p.2) ∧ WParts w vs l
  | _, _ => False
theorem WParts.length {w : World} : ∀ {vs : List Value} {l : List (Int × List UInt8)}, WParts w vs l → vs.length = 2 * l.length
  | [], [], _ => rfl
  | _ :: _ :: _, _ :: _, h => by simp [WParts.length h.2.2.2]; omega
  | [], _ :: _, h => h.elim
  | [_], _, h => by cases ‹List (Int × List UInt8)› <;> exact h.elim
  | _ :: _ :: _, [], h => h.elim
theorem WParts.at_ {w : World} : ∀ {vs : List Value} {l : List (Int × List UInt8)}, WParts w vs l → ∀ (k : Nat), k < l.length → vs[k * 2]? = some (.int .i64 (l.getD k (0, [])).1) ∧ (-9223372036854775808 ≤ (l.getD k (0, [])).1 ∧ (l.getD k (0, [])).1 ≤ 9223372036854775807) ∧ ∃ A n c, vs[k * 2 + 1]? = some (.slice A n c) ∧ RdB w A n c (l.getD k (0, [])).2
  | a :: v :: vs, p :: l, h, 0, _ => by
    obtain ⟨h1, h2, ⟨A, n, c, h3, h4⟩, _⟩ := h
    subst h1 h3
    exact ⟨rfl, h2, A, n, c, rfl, h4⟩
  | a :: v :: vs, p :: l, h, k + 1, hk => by
    have := WParts.at_ h.2.2.2 k (by simpa using hk)
    rw [show (k + 1) * 2 = k * 2 + 1 + 1 by omega]
    simpa using this
  | _, [], _, _, hk => absurd hk (by simp)
theorem WParts.below {w w' : World} (hb : Below w.heap.size w w') : ∀ {vs : List Value} {l : List (Int × List UInt8)}, WParts w vs l → WParts w' vs l
  | [], [], _ => trivial
  | _ :: _ :: _, _ :: _, ⟨h1, h2, ⟨A, n, c, he, hr⟩, h⟩ => ⟨h1, h2, ⟨A, n, c, he, hr.below hb⟩, WParts.below hb h⟩
theorem WParts.snoc {w : World} {a : Int} {A : Option Addr} {n c : Nat} {ys : List UInt8} (ha : -9223372036854775808 ≤ a ∧ a ≤ 9223372036854775807) (h : RdB w A n c ys) : ∀ {vs : List Value} {l : List (Int × List UInt8)}, WParts w vs l → WParts w (vs ++ [.int .i64 a, .slice A n c]) (l ++ [(a, ys)])
  | [], [], _ => ⟨rfl, ha, ⟨_, _, _, rfl, h⟩, trivial⟩
  | _ :: _ :: _, _ :: _, hp => ⟨hp.1, hp.2.1, hp.2.2.1, WParts.snoc ha h hp.2.2.2⟩
def RdWs (w : World) (A : Option Addr) (n c : Nat) (vs : List Value) (l : List (Int × List UInt8)) : Prop := Rd w A vs ∧ vs.length = 2 * n ∧ n ≤ c ∧ c ≤ maxLen ∧ WParts w vs l
theorem RdWs.below {w w' : World} {A : Option Addr} {n c : Nat} {vs : List Value} {l : List (Int × List UInt8)} (h : RdWs w A n c vs l) (hb : Below w.heap.size w w') : RdWs w' A n c vs l := ⟨h.1.below hb, h.2.1, h.2.2.1, h.2.2.2.1, h.2.2.2.2.below hb⟩
theorem RdWs.len {w : World} {A : Option Addr} {n c : Nat} {vs : List Value} {l : List (Int × List UInt8)} (h : RdWs w A n c vs l) : l.length = n := by have := h.2.2.2.2.length; have := h.2.1; omega
theorem RdWs.at_ {w : World} {A : Option Addr} {n c : Nat} {vs : List Value} {l : List (Int × List UInt8)} (h : RdWs w A n c vs l) (k : Nat) (hk : k < n) :
    ∃ b o B m d, A = some ⟨b, o, none⟩ ∧ b < w.heap.size ∧ w.cell? ⟨b, o + k * 2, none⟩ = some (.int .i64 (l.getD k (0, [])).1) ∧ w.cell? ⟨b, o + k * 2 + 1, none⟩ = some (.slice B m d) ∧ RdB w B m d (l.getD k (0, [])).2 ∧ (-9223372036854775808 ≤ (l.getD k (0, [])).1 ∧ (l.getD k (0, [])).1 ≤ 9223372036854775807) := by
  have hl := h.len
  obtain ⟨hr, hl2, _, _, hp⟩ := h
  obtain ⟨h1, h2, B, m, d, h3, h4⟩ := hp.at_ k (by omega)
  obtain ⟨b, o, rfl, hb, hc⟩ := hr.at_ (k * 2) (by omega)
  obtain ⟨b', o', he, _, hc'⟩ := hr.at_ (k * 2 + 1) (by omega)
  injection he with he; injection he with e1 e2; subst e1 e2
  rw [List.getElem?_eq_getElem (by omega)] at h1 h3
  refine ⟨b, o, B, m, d, rfl, hb, hc.trans h1, ?_, h4, h2⟩
  rw [Nat.add_assoc]; exact hc'.trans h3
/-- A disk that is read. -/
def RdDk (w : World) (S : Option Addr) (sn sc : Nat) (K : Option Addr) (kn kc : Nat) (D : Dk) : Prop := (∃ vs, RdSS w S sn sc vs D.s) ∧ (∃ us, RdWs w K kn kc us D.k)
section
variable {w w' : World} {S K : Option Addr} {sn sc kn kc : Nat} {D : Dk}
theorem RdDk.below (h : RdDk w S sn sc K kn kc D) (hb : Below w.heap.size w w') : RdDk w' S sn sc K kn kc D := by
  obtain ⟨⟨vs, h1⟩, us, h2⟩ := h
  exact ⟨⟨vs, h1.below hb⟩, us, h2.below hb⟩
theorem RdDk.sl (h : RdDk w S sn sc K kn kc D) : D.s.length = sn := by obtain ⟨⟨vs, h1⟩, us, h2⟩ := h; exact h1.len
theorem RdDk.kl (h : RdDk w S sn sc K kn kc D) : D.k.length = kn := by obtain ⟨⟨vs, h1⟩, us, h2⟩ := h; exact h2.len
theorem RdDk.n63 (h : RdDk w S sn sc K kn kc D) : sn ≤ 9223372036854775807 ∧ kn ≤ 9223372036854775807 ∧ sn ≤ sc ∧ kn ≤ kc ∧ sc ≤ 9223372036854775807 ∧ kc ≤ 9223372036854775807 := by
  obtain ⟨⟨vs, h1⟩, us, h2⟩ := h
  have a := h1.2.2; have b := h2.2.2
  unfold maxLen at a b
  omega
end
def RetDk (w : World) (D : Dk) (er : Int) (e : Ending) (w' : World) : Prop :=
  ∃ S sn sc K kn kc, e = .returned (.tuple #[.agg #[.slice S sn sc, .slice K kn kc], .int .i64 er]) ∧ RdDk w' S sn sc K kn kc D ∧ Below w.heap.size w w'

/-! ### What asks -/
theorem dskWhole_any (A : Option Addr) (n c : Nat) (w : World) (hn : n ≤ 9223372036854775807) :
    Calls Try.prog 38 #[.slice A n c] w (RetV w (.bool (decide (n = 256)))) := by
  by_cases h : n = 256
  · subst h
    go_enter Try.func38, Try.ntmps38
    go_wp2
    go_ret
    exact ⟨rfl, Below.refl _ _⟩
  · have d1 : ((n : Int) == 256) = false := beq_eq_false_iff_ne.2 (by omega)
    rw [decide_eq_false h]
    clear h
    go_enter Try.func38, Try.ntmps38
    go_wp2
    go_ret
    exact ⟨rfl, Below.refl _ _⟩
theorem dskTorn_any (A : Option Addr) (n c : Nat) (w : World) (hn : n ≤ 9223372036854775807) :
    Calls Try.prog 42 #[.slice A n c] w (RetV w (.bool (!decide (n = 256)))) := by
  have H := Lib.hid (dskWhole_any A n c w hn)
  go_enter Try.func42, Try.ntmps42
  go_wp2_with fail
  refine H.out.mono ?_
  rintro e w2 ⟨rfl, hb2⟩
  go_wp2
  go_ret
  exact ⟨rfl, hb2⟩
theorem dskHas_any (S : Option Addr) (sn sc : Nat) (K : Option Addr) (kn kc : Nat) (a : Int) (w : World) (hn : sn ≤ 9223372036854775807) (ha : -9223372036854775808 ≤ a ∧ a ≤ 9223372036854775807) :
    Calls Try.prog 44 #[.agg #[.slice S sn sc, .slice K kn kc], .int .i64 a] w (RetV w (.bool (decide (0 ≤ a) && decide (a < (sn : Int))))) := by
  by_cases h : 0 ≤ a
  · have d1 : decide (0 ≤ a) = true := decide_eq_true h
    go_enter Try.func44, Try.ntmps44
    go_wp2
    go_ret
    exact ⟨by simp [d1], (below_self w).alloc (Nat.le_refl _) _⟩
  · have d1 : decide (0 ≤ a) = false := decide_eq_false h
    go_enter Try.func44, Try.ntmps44
    go_wp2
    go_ret
    exact ⟨by simp [d1], (below_self w).alloc (Nat.le_refl _) _⟩
theorem refDskHas_any (S : Option Addr) (sn sc : Nat) (K : Option Addr) (kn kc : Nat) (a : Int) (w : World) (hn : sn ≤ 9223372036854775807) (ha : -9223372036854775808 ≤ a ∧ a ≤ 9223372036854775807) :
    Calls Try.prog 31 #[.agg #[.slice S sn sc, .slice K kn kc], .int .i64 a] w (RetV w (.bool (decide (0 ≤ a) && decide (a < (sn : Int))))) := by
  by_cases h : 0 ≤ a
  · have d1 : decide (0 ≤ a) = true := decide_eq_true h
    go_enter Try.func31, Try.ntmps31
    go_wp2
    go_ret
    exact ⟨by simp [d1], (below_self w).alloc (Nat.le_refl _) _⟩
  · have d1 : decide (0 ≤ a) = false := decide_eq_false h
    go_enter Try.func31, Try.ntmps31
    go_wp2
    go_ret
    exact ⟨by simp [d1], (below_self w).alloc (Nat.le_refl _) _⟩
def IxI (w : World) (n : Nat) (p : Nat → Bool) (v : Value) (wr : World) : Prop := ∃ k : Nat, k ≤ n ∧ v = .int .i64 (k : Int) ∧ (∀ j, j < k → p j = false) ∧ Below w.heap.size w wr
/-- A place, or none. -/
def RetIx (w : World) (n : Nat) (p : Nat → Bool) (e : Ending) (w' : World) : Prop := ∃ r : Int, e = .returned (.int .i64 r) ∧ ((0 ≤ r ∧ ∃ j, j < n ∧ p j = true) ∨ (r = -1 ∧ ∀ j, j < n → p j = false)) ∧ Below w.heap.size w w'
theorem dskIdxS_any (S : Option Addr) (sn sc : Nat) (vs : List Value) (yss : List (List UInt8)) (w : World) (hr : RdSS w S sn sc vs yss) (hn : sn ≤ 1000000) :
    Calls Try.prog 59 #[.slice S sn sc, .func (.func 42) #[] #[]] w (RetIx w sn (fun j => !decide ((yss.getD j []).length = 256))) := by
  go_enter Try.func59, Try.ntmps59
  go_wp2_with fail
  go_loopw [8] (IxI w sn (fun j => !decide ((yss.getD j []).length = 256))) (fun i _ => sn - (intOf i).toNat)
  case atStart => exact ⟨0, by omega, rfl, fun j hj => by omega, Below.refl _ _⟩
  case round =>
    obtain ⟨k, hk, rfl, hp, hB⟩ := hrel
    have HPp := Lib.hid hp
    clear hp
    by_cases hlt : k < sn
    · obtain ⟨b, o, B, m, d, rfl, hb, hc, hy⟩ := (hr.below hB).at_ k hlt
      have hm := hy.n63
      have H := Lib.hid (dskTorn_any B m d wr hm)
      have HM := Lib.hid hy.2.1
      cases hd : decide (m = 256) with
      | true =>
        rw [hd] at H
        have HD := Lib.hid (of_decide_eq_true hd)
        clear hd
        go_wp2_with fail
        refine H.out.mono ?_
        rintro e w2 ⟨rfl, hb2⟩
        go_wp2_with fail
        go_roundw
        case rel => exact ⟨k + 1, by omega, by go_num, fun j hj => by
          rcases Nat.lt_or_ge j k with h | h
          · exact HPp.out j h
          · obtain rfl : j = k := by omega
            show (!decide ((yss.getD j []).length = 256)) = false; rw [HM.out, HD.out]; rfl, below_then hB hb2⟩
        case measure => simp [intOf]; omega
      | false =>
        rw [hd] at H
        have HD := Lib.hid (of_decide_eq_false hd)
        clear hd
        go_wp2_with fail
        refine H.out.mono ?_
        rintro e w2 ⟨rfl, hb2⟩
        go_wp2_with fail
        go_ret
        exact ⟨_, rfl, .inl ⟨by omega, k, hlt, by show (!decide ((yss.getD k []).length = 256)) = true; rw [HM.out, decide_eq_false HD.out]; rfl⟩, below_then hB hb2⟩
    · obtain rfl : k = sn := by omega
      go_wp2_with fail
      go_ret
      exact ⟨_, rfl, .inr ⟨rfl, HPp.out⟩, hB⟩
end Go.Proofs.Yteajboafcjeagaa
