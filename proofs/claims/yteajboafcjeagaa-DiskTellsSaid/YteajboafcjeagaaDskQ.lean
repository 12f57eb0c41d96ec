/-
  Layer 5: disks: the document's Read.
-/
import Derived.Test.YteajboafcjeagaaDskK
namespace Go.Proofs.Yteajboafcjeagaa
set_option maxRecDepth 20000
open Go.RowKit
set_option linter.unusedVariables false
set_option linter.unusedSimpArgs false
set_option maxHeartbeats 8000000

def RetRE (w : World) (ys : List UInt8) (er : Int) (e : Ending) (w' : World) : Prop := ∃ A n c, e = .returned (.tuple #[.slice A n c, .int .i64 er]) ∧ RdB w' A n c ys ∧ Below w.heap.size w w'
/-- What the first k writes say of sector a. -/
def dkCur (D : Dk) (a : Int) (k : Nat) : List UInt8 := (dkLast D.k (fun _ => true) a k).getD (D.s.getD a.toNat [])
theorem dkCur_next (D : Dk) (a : Int) (k : Nat) : dkCur D a (k + 1) = if (D.k.getD k (0, [])).1 = a then (D.k.getD k (0, [])).2 else dkCur D a k := by
  unfold dkCur
  rw [dkLast]
  by_cases h : (D.k.getD k (0, [])).1 = a
  · rw [if_pos ⟨rfl, h⟩, if_pos h]; rfl
  · rw [if_neg (fun hh => h hh.2), if_neg h]
theorem dkRead_cur {D : Dk} {a : Int} (h : dkAsk D a = 0) (ha : 0 ≤ a) : dkRead D a = dkCur D a D.k.length := by
  unfold dkRead dkAt dkCur
  rw [if_pos h, Int.toNat_of_nonneg ha]
def RdrI (V : World) (D : Dk) (a : Int) (kn : Nat) (v6 v7 : Value) (wr : World) : Prop := ∃ (k : Nat) (A : Option Addr) (n c : Nat), k ≤ kn ∧ v6 = .slice A n c ∧ v7 = .int .i64 (k : Int) ∧ RdB wr A n c (dkCur D a k) ∧ Below V.heap.size V wr
theorem dkAsk_cases {D : Dk} {sn : Nat} (hsl : D.s.length = sn) (a : Int) : (dkOk D = false ∧ dkAsk D a = 3) ∨ (dkOk D = true ∧ (decide (0 ≤ a) && decide (a < (sn : Int))) = false ∧ dkAsk D a = 50) ∨ (dkOk D = true ∧ 0 ≤ a ∧ a < (sn : Int) ∧ (decide (0 ≤ a) && decide (a < (sn : Int))) = true ∧ dkAsk D a = 0) := by
  unfold dkAsk dkHas
  rw [hsl]
  cases h : dkOk D with
  | false => exact .inl ⟨rfl, rfl⟩
  | true =>
    cases h2 : (decide (0 ≤ a) && decide (a < (sn : Int))) with
    | false => exact .inr (.inl ⟨rfl, rfl, rfl⟩)
    | true =>
      have := h2
      simp only [Bool.and_eq_true, decide_eq_true_eq] at this
      exact .inr (.inr ⟨rfl, this.1, this.2, rfl, rfl⟩)
theorem refDskRead_any (S : Option Addr) (sn sc : Nat) (K : Option Addr) (kn kc : Nat) (D : Dk) (a : Int) (w : World) (hr : RdDk w S sn sc K kn kc D) (ha : -9223372036854775808 ≤ a ∧ a ≤ 9223372036854775807) :
    Calls Try.prog 16 #[.agg #[.slice S sn sc, .slice K kn kc], .int .i64 a] w (RetRE w (dkRead D a) (dkAsk D a)) := by
  obtain ⟨hn1, hn2, _, _, _, _⟩ := hr.n63
  have hsl := hr.sl
  have hkl := hr.kl
  obtain ⟨V, hV⟩ : ∃ V, V = w.alloc (.cells #[.slice S sn sc, .slice K kn kc] 25) := ⟨_, rfl⟩
  have bV : Below w.heap.size w V := by rw [hV]; exact (below_self w).alloc (Nat.le_refl _) _
  have qV : Hid (DkAt V w.heap.size S sn sc K kn kc) := by rw [hV]; exact Lib.hid (drw_at _ rfl)
  have HV := Lib.hid hV
  have C1 := Lib.hid (fun W (h : RdDk W S sn sc K kn kc D) => refDskCheck_any S sn sc K kn kc D W h)
  have C2 := Lib.hid (fun W => refDskHas_any S sn sc K kn kc a W hn1 ha)
  have hrd : ¬ dkAsk D a = 0 → dkRead D a = [] := fun h => by unfold dkRead; rw [if_neg h]
  clear hV
  rcases dkAsk_cases hsl a with ⟨h1, h2⟩ | ⟨h1, h2, h3⟩ | ⟨h1, h0, h2, h3, h4⟩
  · rw [hrd (by omega), h2]
    rw [h1] at C1
    clear h1 h2 hrd
    go_enter Try.func16, Try.ntmps16
    go_wp2_with fail
    rw [← HV.out]
    refine (C1.out V (hr.below bV)).mono ?_
    rintro e w1 ⟨rfl, hb1⟩
    go_wp2_with fail
    refine bodyPost_ret (v := .tuple #[.slice none 0 0, .int .i64 3]) (by simp [results, Try.results16, go_sem]) rfl ?_
    exact ⟨_, _, _, rfl, RdB.nilB _, below_then bV hb1⟩
  · rw [hrd (by omega), h3]
    rw [h1] at C1
    rw [h2] at C2
    clear h1 h2 h3 hrd
    go_enter Try.func16, Try.ntmps16
    go_wp2_with fail
    rw [← HV.out]
    refine (C1.out V (hr.below bV)).mono ?_
    rintro e w1 ⟨rfl, hb1⟩
    have B := below_then bV hb1
    have x0 := (qV.out.up hb1).c0
    have x1 := (qV.out.up hb1).c1
    go_wp2_with fail
    refine (C2.out w1).mono ?_
    rintro e w2 ⟨rfl, hb2⟩
    go_wp2_with fail
    refine bodyPost_ret (v := .tuple #[.slice none 0 0, .int .i64 50]) (by simp [results, Try.results16, go_sem]) rfl ?_
    exact ⟨_, _, _, rfl, RdB.nilB _, below_then B hb2⟩
  · rw [dkRead_cur h4 h0, h4, hkl]
    rw [h1] at C1
    rw [h3] at C2
    obtain ⟨i, rfl⟩ : ∃ i : Nat, a = (i : Int) := ⟨a.toNat, by omega⟩
    obtain ⟨⟨vs, hs⟩, us, hus⟩ := id hr
    have HS := Lib.hid hs
    have HUS := Lib.hid hus
    have li : i < sn := by omega
    clear h1 h3 h4 hrd hs hus
    go_enter Try.func16, Try.ntmps16
    go_wp2_with fail
    rw [← HV.out]
    refine (C1.out V (hr.below bV)).mono ?_
    rintro e w1 ⟨rfl, hb1⟩
    have B := below_then bV hb1
    have q := Lib.hid (qV.out.up hb1)
    have x0 := q.out.c0
    have x1 := q.out.c1
    go_wp2_with fail
    refine (C2.out w1).mono ?_
    rintro e w2 ⟨rfl, hb2⟩
    have B := below_then B hb2
    have q := Lib.hid (q.out.up hb2)
    have x0 := q.out.c0
    have x1 := q.out.c1
    obtain ⟨b5, o5, B5, m5, d5, rfl, hb5, hc5, hy5⟩ := (HS.out.below B).at_ i li
    have HY5 := Lib.hid hy5
    clear hy5
    go_wp2_with fail
    go_loopw [6, 7] (RdrI w2 D (i : Int) kn) (fun _ v _ => kn - (intOf v).toNat)
    case atStart => exact ⟨0, B5, m5, d5, by omega, rfl, rfl, HY5.out, Below.refl _ _⟩
    case round =>
    obtain ⟨k, A, n, c, hk, rfl, rfl, hy, hI⟩ := hrel
    have HY := Lib.hid hy
    have BI := below_then B hI
    have qk := Lib.hid (q.out.up hI)
    have x1 := qk.out.c1
    clear hy hc5 hb5 x0
    by_cases hlt : k < kn
    · obtain ⟨b7, o7, B7, m7, d7, rfl, hb7, hc70, hc71, hy7, hrg⟩ := (HUS.out.below BI).at_ k hlt
      have hN := dkCur_next D (i : Int) k
      obtain ⟨a7, ha7⟩ : ∃ a, (D.k.getD k (0, [])).1 = a := ⟨_, rfl⟩
      obtain ⟨Y7, hY7⟩ : ∃ y, (D.k.getD k (0, [])).2 = y := ⟨_, rfl⟩
      rw [ha7, hY7] at hN
      rw [ha7] at hc70
      rw [hY7] at hy7
      have lk : (k : Int) < (kn : Int) := by omega
      have HY7 := Lib.hid hy7
      by_cases hq : a7 = (i : Int)
      · have d9 : (a7 == (i : Int)) = true := by rw [hq]; simp
        rw [if_pos hq] at hN
        have HN := Lib.hid hN
        clear hq hN hy7 ha7 hY7 hrg
        go_wp2_with fail
        go_roundw
        case rel => exact ⟨k + 1, B7, m7, d7, by omega, rfl, by go_num, by rw [HN.out]; exact HY7.out, hI⟩
        case measure => simp [intOf]; omega
      · have d9 : (a7 == (i : Int)) = false := beq_eq_false_iff_ne.2 hq
        rw [if_neg hq] at hN
        have HN := Lib.hid hN
        clear hq hN hy7 ha7 hY7 hrg
        go_wp2_with fail
        go_roundw
        case rel => exact ⟨k + 1, A, n, c, by omega, rfl, by go_num, by rw [HN.out]; exact HY.out, hI⟩
        case measure => simp [intOf]; omega
    · obtain rfl : kn = k := by omega
      go_wp2_with fail
      refine bodyPost_ret (v := .tuple #[.slice A n c, .int .i64 0]) (by simp [results, Try.results16, go_sem]) rfl ?_
      exact ⟨_, _, _, rfl, HY.out, BI⟩
end Go.Proofs.Yteajboafcjeagaa
