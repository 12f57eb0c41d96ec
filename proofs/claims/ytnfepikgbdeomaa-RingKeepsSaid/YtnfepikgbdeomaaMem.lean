/-
  The walks of package mem: what is asked, Get, Put, Num, PutNum, New.
-/
import Derived.Test.YtnfepikgbdeomaaBox
import Derived.Test.YtnfepikgbdeomaaNumC
import Derived.Laws.CopyOwn
namespace Go.Proofs.Ytnfepikgbdeomaa
set_option maxRecDepth 20000
open Go.RowKit
set_option linter.unusedVariables false
set_option linter.unusedSimpArgs false

/-- Are so many bytes from a place on there, of n? -/
def memIn (n : Nat) (a k : Int) : Bool := decide (0 ≤ a) && (decide (0 ≤ k) && (decide (k ≤ (n : Int)) && decide (a ≤ (n : Int) - k)))
/-- The first error of a call of a part. -/
def memAsk (n : Nat) (a k : Int) : Int := if n ≤ 8192 then (if memIn n a k = true then 0 else 40) else 3
theorem memCheck_any (A : Option Addr) (n c : Nat) (w : World) (hn : n ≤ 9223372036854775807) : Calls Try.prog 80 #[.agg #[.slice A n c]] w (RetV w (.bool (decide (n ≤ 8192)))) := by
  by_cases h : n ≤ 8192
  · have d : decide ((n : Int) ≤ 8192) = true := decide_eq_true (by omega)
    rw [decide_eq_true h]
    go_enter Try.func80, Try.ntmps80
    go_wp2
    go_ret
    exact ⟨rfl, (below_self w).alloc (Nat.le_refl _) _⟩
  · have d : decide ((n : Int) ≤ 8192) = false := decide_eq_false (by omega)
    rw [decide_eq_false h]
    go_enter Try.func80, Try.ntmps80
    go_wp2
    go_ret
    exact ⟨rfl, (below_self w).alloc (Nat.le_refl _) _⟩

theorem inside_any (A : Option Addr) (n c : Nat) (a k : Int) (w : World) (hn : n ≤ 9223372036854775807) (ha : -9223372036854775808 ≤ a ∧ a ≤ 9223372036854775807) (hk : -9223372036854775808 ≤ k ∧ k ≤ 9223372036854775807) :
    Calls Try.prog 172 #[.slice A n c, .int .i64 a, .int .i64 k] w fun e w' => e = .returned (.bool (memIn n a k)) ∧ w = w' := by
  unfold memIn
  by_cases h1 : 0 ≤ a
  · have d1 : decide ((0 : Int) ≤ a) = true := decide_eq_true h1
    by_cases h2 : 0 ≤ k
    · have d2 : decide ((0 : Int) ≤ k) = true := decide_eq_true h2
      by_cases h3 : k ≤ (n : Int)
      · have d3 : decide (k ≤ (n : Int)) = true := decide_eq_true h3
        generalize h4 : decide (a ≤ (n : Int) - k) = d at *
        go_enter Try.func172, Try.ntmps172
        go_wp2
        go_ret
        exact ⟨by first | rfl | (rw [d1, d2, d3]; rfl), rfl⟩
      · have d3 : decide (k ≤ (n : Int)) = false := decide_eq_false h3
        go_enter Try.func172, Try.ntmps172
        go_wp2
        go_ret
        exact ⟨by first | rfl | (rw [d1, d2, d3]; rfl), rfl⟩
    · have d2 : decide ((0 : Int) ≤ k) = false := decide_eq_false h2
      go_enter Try.func172, Try.ntmps172
      go_wp2
      go_ret
      exact ⟨by first | rfl | (rw [d1, d2]; rfl), rfl⟩
  · have d1 : decide ((0 : Int) ≤ a) = false := decide_eq_false h1
    go_enter Try.func172, Try.ntmps172
    go_wp2
    go_ret
    exact ⟨by first | rfl | (rw [d1]; rfl), rfl⟩

theorem asked_any (A : Option Addr) (n c : Nat) (a k : Int) (w : World) (hn : n ≤ 9223372036854775807) (ha : -9223372036854775808 ≤ a ∧ a ≤ 9223372036854775807) (hk : -9223372036854775808 ≤ k ∧ k ≤ 9223372036854775807) :
    Calls Try.prog 163 #[.agg #[.slice A n c], .int .i64 a, .int .i64 k] w (RetV w (.int .i64 (memAsk n a k))) := by
  obtain ⟨r, hr⟩ : ∃ r, r = memAsk n a k := ⟨_, rfl⟩
  rw [← hr]
  unfold memAsk at hr
  by_cases h : n ≤ 8192
  · rw [if_pos h] at hr
    have d0 : decide (n ≤ 8192) = true := decide_eq_true h
    cases hm : memIn n a k with
    | true =>
      rw [hm, if_pos rfl] at hr
      subst hr
      have HM := Lib.hid hm
      clear hm
      go_enter Try.func163, Try.ntmps163
      go_wp2_with (first | (go_at_call 80; refine (memCheck_any A n c _ hn).mono ?_; rintro e w1 ⟨rfl, hb1⟩; rw [d0]; have hc1 := boxed hb1 0) | (go_at_call 172; refine (inside_any A n c a k _ hn ha hk).mono ?_; rintro e w2 ⟨rfl, rfl⟩; rw [HM.out]))
      go_ret
      exact ⟨rfl, bstep (below_self w) hb1⟩
    | false =>
      rw [hm, if_neg (by simp)] at hr
      subst hr
      have HM := Lib.hid hm
      clear hm
      go_enter Try.func163, Try.ntmps163
      go_wp2_with (first | (go_at_call 80; refine (memCheck_any A n c _ hn).mono ?_; rintro e w1 ⟨rfl, hb1⟩; rw [d0]; have hc1 := boxed hb1 0) | (go_at_call 172; refine (inside_any A n c a k _ hn ha hk).mono ?_; rintro e w2 ⟨rfl, rfl⟩; rw [HM.out]))
      go_ret
      exact ⟨rfl, bstep (below_self w) hb1⟩
  · rw [if_neg h] at hr
    subst hr
    have d0 : decide (n ≤ 8192) = false := decide_eq_false h
    go_enter Try.func163, Try.ntmps163
    go_wp2_with (go_at_call 80; refine (memCheck_any A n c _ hn).mono ?_; rintro e w1 ⟨rfl, hb1⟩; rw [d0])
    go_ret
    exact ⟨rfl, bstep (below_self w) hb1⟩

theorem memAsk_ok {n : Nat} {a k : Int} (h : memAsk n a k = 0) : n ≤ 8192 ∧ 0 ≤ a ∧ 0 ≤ k ∧ k ≤ n ∧ a ≤ n - k := by
  unfold memAsk memIn at h
  by_cases h1 : n ≤ 8192
  · rw [if_pos h1] at h
    split at h
    · rename_i h2
      simp only [Bool.and_eq_true, decide_eq_true_eq] at h2
      exact ⟨h1, h2.1, h2.2.1, h2.2.2.1, h2.2.2.2⟩
    · cases h
  · rw [if_neg h1] at h; cases h
theorem memAsk_cases (n : Nat) (a k : Int) : memAsk n a k = 0 ∨ memAsk n a k = 3 ∨ memAsk n a k = 40 := by
  unfold memAsk
  split
  · split
    · exact .inl rfl
    · exact .inr (.inr rfl)
  · exact .inr (.inl rfl)

/-- What Get answers. -/
def memGet (xs : List UInt8) (a k : Int) : List UInt8 := if memAsk xs.length a k = 0 then (xs.drop a.toNat).take k.toNat else []
theorem get_any (A : Option Addr) (n c : Nat) (xs : List UInt8) (a k : Int) (w : World) (hr : RdB w A n c xs) (ha : -9223372036854775808 ≤ a ∧ a ≤ 9223372036854775807) (hk : -9223372036854775808 ≤ k ∧ k ≤ 9223372036854775807) :
    Calls Try.prog 148 #[.agg #[.slice A n c], .int .i64 a, .int .i64 k] w (RetBE w (memGet xs a k) (memAsk n a k)) := by
  have hn63 := hr.n63
  unfold memGet
  rw [hr.2.1]
  by_cases h0 : memAsk n a k = 0
  · rw [if_pos h0, h0]
    obtain ⟨h1, h2, h3, h4, h5⟩ := memAsk_ok h0
    obtain ⟨a, rfl⟩ : ∃ x : Nat, a = x := ⟨a.toNat, by omega⟩
    obtain ⟨k, rfl⟩ : ∃ x : Nat, k = x := ⟨k.toNat, by omega⟩
    have H0 := Lib.hid h0
    clear h0
    have hnc := hr.2.2.1
    have hc63 := hr.c63
    have k1 : (a : Int) ≤ (a : Int) + (k : Int) := by omega
    have k2 : (a : Int) + (k : Int) ≤ (c : Int) := by omega
    have k3 : (0 : Int) ≤ (a : Int) := by omega
    rcases Nat.eq_zero_or_pos k with rfl | hkp
    · go_enter Try.func148, Try.ntmps148
      go_wp2_with (first | (go_at_call 163; refine (asked_any A n c _ _ _ hn63 ha hk).mono ?_; rintro e w1 ⟨rfl, hb1⟩; rw [H0.out]; have hc1 := boxed hb1 0) | (go_at_call 83; refine (clone_any A 0 0 [] _ ⟨.inl rfl, rfl, Nat.le_refl _, by simp [maxLen]⟩ (by omega)).mono ?_; rintro e w2 ⟨A2, n2, c2, rfl, ho2, hb2⟩))
      go_ret2
      have B1 := bstep (below_self w) hb1
      exact ⟨_, _, _, rfl, by simpa using ho2.mono B1.size, below_then B1 hb2⟩
    · have hne : ¬ (k = 0) := by omega
      have hr2 := ((hr.cut a (n - a) (by omega) (by omega)).take k (by omega)).cap k (Nat.le_refl _) (by unfold maxLen; omega)
      go_enter Try.func148, Try.ntmps148
      go_wp2_with (first | (go_at_call 163; refine (asked_any A n c _ _ _ hn63 ha hk).mono ?_; rintro e w1 ⟨rfl, hb1⟩; rw [H0.out]; have hc1 := boxed hb1 0) | (go_at_call 83; refine (clone_any _ k k _ _ (by exact hr2.below (bstep (below_self w) hb1)) (by omega)).mono ?_; rintro e w2 ⟨A2, n2, c2, rfl, ho2, hb2⟩))
      go_ret2
      have B1 := bstep (below_self w) hb1
      exact ⟨_, _, _, rfl, by simpa using ho2.mono B1.size, below_then B1 hb2⟩
  · rw [if_neg h0]
    obtain ⟨r, hr'⟩ : ∃ r, memAsk n a k = r := ⟨_, rfl⟩
    have hz : (r != 0) = true := by rw [bne_iff_ne, ← hr']; exact h0
    rw [hr']
    have hR := Lib.hid hr'
    clear h0 hr'
    go_enter Try.func148, Try.ntmps148
    go_wp2_with (go_at_call 163; refine (asked_any A n c _ _ _ hn63 ha hk).mono ?_; rintro e w1 ⟨rfl, hb1⟩; rw [hR.out])
    go_ret2
    have B1 := bstep (below_self w) hb1
    exact ⟨_, _, _, rfl, OwnB.nilB _ _, B1⟩

/-- A memory and an error: the memory is that which came in, or lies apart from all that was. -/
def RetME (w : World) (A0 : Option Addr) (n0 : Nat) (ys : List UInt8) (er : Int) (e : Ending) (w' : World) : Prop := ∃ A n c, e = .returned (.tuple #[.agg #[.slice A n c], .int .i64 er]) ∧ RdB w' A n c ys ∧ ((A = A0 ∧ n = n0) ∨ ∀ a, A = some a → w.heap.size ≤ a.block) ∧ Below w.heap.size w w'
/-- So it lies not in a variable of the call's own. -/
theorem far_of {w w2 : World} {A A0 : Option Addr} {n n0 c0 g : Nat} {xs : List UInt8} (h : (A = A0 ∧ n = n0) ∨ ∀ a, A = some a → w2.heap.size ≤ a.block) (hr : RdB w A0 n0 c0 xs) (h1 : w.heap.size ≤ g) (h2 : g < w2.heap.size) : 0 < n → ∀ a, A = some a → a.block ≠ g := by
  intro hn a ha
  rcases h with ⟨h3, h4⟩ | h3
  · have := hr.lt (by omega) a (by rw [← h3]; exact ha)
    omega
  · have := h3 a ha
    omega
/-- What Put makes. -/
def memPut (xs : List UInt8) (a : Int) (ys : List UInt8) : List UInt8 := if memAsk xs.length a ys.length = 0 then xs.take a.toNat ++ (ys ++ xs.drop (a.toNat + ys.length)) else xs
theorem put_any (A : Option Addr) (n c : Nat) (xs : List UInt8) (a : Int) (B : Option Addr) (m d : Nat) (ys : List UInt8) (w : World) (hr : RdB w A n c xs) (ha : -9223372036854775808 ≤ a ∧ a ≤ 9223372036854775807) (hs : RdB w B m d ys) :
    Calls Try.prog 146 #[.agg #[.slice A n c], .int .i64 a, .slice B m d] w (RetME w A n (memPut xs a ys) (memAsk n a m)) := by
  have hn63 := hr.n63
  have hm63 := hs.n63
  unfold memPut
  rw [hr.2.1, hs.2.1]
  have hk : -9223372036854775808 ≤ (m : Int) ∧ (m : Int) ≤ 9223372036854775807 := by omega
  by_cases h0 : memAsk n a m = 0
  · rw [if_pos h0, h0]
    obtain ⟨h1, h2, h3, h4, h5⟩ := memAsk_ok h0
    obtain ⟨a, rfl⟩ : ∃ x : Nat, a = x := ⟨a.toNat, by omega⟩
    have H0 := Lib.hid h0
    clear h0
    go_enter Try.func146, Try.ntmps146
    go_wp2_with (go_at_call 163; refine (asked_any A n c _ _ _ hn63 ha hk).mono ?_; rintro e w1 ⟨rfl, hb1⟩; rw [H0.out]; obtain ⟨cA, cB, fB, hz, B1⟩ := boxed2 hb1; have cA0 := cA 0; clear cA; have cB0 := cB 0; have fB0 := fB 0; clear cB fB)
    refine (clone_any A n c xs _ (hr.below B1) (by omega)).mono ?_
    rintro e w2 ⟨A2, n2, c2, rfl, ho2, hb2⟩
    have hn2 : n2 = n := by rw [← ho2.len]; exact hr.2.1
    subst hn2
    have hzlt : w.heap.size + 1 < w1.heap.size := by omega
    have cB2 := keepc hb2 hzlt cB0
    have fB2 := keepf hb2 hzlt fB0
    have hc2 := ho2.rd.2.2.1
    have hc63 := ho2.rd.c63
    have k1 : (a : Int) ≤ (n2 : Int) := by omega
    have B2 := below_then B1 hb2
    have hs2 := hs.below B2
    have hA3 : ∀ x, A2 = some x → w1.heap.size ≤ x.block := fun x hx => by
      obtain ⟨_, _, he, _, _, hlt⟩ := own_form ho2
      injection he with h1 h2 h3
      exact (hlt x (by rw [← h1]; exact hx)).1
    have hA2 : ∀ x, A2 = some x → x.block ≠ w.heap.size + 1 := fun x hx => by
      have := hA3 x hx
      omega
    have hdp : 0 < m → ∃ g, A2 = some ⟨g, 0, none⟩ ∧ Option.map (fun x => x.add a) A2 = some ⟨g, a, none⟩ := fun hm => by obtain ⟨g, hg, _⟩ := ho2.addr (by omega); exact ⟨g, hg, by rw [hg]; simp [Addr.add_lit]⟩
    have hle : m ≤ n2 - a := by omega
    have hoff : a + m ≤ n2 := by omega
    by_cases hca : c2 = a
    · have hdn : 0 < m → ∃ g, A2 = some ⟨g, 0, none⟩ ∧ A2 = some ⟨g, a, none⟩ := fun hm => absurd hm (by omega)
      clear hdp
      subst hca
      go_wp2_with ((with_reducible refine wp_copyB rfl (.tmp 24) (.tmp 25) rfl hb2 (Nat.le_refl _) A2 n2 c2 xs ho2 c2 m _ _ _ rfl hdn _ _ ys rfl hs2 (by omega) hoff ?_); intro w3 ho3 hb3; have cB3 := keepc hb3 hzlt cB0; have fB3 := keepf hb3 hzlt fB0)
      exact bodyPost_ret (v := .tuple #[.agg #[.slice A2 n2 c2], .int .i64 0]) (by simp [results, Try.results146, go_sem, cB3, fB3]) rfl
        ⟨_, _, _, rfl, rd_far ho3.rd _ _ (fun _ => hA2), .inr (fun x hx => by have := hA3 x hx; omega), (below_then B1 hb3).setCell (by simp) _⟩
    · go_wp2_with ((with_reducible refine wp_copyB rfl (.tmp 24) (.tmp 25) rfl hb2 (Nat.le_refl _) A2 n2 c2 xs ho2 a m _ _ _ rfl hdp _ _ ys rfl hs2 hle hoff ?_); intro w3 ho3 hb3; have cB3 := keepc hb3 hzlt cB0; have fB3 := keepf hb3 hzlt fB0)
      exact bodyPost_ret (v := .tuple #[.agg #[.slice A2 n2 c2], .int .i64 0]) (by simp [results, Try.results146, go_sem, cB3, fB3]) rfl
        ⟨_, _, _, rfl, rd_far ho3.rd _ _ (fun _ => hA2), .inr (fun x hx => by have := hA3 x hx; omega), (below_then B1 hb3).setCell (by simp) _⟩
  · rw [if_neg h0]
    obtain ⟨r, hr'⟩ : ∃ r, memAsk n a m = r := ⟨_, rfl⟩
    have hz : (r != 0) = true := by rw [bne_iff_ne, ← hr']; exact h0
    rw [hr']
    have hR := Lib.hid hr'
    clear h0 hr'
    go_enter Try.func146, Try.ntmps146
    go_wp2_with (go_at_call 163; refine (asked_any A n c _ _ _ hn63 ha hk).mono ?_; rintro e w1 ⟨rfl, hb1⟩; rw [hR.out]; obtain ⟨cA, cB, fB, hz1, B1⟩ := boxed2 hb1; have cA0 := cA 0; clear cA; have cB0 := cB 0; have fB0 := fB 0; clear cB fB)
    exact bodyPost_ret (v := .tuple #[.agg #[.slice A n c], .int .i64 r]) (by simp [results, Try.results146, go_sem, cB0, fB0]) rfl
      ⟨_, _, _, rfl, rd_far (hr.below B1) _ _ (fun hn x hx => by have := hr.lt hn x hx; simp; omega), .inl ⟨rfl, rfl⟩, B1.setCell (by simp) _⟩
end Go.Proofs.Ytnfepikgbdeomaa
