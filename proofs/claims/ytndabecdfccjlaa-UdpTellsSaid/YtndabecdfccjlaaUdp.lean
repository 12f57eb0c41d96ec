/-
  Layer 23: ports, sums, Put of the package.
-/
import Derived.Test.YtndabecdfccjlaaSegD
import Derived.Test.YtndabecdfccjlaaSegP
namespace Go.Proofs.Ytndabecdfccjlaa
set_option maxRecDepth 20000
open Go.RowKit
set_option linter.unusedVariables false
set_option linter.unusedSimpArgs false
set_option maxHeartbeats 8000000

theorem between_any (v : Int) (w : World) : Calls Try.prog 83 #[.int .i64 v, .int .i64 1, .int .i64 65535] w fun e w' => e = .returned (.bool (portOk v)) ∧ w = w' := by
  by_cases e1 : 1 ≤ v
  · have d1 : decide (1 ≤ v) = true := decide_eq_true e1
    by_cases e2 : v ≤ 65535
    · have d2 : decide (v ≤ 65535) = true := decide_eq_true e2
      have e9 : portOk v = true := decide_eq_true ⟨e1, e2⟩
      rw [e9]
      go_enter Try.func83, Try.ntmps83
      go_wp2
      go_ret
      exact ⟨rfl, rfl⟩
    · have d2 : decide (v ≤ 65535) = false := decide_eq_false e2
      have e9 : portOk v = false := decide_eq_false (by omega)
      rw [e9]
      go_enter Try.func83, Try.ntmps83
      go_wp2
      go_ret
      exact ⟨rfl, rfl⟩
  · have d1 : decide (1 ≤ v) = false := decide_eq_false e1
    have e9 : portOk v = false := decide_eq_false (by omega)
    rw [e9]
    go_enter Try.func83, Try.ntmps83
    go_wp2
    go_ret
    exact ⟨rfl, rfl⟩
theorem udpPort_any (v : Int) (w : World) : Calls Try.prog 54 #[.int .i64 v] w fun e w' => e = .returned (.bool (portOk v)) ∧ w = w' := by
  go_enter Try.func54, Try.ntmps54
  go_wp2_with fail
  refine (between_any v w).mono ?_
  rintro e w1 ⟨rfl, rfl⟩
  go_wp2
  go_ret
  exact ⟨rfl, rfl⟩
theorem udpTwo_any (x : Nat) (w : World) (hx : x < 9223372036854775808) : Calls Try.prog 55 #[.int .i64 x] w (RetB w (beB x 2)) := by
  have wx := w64n (k := x) (by omega)
  go_enter Try.func55, Try.ntmps55
  go_wp2_with fail
  refine (be_any x 2 w (by omega)).mono ?_
  rintro e w1 ⟨A1, n1, c1, rfl, ho1, hb1⟩
  rw [show clamp 2 = 2 from rfl] at ho1
  go_wp2
  go_ret
  exact ⟨_, _, _, rfl, ho1, hb1⟩
def RetSm (w : World) (src dst : Nat) (e : Ending) (w' : World) : Prop := ∃ g h, e = .returned (.func (.func 85) #[] #[.pointer (some ⟨g, 0, none⟩), .pointer (some ⟨h, 0, none⟩)]) ∧ w'.cell? ⟨g, 0, none⟩ = some (.int .u32 src) ∧ w'.cell? ⟨h, 0, none⟩ = some (.int .u32 dst) ∧ Below w.heap.size w w'
theorem summing_any (src dst : Nat) (w : World) : Calls Try.prog 57 #[.int .u32 src, .int .u32 dst] w (RetSm w src dst) := by
  go_enter Try.func57, Try.ntmps57
  go_wp2
  go_ret
  exact ⟨w.heap.size, w.heap.size + 1, rfl, cell_of_row _ _ 0 _ _ _ (row2a ..), cell_of_row _ _ 0 _ _ _ (row2b ..), ((below_self w).alloc (Nat.le_refl _) _).alloc (by simp) _⟩
theorem summing1_any (src dst g h : Nat) (A : Option Addr) (n c : Nat) (xs : List UInt8) (w : World) (hsrc : src < 4294967296) (hdst : dst < 4294967296) (hg : w.cell? ⟨g, 0, none⟩ = some (.int .u32 src)) (hh : w.cell? ⟨h, 0, none⟩ = some (.int .u32 dst)) (hr : RdB w A n c xs) (hn : n ≤ 900000) :
    Calls Try.prog 85 #[.slice A n c, .pointer (some ⟨g, 0, none⟩), .pointer (some ⟨h, 0, none⟩)] w (RetV w (.int .u16 (ipSumN src dst 17 xs : Nat))) := by
  go_enter Try.func85, Try.ntmps85
  go_wp2_with fail
  refine (ipSum_any src dst 17 A n c xs w hsrc hdst hr (by omega)).mono ?_
  rintro e w1 ⟨rfl, hb1⟩
  go_wp2
  go_ret
  exact ⟨rfl, hb1⟩
theorem udpget1_any (p : Nat) (A : Option Addr) (n c : Nat) (xs : List UInt8) (g : Nat) (w : World) (hr : RdB w A n c xs) (hp : p + 2 ≤ n) (hg : w.cell? ⟨g, 0, none⟩ = some (.slice A n c)) :
    Calls Try.prog 58 #[.int .i64 p, .pointer (some ⟨g, 0, none⟩)] w fun e w' => e = .returned (.int .i64 (fld xs p 2 : Nat)) ∧ w = w' := by
  have hc := hr.2.2.1
  have hc63 := hr.c63
  have hn63 := hr.n63
  obtain ⟨b, o, u, rfl, hbl, _⟩ := hr.at_ 0 (by omega)
  have hr2 := (hr.cutS p (n - p) (by omega) (by omega)).take 2 (by omega)
  have hF : fromBe ((xs.drop p).take 2) = fld xs p 2 := by unfold fromBe fld; rw [List.take_of_length_le (by rw [hr2.2.1]; omega)]
  have hF2 : fld xs p 2 < 65536 := fld_lt xs p 2
  have HF := Lib.hid hF
  obtain ⟨s, hs⟩ : ∃ s, s = p + 2 := ⟨_, rfl⟩
  have e1 : (p : Int) + 2 = (s : Int) := by omega
  have e2 : (p : Int) ≤ (s : Int) := by omega
  have e3 : (s : Int) ≤ (c : Int) := by omega
  have e4 : (0 : Int) ≤ (p : Int) := by omega
  have e5 : s - p = 2 := by omega
  have e6 : ¬ (c = p) := by omega
  clear hF hs
  go_enter Try.func58, Try.ntmps58
  go_wp2_with fail
  refine (fromBe_any _ _ _ _ _ hr2).mono ?_
  rintro e w1 ⟨rfl, rfl⟩
  rw [HF.out]
  go_wp2
  go_ret
  exact ⟨rfl, rfl⟩

def udB (f t : Nat) (xs : List UInt8) : List UInt8 := beB f 2 ++ (beB t 2 ++ (beB (8 + xs.length) 2 ++ (beB 0 2 ++ xs)))
theorem udB_len (f t : Nat) (xs : List UInt8) : (udB f t xs).length = 8 + xs.length := by simp [udB, beB_length]; omega
def udS (src dst f t : Nat) (xs : List UInt8) : Nat := if ipSumN src dst 17 (udB f t xs) = 0 then 65535 else ipSumN src dst 17 (udB f t xs)
def udL (src dst f t : Nat) (xs : List UInt8) : List UInt8 := (udB f t xs).take 6 ++ (beB (udS src dst f t xs) 2 ++ (udB f t xs).drop 8)
def udOk (f t : Int) (n : Nat) : Bool := portOk f && (portOk t && decide (n ≤ 120))
def udPutE (f t : Int) (n : Nat) : Int := if udOk f t n = true then 0 else 2
def udPutL (src dst : Nat) (f t : Int) (xs : List UInt8) : List UInt8 := if udOk f t xs.length = true then udL src dst f.toNat t.toNat xs else []

theorem udpPut_no (src dst : Nat) (f t : Int) (A : Option Addr) (n c : Nat) (xs : List UInt8) (w : World) (hr : RdB w A n c xs) (h : udOk f t n = false) :
    Calls Try.prog 20 #[.int .u32 src, .int .u32 dst, .int .i64 f, .int .i64 t, .slice A n c] w (RetBE w [] 2) := by
  have hn := hr.n63
  unfold udOk at h
  have H : (portOk f = false) ∨ (portOk f = true ∧ portOk t = false) ∨ (portOk f = true ∧ portOk t = true ∧ 120 < n) := by
    cases h1 : portOk f with
    | false => exact .inl rfl
    | true =>
      cases h2 : portOk t with
      | false => exact .inr (.inl ⟨rfl, rfl⟩)
      | true => rw [h1, h2] at h; simp at h; exact .inr (.inr ⟨rfl, rfl, h⟩)
  clear h
  rcases H with h1 | ⟨h1, h2⟩ | ⟨h1, h2, h3⟩
  · go_enter Try.func20, Try.ntmps20
    go_wp2_with fail
    refine (udpPort_any f w).mono ?_
    rintro e w1 ⟨rfl, rfl⟩
    rw [h1]
    go_wp2
    go_ret2
    exact ⟨none, 0, 0, rfl, OwnB.nilB _ _, below_self w⟩
  · go_enter Try.func20, Try.ntmps20
    go_wp2_with fail
    refine (udpPort_any f w).mono ?_
    rintro e w1 ⟨rfl, rfl⟩
    rw [h1]
    go_wp2_with fail
    refine (udpPort_any t w).mono ?_
    rintro e w1 ⟨rfl, rfl⟩
    rw [h2]
    go_wp2
    go_ret2
    exact ⟨none, 0, 0, rfl, OwnB.nilB _ _, below_self w⟩
  · have d1 : decide ((120 : Int) < (n : Int)) = true := decide_eq_true (by omega)
    go_enter Try.func20, Try.ntmps20
    go_wp2_with fail
    refine (udpPort_any f w).mono ?_
    rintro e w1 ⟨rfl, rfl⟩
    rw [h1]
    go_wp2_with fail
    refine (udpPort_any t w).mono ?_
    rintro e w1 ⟨rfl, rfl⟩
    rw [h2]
    go_wp2
    go_ret2
    exact ⟨none, 0, 0, rfl, OwnB.nilB _ _, below_self w⟩

theorem udpPut_yes (src dst : Nat) (f t : Nat) (A : Option Addr) (n c : Nat) (xs : List UInt8) (w : World) (hsrc : src < 4294967296) (hdst : dst < 4294967296) (hr : RdB w A n c xs) (hf : portOk (f : Int) = true) (ht : portOk (t : Int) = true) (hn : n ≤ 120) :
    Calls Try.prog 20 #[.int .u32 src, .int .u32 dst, .int .i64 (f : Int), .int .i64 (t : Int), .slice A n c] w (RetBE w (udL src dst f t xs) 0) := by
  have hl := hr.2.1
  have gf := of_decide_eq_true hf
  have gt := of_decide_eq_true ht
  have d1 : decide ((120 : Int) < (n : Int)) = false := decide_eq_false (by omega)
  have k8 : IntKind.i64.wrap (8 + (n : Int)) = ((8 + n : Nat) : Int) := by rw [IntWalk.i64_in _ (by omega)]; omega
  have hUL : udB f t xs = beB f 2 ++ (beB t 2 ++ (beB (8 + n) 2 ++ (beB 0 2 ++ xs))) := by unfold udB; rw [hl]
  have hBl := udB_len f t xs
  rw [hl] at hBl
  obtain ⟨Z, hZ⟩ : ∃ Z, udB f t xs = Z := ⟨udB f t xs, rfl⟩
  obtain ⟨S, hS⟩ : ∃ S, ipSumN src dst 17 Z = S := ⟨ipSumN src dst 17 Z, rfl⟩
  have hS2 : S < 65536 := by rw [← hS]; exact ipSumN_lt ..
  obtain ⟨S', hS'⟩ : ∃ S', (if S = 0 then 65535 else S) = S' := ⟨_, rfl⟩
  have hS3 : S' < 65536 := by rw [← hS']; split <;> omega
  have hfin : udL src dst f t xs = Z.take 6 ++ (beB S' 2 ++ Z.drop 8) := by unfold udL udS; rw [hZ, hS, hS']
  rw [hfin]
  rw [hZ] at hUL hBl
  have HUL := Lib.hid hUL
  have HS := Lib.hid hS
  have HS' := Lib.hid hS'
  clear hfin hZ hUL hS hS'
  go_enter Try.func20, Try.ntmps20
  go_wp2_with fail
  refine (udpPort_any f w).mono ?_
  rintro e w1 ⟨rfl, rfl⟩
  rw [hf]
  go_wp2_with fail
  refine (udpPort_any t w).mono ?_
  rintro e w1 ⟨rfl, rfl⟩
  rw [ht]
  go_wp2_with fail
  refine (udpTwo_any f w (by omega)).mono ?_
  rintro e w1 ⟨A1, n1, c1, rfl, ho1, hb1⟩
  go_wp2_with fail
  refine (udpTwo_any t w1 (by omega)).mono ?_
  rintro e w2 ⟨A2, n2, c2, rfl, ho2, hb2⟩
  go_wp2_with fail
  refine (udpTwo_any (8 + n) w2 (by omega)).mono ?_
  rintro e w3 ⟨A3, n3, c3, rfl, ho3, hb3⟩
  go_wp2_with fail
  refine (udpTwo_any 0 w3 (by omega)).mono ?_
  rintro e w4 ⟨A4, n4, c4, rfl, ho4, hb4⟩
  go_wp2_with fail
  refine named ?_
  intro W4 hW4
  have bW4 : Below w4.heap.size w4 W4 := by rw [hW4]; repeat' (first | exact Below.refl _ _ | (refine Below.alloc ?_ ?_ _; rotate_left; (simp <;> omega)) | refine Below.drew ?_)
  have zW4 := bW4.size
  have HW4 := Lib.hid hW4
  clear hW4
  have hrow : Rd W4 (some ⟨w4.heap.size, 0, none⟩) [.slice A1 n1 c1, .slice A2 n2 c2, .slice A3 n3 c3, .slice A4 n4 c4, .slice A n c] := by
    rw [HW4.out]; exact Rd.new w4 #[.slice A1 n1 c1, .slice A2 n2 c2, .slice A3 n3 c3, .slice A4 n4 c4, .slice A n c] _
  have B14 := below_then hb2 (below_then hb3 (below_then hb4 bW4))
  have B04 := below_then hb1 B14
  have hlen : ([beB f 2, beB t 2, beB (8 + n) 2, beB 0 2, xs] : List (List UInt8)).flatten.length ≤ 70368744177664 := by simp [hl, beB_length]; omega
  refine (concat_any (some ⟨w4.heap.size, 0, none⟩) 5 5 [.slice A1 n1 c1, .slice A2 n2 c2, .slice A3 n3 c3, .slice A4 n4 c4, .slice A n c] [beB f 2, beB t 2, beB (8 + n) 2, beB 0 2, xs] W4 hrow rfl (by omega)
    ⟨⟨_, _, _, rfl, ho1.rd.below B14⟩, ⟨_, _, _, rfl, ho2.rd.below (below_then hb3 (below_then hb4 bW4))⟩, ⟨_, _, _, rfl, ho3.rd.below (below_then hb4 bW4)⟩, ⟨_, _, _, rfl, ho4.rd.below bW4⟩, ⟨_, _, _, rfl, hr.below B04⟩, trivial⟩ hlen).mono ?_
  rintro e w5 ⟨A5, n5, c5, rfl, ho5, hb5⟩
  rw [show [beB f 2, beB t 2, beB (8 + n) 2, beB 0 2, xs].flatten = Z by rw [HUL.out]; simp] at ho5
  have hn5 : n5 = 8 + n := by rw [← ho5.len, hBl]
  subst hn5
  have B05 := below_then B04 hb5
  go_wp2_with fail
  refine (summing_any src dst w5).mono ?_
  rintro e w6 ⟨g, h, rfl, hg, hh, hb6⟩
  go_wp2_with fail
  have hq := summing1_any src dst g h A5 (8 + n) c5 Z w6 hsrc hdst hg hh (ho5.rd.below hb6) (by omega)
  rw [HS.out] at hq
  refine hq.mono ?_
  clear hq hg hh
  rintro e w7 ⟨rfl, hb7⟩
  have o7 := (ho5.below hb6).below hb7
  have B57 := below_then hb6 hb7
  obtain ⟨ga, rfl, hga, hgl⟩ := o7.addr (by omega)
  have hc5 := o7.rd.2.2.1
  have hc63 := o7.rd.c63
  have kc1 : ¬ (c5 = 6) := by omega
  have kc2 : (8 : Int) + (n : Int) ≤ (c5 : Int) := by omega
  have kc3 : (6 : Int) ≤ 8 + (n : Int) := by omega
  have z05 := B04.size
  by_cases hS0 : S = 0
  · subst hS0
    obtain rfl : 65535 = S' := by have := HS'.out; simpa using this
    go_wp2_with fail
    refine wp_region_last (S := fun w' => Below (W4.heap.size) w7 w') 6 #[true, true, true, true, true, true, false] [(0, true), (1, true), (2, true), (3, true), (4, true), (5, false)] (by kernel_rfl) (by kernel_rfl) (fun _ _ d _ _ h => by cases d <;> exact h) ((Below.refl _ w7).drew) ?_
    iterate 5 (refine seg_take (v := ?_) rfl (Or.inl ⟨by rfl, ?_⟩) ?_; rotate_left; (focus (intro w' hw'; go_simp <;> with_reducible rfl)); try simp only [Act.put, List.setIfInBounds_toArray, List.set_cons_zero, List.set_cons_succ])
    refine seg_run rfl (fun K hK => ?_)
    go_simp
    refine (udpTwo_any 65535 _ (by omega)).mono ?_
    rintro e w8 ⟨A8, n8, c8, rfl, ho8, hb8⟩
    refine hK.out _ _ ((Below.refl _ w7).drew.trans (hb8.mono (by have := hb5.size; have := B57.size; simp; omega))) ?_
    clear hK
    try simp only [Act.put, List.setIfInBounds_toArray, List.set_cons_zero, List.set_cons_succ]
    refine seg_done ?_
    refine last_run rfl (fun K hK => ?_)
    have hn8 : n8 = 2 := by rw [← ho8.len, beB_length]
    subst hn8
    have B8 : Below W4.heap.size w7 w8 := (Below.refl _ w7).drew.trans (hb8.mono (by have := hb5.size; have := B57.size; simp; omega))
    have o8 := o7.below (undrew hb8)
    refine op_copyB rfl _ _ rfl B8 (Nat.le_refl _) ga (8 + n) c5 Z o8 6 2 (8 + n - 6) (c5 - 6) rfl _ _ _ rfl ho8.rd (by omega) (by omega) (by omega) ?_
    intro w9 ho9 hb9
    refine hK.out _ _ ?_
    clear hK
    try simp only [Act.put, List.setIfInBounds_toArray, List.set_cons_zero, List.set_cons_succ]
    have B09 := (below_then B05 B57).trans (hb9.mono z05)
    go_wp2
    go_ret2
    exact ⟨_, _, _, rfl, OwnB.mono ho9 z05, B09⟩
  · have e9 : S = S' := by have := HS'.out; rw [if_neg hS0] at this; exact this
    subst e9
    have k9 : ((S : Int) == 0) = false := by rw [beq_eq_false_iff_ne]; omega
    have k10 := wi64n (k := S) (by omega)
    go_wp2_with fail
    refine wp_region_last (S := fun w' => Below (W4.heap.size) w7 w') 6 #[true, true, true, true, true, true, false] [(0, true), (1, true), (2, true), (3, true), (4, true), (5, false)] (by kernel_rfl) (by kernel_rfl) (fun _ _ d _ _ h => by cases d <;> exact h) ((Below.refl _ w7).drew) ?_
    iterate 5 (refine seg_take (v := ?_) rfl (Or.inl ⟨by rfl, ?_⟩) ?_; rotate_left; (focus (intro w' hw'; go_simp <;> with_reducible rfl)); try simp only [Act.put, List.setIfInBounds_toArray, List.set_cons_zero, List.set_cons_succ])
    refine seg_run rfl (fun K hK => ?_)
    go_simp
    refine (udpTwo_any S _ (by omega)).mono ?_
    rintro e w8 ⟨A8, n8, c8, rfl, ho8, hb8⟩
    refine hK.out _ _ ((Below.refl _ w7).drew.trans (hb8.mono (by have := hb5.size; have := B57.size; simp; omega))) ?_
    clear hK
    try simp only [Act.put, List.setIfInBounds_toArray, List.set_cons_zero, List.set_cons_succ]
    refine seg_done ?_
    refine last_run rfl (fun K hK => ?_)
    have hn8 : n8 = 2 := by rw [← ho8.len, beB_length]
    subst hn8
    have B8 : Below W4.heap.size w7 w8 := (Below.refl _ w7).drew.trans (hb8.mono (by have := hb5.size; have := B57.size; simp; omega))
    have o8 := o7.below (undrew hb8)
    refine op_copyB rfl _ _ rfl B8 (Nat.le_refl _) ga (8 + n) c5 Z o8 6 2 (8 + n - 6) (c5 - 6) rfl _ _ _ rfl ho8.rd (by omega) (by omega) (by omega) ?_
    intro w9 ho9 hb9
    refine hK.out _ _ ?_
    clear hK
    try simp only [Act.put, List.setIfInBounds_toArray, List.set_cons_zero, List.set_cons_succ]
    have B09 := (below_then B05 B57).trans (hb9.mono z05)
    go_wp2
    go_ret2
    exact ⟨_, _, _, rfl, OwnB.mono ho9 z05, B09⟩

theorem udpPut_any (src dst : Nat) (f t : Int) (A : Option Addr) (n c : Nat) (xs : List UInt8) (w : World) (hsrc : src < 4294967296) (hdst : dst < 4294967296) (hr : RdB w A n c xs) :
    Calls Try.prog 20 #[.int .u32 src, .int .u32 dst, .int .i64 f, .int .i64 t, .slice A n c] w (RetBE w (udPutL src dst f t xs) (udPutE f t n)) := by
  unfold udPutL udPutE
  rw [hr.2.1]
  cases h : udOk f t n with
  | false => rw [if_neg (by decide), if_neg (by decide)]; exact udpPut_no src dst f t A n c xs w hr h
  | true =>
    rw [if_pos rfl, if_pos rfl]
    unfold udOk at h
    rw [Bool.and_eq_true, Bool.and_eq_true] at h
    obtain ⟨h1, h2, h3⟩ := h
    have h3 := of_decide_eq_true h3
    have g1 := of_decide_eq_true h1
    have g2 := of_decide_eq_true h2
    obtain ⟨p, rfl⟩ : ∃ p : Nat, f = (p : Int) := ⟨f.toNat, by omega⟩
    obtain ⟨q, rfl⟩ : ∃ q : Nat, t = (q : Int) := ⟨t.toNat, by omega⟩
    exact udpPut_yes src dst p q A n c xs w hsrc hdst hr h1 h2 h3
end Go.Proofs.Ytndabecdfccjlaa
