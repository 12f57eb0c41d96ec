/-
  Layer 23: the document's Put and Get; the law UdpTells.
-/
import Derived.Test.YtndabecdfccjlaaUdpC
namespace Go.Proofs.Ytndabecdfccjlaa
set_option maxRecDepth 20000
open Go.RowKit
set_option linter.unusedVariables false
set_option linter.unusedSimpArgs false
set_option maxHeartbeats 8000000

theorem refPort23_any (v : Int) (w : World) : Calls Try.prog 59 #[.int .i64 v] w fun e w' => e = .returned (.bool (portOk v)) ∧ w = w' := by
  by_cases e1 : 1 ≤ v
  · have d1 : decide (1 ≤ v) = true := decide_eq_true e1
    by_cases e2 : v ≤ 65535
    · have d2 : decide (v ≤ 65535) = true := decide_eq_true e2
      have e9 : portOk v = true := decide_eq_true ⟨e1, e2⟩
      rw [e9]
      go_enter Try.func59, Try.ntmps59
      go_wp2
      go_ret
      exact ⟨rfl, rfl⟩
    · have d2 : decide (v ≤ 65535) = false := decide_eq_false e2
      have e9 : portOk v = false := decide_eq_false (by omega)
      rw [e9]
      go_enter Try.func59, Try.ntmps59
      go_wp2
      go_ret
      exact ⟨rfl, rfl⟩
  · have d1 : decide (1 ≤ v) = false := decide_eq_false e1
    have e9 : portOk v = false := decide_eq_false (by omega)
    rw [e9]
    go_enter Try.func59, Try.ntmps59
    go_wp2
    go_ret
    exact ⟨rfl, rfl⟩
theorem refTwo23_any (x : Nat) (w : World) (hx : x < 9223372036854775808) : Calls Try.prog 60 #[.int .i64 x] w (RetB w (beB x 2)) := by
  have wx := w64n (k := x) (by omega)
  go_enter Try.func60, Try.ntmps60
  go_wp2_with fail
  refine (refBe_any x 2 w (by omega)).mono ?_
  rintro e w1 ⟨A1, n1, c1, rfl, ho1, hb1⟩
  rw [show clamp 2 = 2 from rfl] at ho1
  go_wp2
  go_ret
  exact ⟨_, _, _, rfl, ho1, hb1⟩

theorem refUdpPut_no (src dst : Nat) (f t : Int) (A : Option Addr) (n c : Nat) (xs : List UInt8) (w : World) (hr : RdB w A n c xs) (h : udOk f t n = false) :
    Calls Try.prog 24 #[.int .u32 src, .int .u32 dst, .int .i64 f, .int .i64 t, .slice A n c] w (RetBE w [] 2) := by
  have hn := hr.n63
  unfold udOk at h
  have H : (portOk f = false) ∨ (portOk f = true ∧ portOk t = false) ∨ (portOk f = true ∧ portOk t = true ∧ 120 < n) := by
    cases h1 : portOk f with
    | false => exact .inl rfl
    | true =>
      cases h2 : portOk t with
      | false => exact .inr (.inl ⟨rfl, rfl⟩)
      | true => rw [h1, h2] at h; simp at h; exact .inr (.inr ⟨rfl, rfl, h⟩)
  clear h
  rcases H with h1 | ⟨h1, h2⟩ | ⟨h1, h2, h3⟩
  · go_enter Try.func24, Try.ntmps24
    go_wp2_with fail
    refine (refPort23_any f w).mono ?_
    rintro e w1 ⟨rfl, rfl⟩
    rw [h1]
    go_wp2
    go_ret2
    exact ⟨none, 0, 0, rfl, OwnB.nilB _ _, below_self w⟩
  · go_enter Try.func24, Try.ntmps24
    go_wp2_with fail
    refine (refPort23_any f w).mono ?_
    rintro e w1 ⟨rfl, rfl⟩
    rw [h1]
    go_wp2_with fail
    refine (refPort23_any t w).mono ?_
    rintro e w1 ⟨rfl, rfl⟩
    rw [h2]
    go_wp2
    go_ret2
    exact ⟨none, 0, 0, rfl, OwnB.nilB _ _, below_self w⟩
  · have d1 : decide ((120 : Int) < (n : Int)) = true := decide_eq_true (by omega)
    go_enter Try.func24, Try.ntmps24
    go_wp2_with fail
    refine (refPort23_any f w).mono ?_
    rintro e w1 ⟨rfl, rfl⟩
    rw [h1]
    go_wp2_with fail
    refine (refPort23_any t w).mono ?_
    rintro e w1 ⟨rfl, rfl⟩
    rw [h2]
    go_wp2
    go_ret2
    exact ⟨none, 0, 0, rfl, OwnB.nilB _ _, below_self w⟩


theorem refUdpPut_yes (src dst : Nat) (f t : Nat) (A : Option Addr) (n c : Nat) (xs : List UInt8) (w : World) (hsrc : src < 4294967296) (hdst : dst < 4294967296) (hr : RdB w A n c xs) (hf : portOk (f : Int) = true) (ht : portOk (t : Int) = true) (hn : n ≤ 120) :
    Calls Try.prog 24 #[.int .u32 src, .int .u32 dst, .int .i64 (f : Int), .int .i64 (t : Int), .slice A n c] w (RetBE w (udL src dst f t xs) 0) := by
  have hl := hr.2.1
  have gf := of_decide_eq_true hf
  have gt := of_decide_eq_true ht
  have d1 : decide ((120 : Int) < (n : Int)) = false := decide_eq_false (by omega)
  have k8 : IntKind.i64.wrap (8 + (n : Int)) = ((8 + n : Nat) : Int) := by rw [IntWalk.i64_in _ (by omega)]; omega
  have hUL : udB f t xs = beB f 2 ++ (beB t 2 ++ (beB (8 + n) 2 ++ (beB 0 2 ++ xs))) := by unfold udB; rw [hl]
  have hBl := udB_len f t xs
  rw [hl] at hBl
  obtain ⟨Z, hZ⟩ : ∃ Z, udB f t xs = Z := ⟨udB f t xs, rfl⟩
  obtain ⟨S, hS⟩ : ∃ S, ipSumN src dst 17 Z = S := ⟨ipSumN src dst 17 Z, rfl⟩
  have hS2 : S < 65536 := by rw [← hS]; exact ipSumN_lt ..
  obtain ⟨S', hS'⟩ : ∃ S', (if S = 0 then 65535 else S) = S' := ⟨_, rfl⟩
  have hS3 : S' < 65536 := by rw [← hS']; split <;> omega
  have hfin : udL src dst f t xs = Z.take 6 ++ (beB S' 2 ++ Z.drop 8) := by unfold udL udS; rw [hZ, hS, hS']
  rw [hfin]
  rw [hZ] at hUL hBl
  have HUL := Lib.hid hUL
  have HS := Lib.hid hS
  have HS' := Lib.hid hS'
  clear hfin hZ hUL hS hS'
  go_enter Try.func24, Try.ntmps24
  go_wp2_with fail
  refine (refPort23_any f w).mono ?_
  rintro e w1 ⟨rfl, rfl⟩
  rw [hf]
  go_wp2_with fail
  refine (refPort23_any t w).mono ?_
  rintro e w1 ⟨rfl, rfl⟩
  rw [ht]
  go_wp2_with fail
  refine (refTwo23_any f w (by omega)).mono ?_
  rintro e w1 ⟨A1, n1, c1, rfl, ho1, hb1⟩
  go_wp2_with fail
  refine (refTwo23_any t w1 (by omega)).mono ?_
  rintro e w2 ⟨A2, n2, c2, rfl, ho2, hb2⟩
  have hn1 : n1 = 2 := by rw [← ho1.len, beB_length]
  subst hn1
  have hn2 : n2 = 2 := by rw [← ho2.len, beB_length]
  subst hn2
  have B02 := below_then hb1 hb2
  have z1 := hb1.size
  have z2 := hb2.size
  go_wp2_with (at_builtin; refine wp_appB rfl _ _ rfl B02 (Nat.le_refl _) B02.size A1 2 c1 (beB f 2) rfl (ho1.below hb2) A2 2 c2 (beB t 2) rfl ho2.rd (by omega) 4 (beB f 2 ++ beB t 2) rfl rfl ?_; intro A3 c3 w3 ho3 hb3 hg3)
  refine (refTwo23_any (8 + n) w3 (by omega)).mono ?_
  rintro e w4 ⟨A4, n4, c4, rfl, ho4, hb4⟩
  have hn4 : n4 = 2 := by rw [← ho4.len, beB_length]
  subst hn4
  have B04 := below_then hb3 hb4
  have z3 := hb3.size
  have z4 := hb4.size
  go_wp2_with (first
    | (at_builtin; refine wp_appB rfl _ _ rfl hb6 (Nat.le_refl _) hb6.size A6 8 c6 (beB f 2 ++ beB t 2 ++ beB (8 + n) 2 ++ [0, 0]) rfl ho6 A n c xs rfl (hr.below hb6) (by omega) (8 + n) Z rfl (by rw [HUL.out]; simp [show beB 0 2 = [0, 0] from by rw [beB_two]; rfl]) ?_; intro A7 c7 w7 ho7 hb7 hg7)
    | (at_builtin; refine wp_appB rfl _ _ rfl (hb5.alloc hb5.size _) (Nat.le_refl _) (by have := hb5.size; simp; omega) A5 6 c5 (beB f 2 ++ beB t 2 ++ beB (8 + n) 2) rfl (ho5.alloc _) (some ⟨w5.heap.size, 0, none⟩) 2 2 [0, 0] rfl (rdK rfl _ _ _ (by rfl) rfl (by simp [maxLen])) (by omega) 8 (beB f 2 ++ beB t 2 ++ beB (8 + n) 2 ++ [0, 0]) rfl rfl ?_; intro A6 c6 w6 ho6 hb6 hg6)
    | (at_builtin; refine wp_appB rfl _ _ rfl B04 (Nat.le_refl _) B04.size A3 4 c3 (beB f 2 ++ beB t 2) rfl (ho3.below hb4) A4 2 c4 (beB (8 + n) 2) rfl ho4.rd (by omega) 6 (beB f 2 ++ beB t 2 ++ beB (8 + n) 2) rfl rfl ?_; intro A5 c5 w5 ho5 hb5 hg5))
  have hq := refSum20_any src dst 17 A7 (8 + n) c7 Z w7 hsrc hdst ho7.rd (by omega)
  rw [HS.out] at hq
  refine hq.mono ?_
  clear hq
  rintro e w8 ⟨rfl, hb8⟩
  have o8 := ho7.below hb8
  have B08 := below_then hb7 hb8
  obtain ⟨ga, rfl, hga, hgl⟩ := o8.addr (by omega)
  have kc0 : (6 : Int) < 8 + (n : Int) := by omega
  have kc1 : (7 : Int) < 8 + (n : Int) := by omega
  have wS := wi64n (k := S) (by omega)
  by_cases hS0 : S = 0
  · subst hS0
    obtain rfl : 65535 = S' := by have := HS'.out; simpa using this
    go_wp2_with fail
    refine (refTwo23_any 65535 w8 (by omega)).mono ?_
    rintro e w9 ⟨A9, n9, c9, rfl, ho9, hb9⟩
    have hn9 : n9 = 2 := by rw [← ho9.len, beB_length]
    subst hn9
    obtain ⟨g9, rfl, hg91, hg92⟩ := ho9.addr (by omega)
    have o9 := o8.below hb9
    have hne : g9 ≠ ga := by omega
    have s0 := ho9.rd.cellS 0 (by omega)
    have s1 := ho9.rd.cellS 1 (by omega)
    rw [beB_two] at s0 s1
    have c6 := o9.rd.cellS 6 (by omega)
    have c7 := o9.rd.cellS 7 (by omega)
    rw [Nat.zero_add] at s0 s1 c6 c7
    have f6 := o9.free 6
    have f7 := o9.free 7
    obtain ⟨u0, hu0⟩ : ∃ u, UInt8.ofNat (65535 / 256) = u := ⟨_, rfl⟩
    obtain ⟨u1, hu1⟩ : ∃ u, UInt8.ofNat 65535 = u := ⟨_, rfl⟩
    have t0 : w9.cell? ⟨g9, 0, none⟩ = some (.int .u8 (u0.toNat : Int)) := by rw [← hu0]; exact s0
    have t1 : w9.cell? ⟨g9, 1, none⟩ = some (.int .u8 (u1.toNat : Int)) := by rw [← hu1]; exact s1
    clear s0 s1
    have t1' := scell (j := 6) (v := .int .u8 (u0.toNat : Int)) hne t1
    have hset := (o9.set_ 6 u0).set_ 7 u1
    have hxs : ((Z.set 6 u0).set 7 u1) = Z.take 6 ++ (beB 65535 2 ++ Z.drop 8) := by
      rw [set2_field _ _ _ 6 (by omega), beB_two, hu0, hu1]
    rw [hxs] at hset
    have B09 := below_then B08 hb9
    have bV := (B09.setCell (p := ⟨ga, 6, none⟩) (by show w.heap.size ≤ ga; omega) (.int .u8 (u0.toNat : Int))).setCell (p := ⟨ga, 7, none⟩) (by show w.heap.size ≤ ga; omega) (.int .u8 (u1.toNat : Int))
    clear hu0 hu1
    go_wp2
    go_ret2
    exact ⟨_, _, _, rfl, hset, bV⟩
  · have e9 : S = S' := by have := HS'.out; rw [if_neg hS0] at this; exact this
    subst e9
    have k9 : ((S : Int) == 0) = false := by rw [beq_eq_false_iff_ne]; omega
    go_wp2_with fail
    refine (refTwo23_any S w8 (by omega)).mono ?_
    rintro e w9 ⟨A9, n9, c9, rfl, ho9, hb9⟩
    have hn9 : n9 = 2 := by rw [← ho9.len, beB_length]
    subst hn9
    obtain ⟨g9, rfl, hg91, hg92⟩ := ho9.addr (by omega)
    have o9 := o8.below hb9
    have hne : g9 ≠ ga := by omega
    have s0 := ho9.rd.cellS 0 (by omega)
    have s1 := ho9.rd.cellS 1 (by omega)
    rw [beB_two] at s0 s1
    have c6 := o9.rd.cellS 6 (by omega)
    have c7 := o9.rd.cellS 7 (by omega)
    rw [Nat.zero_add] at s0 s1 c6 c7
    have f6 := o9.free 6
    have f7 := o9.free 7
    obtain ⟨u0, hu0⟩ : ∃ u, UInt8.ofNat (S / 256) = u := ⟨_, rfl⟩
    obtain ⟨u1, hu1⟩ : ∃ u, UInt8.ofNat S = u := ⟨_, rfl⟩
    have t0 : w9.cell? ⟨g9, 0, none⟩ = some (.int .u8 (u0.toNat : Int)) := by rw [← hu0]; exact s0
    have t1 : w9.cell? ⟨g9, 1, none⟩ = some (.int .u8 (u1.toNat : Int)) := by rw [← hu1]; exact s1
    clear s0 s1
    have t1' := scell (j := 6) (v := .int .u8 (u0.toNat : Int)) hne t1
    have hset := (o9.set_ 6 u0).set_ 7 u1
    have hxs : ((Z.set 6 u0).set 7 u1) = Z.take 6 ++ (beB S 2 ++ Z.drop 8) := by
      rw [set2_field _ _ _ 6 (by omega), beB_two, hu0, hu1]
    rw [hxs] at hset
    have B09 := below_then B08 hb9
    have bV := (B09.setCell (p := ⟨ga, 6, none⟩) (by show w.heap.size ≤ ga; omega) (.int .u8 (u0.toNat : Int))).setCell (p := ⟨ga, 7, none⟩) (by show w.heap.size ≤ ga; omega) (.int .u8 (u1.toNat : Int))
    clear hu0 hu1
    go_wp2
    go_ret2
    exact ⟨_, _, _, rfl, hset, bV⟩

theorem refUdpPut_any (src dst : Nat) (f t : Int) (A : Option Addr) (n c : Nat) (xs : List UInt8) (w : World) (hsrc : src < 4294967296) (hdst : dst < 4294967296) (hr : RdB w A n c xs) :
    Calls Try.prog 24 #[.int .u32 src, .int .u32 dst, .int .i64 f, .int .i64 t, .slice A n c] w (RetBE w (udPutL src dst f t xs) (udPutE f t n)) := by
  unfold udPutL udPutE
  rw [hr.2.1]
  cases h : udOk f t n with
  | false => rw [if_neg (by decide), if_neg (by decide)]; exact refUdpPut_no src dst f t A n c xs w hr h
  | true =>
    rw [if_pos rfl, if_pos rfl]
    unfold udOk at h
    rw [Bool.and_eq_true, Bool.and_eq_true] at h
    obtain ⟨h1, h2, h3⟩ := h
    have h3 := of_decide_eq_true h3
    have g1 := of_decide_eq_true h1
    have g2 := of_decide_eq_true h2
    obtain ⟨p, rfl⟩ : ∃ p : Nat, f = (p : Int) := ⟨f.toNat, by omega⟩
    obtain ⟨q, rfl⟩ : ∃ q : Nat, t = (q : Int) := ⟨t.toNat, by omega⟩
    exact refUdpPut_yes src dst p q A n c xs w hsrc hdst hr h1 h2 h3

end Go.Proofs.Ytndabecdfccjlaa
