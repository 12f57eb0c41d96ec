/-
  Layer 19: arp: the law ArpAnswers.
-/
import Derived.Test.YtnfepikgbdeomaaArpQ
namespace Go.Proofs.Ytnfepikgbdeomaa
set_option maxRecDepth 20000
open Go.RowKit
set_option linter.unusedVariables false
set_option linter.unusedSimpArgs false
set_option maxHeartbeats 8000000

theorem aFrom_be (u k : Nat) (h : k ≤ 8) : fromBe (beB u k) = u % 256 ^ k := by
  unfold fromBe
  rw [List.take_of_length_le (by rw [beB_length]; exact h), bev_beB]
def anQ (m : Mc) (ip : Nat) : List UInt8 := ((([0, 1, 8, 0, 6, 4, 0, 1] ++ m.l) ++ beB ip 4) ++ [0, 0, 0, 0, 0, 0]) ++ beB 167772161 4
theorem be_own : beB 167772161 4 = [10, 0, 0, 1] := by decide +kernel
theorem be_two : beB 2 2 = [0, 2] := by decide +kernel
theorem four (l : List UInt8) (h : l.length = 4) : ∃ a b c d, l = [a, b, c, d] := by
  match l, h with
  | [a, b, c, d], _ => exact ⟨a, b, c, d, rfl⟩
theorem anQ_facts (m : Mc) (ip : Nat) (hip : ip < 4294967296) : (anQ m ip).length = 28 ∧ (anQ m ip).take 6 = arBegins ∧ aFld (anQ m ip) 6 2 = 1 ∧ aFld (anQ m ip) 24 4 = 167772161 ∧ aFld (anQ m ip) 14 4 = ip ∧ mcAt (anQ m ip) 8 = m := by
  have hf : fromBe (beB ip 4) = ip := by rw [aFrom_be ip 4 (by omega)]; exact Nat.mod_eq_of_lt (by omega)
  obtain ⟨b0, b1, b2, b3, hb⟩ := four (beB ip 4) (beB_length ip 4)
  obtain ⟨a0, a1, a2, a3, a4, a5⟩ := m
  have e : anQ ⟨a0, a1, a2, a3, a4, a5⟩ ip = [0, 1, 8, 0, 6, 4, 0, 1, a0, a1, a2, a3, a4, a5, b0, b1, b2, b3, 0, 0, 0, 0, 0, 0, 10, 0, 0, 1] := by
    unfold anQ; rw [be_own, hb]; rfl
  rw [e]
  rw [hb] at hf
  refine ⟨rfl, rfl, by show fromBe [0, 1] = 1; decide +kernel, by show fromBe [10, 0, 0, 1] = 167772161; decide +kernel, hf, rfl⟩
theorem arSaid_facts (m : Mc) (ip : Nat) (hip : ip < 4294967296) : (arSaid 2 m ip).length = 28 ∧ (arSaid 2 m ip)[7]? = some 2 ∧ ((arSaid 2 m ip).drop 8).take 6 = mcOwn.l ∧ aFld (arSaid 2 m ip) 14 4 = 167772161 ∧ ((arSaid 2 m ip).drop 18).take 6 = m.l ∧ aFld (arSaid 2 m ip) 24 4 = ip := by
  have hf : fromBe (beB ip 4) = ip := by rw [aFrom_be ip 4 (by omega)]; exact Nat.mod_eq_of_lt (by omega)
  obtain ⟨b0, b1, b2, b3, hb⟩ := four (beB ip 4) (beB_length ip 4)
  obtain ⟨a0, a1, a2, a3, a4, a5⟩ := m
  have e : arSaid 2 ⟨a0, a1, a2, a3, a4, a5⟩ ip = [0, 1, 8, 0, 6, 4, 0, 2, 2, 0, 0, 0, 0, 1, 10, 0, 0, 1, a0, a1, a2, a3, a4, a5, b0, b1, b2, b3] := by
    unfold arSaid; rw [be_own, be_two, hb]; rfl
  rw [e]
  rw [hb] at hf
  refine ⟨rfl, rfl, rfl, by show fromBe [10, 0, 0, 1] = 167772161; decide +kernel, rfl, hf⟩
theorem arFrom_at {w : World} {b o n c : Nat} {xs : List UInt8} (h : RdB w (some ⟨b, o, none⟩) n c xs) (p k : Nat) (hp : p + k ≤ n) (hk : 0 < k) (hc : p < c) : Calls Try.prog 57 #[.slice (some ⟨b, o + p, none⟩) k (c - p)] w fun e w' => e = .returned (.int .u64 (aFld xs p k : Nat)) ∧ w = w' := by
  have h2 := (h.cutS p (n - p) (by omega) hc).take k (by omega)
  exact refFromBe_any _ _ _ _ w h2
set_option maxRecDepth 100000 in
theorem arpAnswers_early (A : Option Addr) (n c : Nat) (l : List Nb) (m : Mc) (ip now : Nat) (w : World) (hr : RdNb w A n c l) (h : nbOk l = false ∨ (nbOk l = true ∧ 549755813888 ≤ now)) :
    Calls Try.prog 10 #[.slice A n c, .agg #[.int .u8 (m.a0.toNat : Int), .int .u8 (m.a1.toNat : Int), .int .u8 (m.a2.toNat : Int), .int .u8 (m.a3.toNat : Int), .int .u8 (m.a4.toNat : Int), .int .u8 (m.a5.toNat : Int)], .int .u32 (ip : Int), .int .u64 (now : Int)] w (RetV w (.bool true)) := by
  obtain ⟨V, hV⟩ : ∃ V, V = w.alloc (.cells #[.int .u8 (m.a0.toNat : Int), .int .u8 (m.a1.toNat : Int), .int .u8 (m.a2.toNat : Int), .int .u8 (m.a3.toNat : Int), .int .u8 (m.a4.toNat : Int), .int .u8 (m.a5.toNat : Int)] 96) := ⟨_, rfl⟩
  have bV : Below w.heap.size w V := by rw [hV]; exact (below_self w).alloc (Nat.le_refl _) _
  have HV := Lib.hid hV
  have C1 := Lib.hid (refCheck19_any A n c l V (hr.below bV))
  clear hV hr
  rcases h with h | ⟨h1, h2⟩
  · rw [h] at C1
    clear h
    go_enter Try.func10, Try.ntmps10
    go_wp2_with fail
    rw [← HV.out]
    refine C1.out.mono ?_
    rintro e w1 ⟨rfl, hb1⟩
    have B1 := below_then bV hb1
    go_wp2_with fail
    refine (heads19 _).mono ?_
    rintro e w9 ⟨rfl, hb9⟩
    go_wp2_with fail
    go_ret
    exact ⟨rfl, below_then B1 hb9⟩
  · rw [h1] at C1
    have d1 : decide ((549755813888 : Int) ≤ (now : Int)) = true := decide_eq_true (by omega)
    clear h1 h2
    go_enter Try.func10, Try.ntmps10
    go_wp2_with fail
    rw [← HV.out]
    refine C1.out.mono ?_
    rintro e w1 ⟨rfl, hb1⟩
    have B1 := below_then bV hb1
    go_wp2_with fail
    refine (heads19 _).mono ?_
    rintro e w9 ⟨rfl, hb9⟩
    go_wp2_with fail
    go_ret
    exact ⟨rfl, below_then B1 hb9⟩
set_option maxRecDepth 100000 in
theorem arpAnswers_main (A : Option Addr) (n c : Nat) (l : List Nb) (m : Mc) (ip now : Nat) (w : World) (hr : RdNb w A n c l) (hok : nbOk l = true) (hip : ip < 4294967296) (hnow : now < 549755813888) :
    Calls Try.prog 10 #[.slice A n c, .agg #[.int .u8 (m.a0.toNat : Int), .int .u8 (m.a1.toNat : Int), .int .u8 (m.a2.toNat : Int), .int .u8 (m.a3.toNat : Int), .int .u8 (m.a4.toNat : Int), .int .u8 (m.a5.toNat : Int)], .int .u32 (ip : Int), .int .u64 (now : Int)] w (RetV w (.bool true)) := by
  obtain ⟨V, hV⟩ : ∃ V, V = w.alloc (.cells #[.int .u8 (m.a0.toNat : Int), .int .u8 (m.a1.toNat : Int), .int .u8 (m.a2.toNat : Int), .int .u8 (m.a3.toNat : Int), .int .u8 (m.a4.toNat : Int), .int .u8 (m.a5.toNat : Int)] 96) := ⟨_, rfl⟩
  have bV : Below w.heap.size w V := by rw [hV]; exact (below_self w).alloc (Nat.le_refl _) _
  have qV : V.heap[w.heap.size]? = some (.cells #[.int .u8 (m.a0.toNat : Int), .int .u8 (m.a1.toNat : Int), .int .u8 (m.a2.toNat : Int), .int .u8 (m.a3.toNat : Int), .int .u8 (m.a4.toNat : Int), .int .u8 (m.a5.toNat : Int)] 96 (0, 0)) := by rw [hV]; exact drw_at _ rfl
  have HV := Lib.hid hV
  have HQ := Lib.hid qV
  have HR := Lib.hid hr
  have HOK := Lib.hid hok
  have C1 := Lib.hid (refCheck19_any A n c l V (hr.below bV))
  rw [hok] at C1
  have d1 : decide ((549755813888 : Int) ≤ (now : Int)) = false := decide_eq_false (by omega)
  obtain ⟨f1, f2, f3, f4, f5, f6⟩ := anQ_facts m ip hip
  obtain ⟨s1, s2, s3, s4, s5, s6⟩ := arSaid_facts m ip hip
  have hlat : arLater now 300 = now + 300 := by unfold arLater; rw [if_neg (by omega)]
  have C5 := Lib.hid (fun W B k d (a : RdNb W A n c l) (h : RdB W B k d (anQ m ip)) => by
    have q := arpTake_ok A n c l now B k d (anQ m ip) W a hok (by omega) h (by have := h.2.1; omega) f2 f3 f4
    rw [f5, f6, hlat] at q
    exact q)
  obtain ⟨x, hx⟩ : ∃ x : Nb, (⟨ip, m, now + 300⟩ : Nb) = x := ⟨_, rfl⟩
  have HXi : Hid (x.ip = ip ∧ x.m = m ∧ x.t = now + 300) := Lib.hid (by rw [← hx]; exact ⟨rfl, rfl, rfl⟩)
  rw [hx] at C5
  obtain ⟨S, hS⟩ : ∃ S, arSaid 2 m ip = S := ⟨_, rfl⟩
  rw [hS] at C5 s1 s2 s3 s4 s5 s6
  have S1 := Lib.hid s1
  have S2 := Lib.hid s2
  have S3 := Lib.hid s3
  have S4 := Lib.hid s4
  have S5 := Lib.hid s5
  have S6 := Lib.hid s6
  have hQd : Hid (((([0, 1, 8, 0, 6, 4, 0, 1] ++ m.l) ++ beB ip 4) ++ [0, 0, 0, 0, 0, 0]) ++ beB 167772161 4 = anQ m ip) := Lib.hid rfl
  obtain ⟨Q8, hQ8⟩ : ∃ q, [0, 1, 8, 0, 6, 4, 0, 1] ++ m.l = q := ⟨_, rfl⟩
  obtain ⟨QA, hQA⟩ : ∃ q, Q8 ++ beB ip 4 = q := ⟨_, rfl⟩
  obtain ⟨QB, hQB⟩ : ∃ q, QA ++ [0, 0, 0, 0, 0, 0] = q := ⟨_, rfl⟩
  rw [hQ8, hQA, hQB] at hQd
  have H8 := Lib.hid hQ8
  have HA := Lib.hid hQA
  have HB2 := Lib.hid hQB
  have w1 : IntKind.u64.wrap (ip : Int) = (ip : Int) := w64n (by omega)
  have G1 : Hid (∀ W, Calls Try.prog 54 #[.int .u64 (ip : Int), .int .i64 4] W (RetB W (beB ip 4))) := Lib.hid (fun W => refBe_any ip 4 W (by omega))
  have G2 : Hid (∀ W, Calls Try.prog 54 #[.int .u64 167772161, .int .i64 4] W (RetB W (beB 167772161 4))) := Lib.hid (fun W => refBe_any 167772161 4 W (by omega))
  clear hV qV hr hok f1 f2 f3 f4 f5 f6 s1 s2 s3 s4 s5 s6 hlat hx hS hQ8 hQA hQB
  go_enter Try.func10, Try.ntmps10
  go_wp2_with fail
  rw [← HV.out]
  refine C1.out.mono ?_
  rintro e w1 ⟨rfl, hb1⟩
  have B1 := below_then bV hb1
  go_wp2_with fail
  refine (refOwn18_any _).mono ?_
  rintro e w2 ⟨rfl, hb2⟩
  have B2 := below_then B1 hb2
  have M2 := Lib.hid (drw_up (drw_up HQ.out hb1) hb2)
  obtain ⟨W3, hW3⟩ : ∃ W, W = w2.alloc (.cells #[.int .u8 (mcOwn.a0.toNat : Int), .int .u8 (mcOwn.a1.toNat : Int), .int .u8 (mcOwn.a2.toNat : Int), .int .u8 (mcOwn.a3.toNat : Int), .int .u8 (mcOwn.a4.toNat : Int), .int .u8 (mcOwn.a5.toNat : Int)] 96) := ⟨_, rfl⟩
  have b3 : Below w2.heap.size w2 W3 := by rw [hW3]; exact (below_self _).alloc (Nat.le_refl _) _
  have q3 : W3.heap[w2.heap.size]? = some (.cells #[.int .u8 (mcOwn.a0.toNat : Int), .int .u8 (mcOwn.a1.toNat : Int), .int .u8 (mcOwn.a2.toNat : Int), .int .u8 (mcOwn.a3.toNat : Int), .int .u8 (mcOwn.a4.toNat : Int), .int .u8 (mcOwn.a5.toNat : Int)] 96 (0, 0)) := by rw [hW3]; exact drw_at _ rfl
  have B3 := below_then B2 b3
  have M3 := Lib.hid (drw_up M2.out b3)
  have O3 := Lib.hid q3
  have r3 : RdB W3 (some ⟨w.heap.size, 0, none⟩) 6 6 m.l := rdAt M3.out m.l 6 rfl rfl (by simp [maxLen])
  have HW3 := Lib.hid hW3
  clear hW3 q3
  go_wp2_with (first | rw [← HW3.out] | (at_builtin; refine wp_appB rfl _ _ rfl ((below_self W3).alloc (Nat.le_refl _) _) (Nat.le_refl _) (by simp) _ 8 _ [0, 1, 8, 0, 6, 4, 0, 1] rfl (OwnB.lit _ _ [0, 1, 8, 0, 6, 4, 0, 1] 8 rfl rfl (by simp [maxLen])) _ 6 6 m.l rfl (r3.alloc _) (by omega) 14 Q8 rfl H8.out ?_; intro A4 c4 w4 o4 hb4 hg4))
  have B4 := below_then B3 hb4
  clear hg4
  refine (G1.out w4).mono ?_
  rintro e w5 ⟨A5, n5, c5, rfl, o5, hb5⟩
  have hn5 : n5 = 4 := by have := o5.len; rw [beB_length] at this; exact this.symm
  have hb45 := below_then hb4 hb5
  have o45 := o4.below hb5
  have r5 := o5.rd
  rw [hn5] at r5
  subst hn5
  clear o4 o5
  go_wp2_with (first
    | (at_builtin; with_reducible refine wp_appB rfl (.tmp 32) (.tmp 35) rfl hb45 (Nat.le_refl _) hb45.size A4 14 c4 Q8 rfl o45 A5 4 c5 (beB ip 4) rfl r5 (by omega) 18 QA rfl HA.out ?_; intro A6 c6 w6 o6 hb6 hg6)
    | (at_builtin; with_reducible refine wp_appB rfl (.tmp 36) (.tmp 37) rfl (hb6.alloc hb6.size _) (Nat.le_refl _) (Nat.le_trans hb6.size (by simp)) A6 18 c6 QA rfl (o6.alloc _) _ 6 6 [0, 0, 0, 0, 0, 0] rfl (RdB.litM _ _ (0, 0) [0, 0, 0, 0, 0, 0] 6 rfl rfl (by simp [maxLen])) (by omega) 24 QB rfl HB2.out ?_; intro A7 c7 w7 o7 hb7 hg7))
  clear hg6 hg7 hb6 o6 hb45 o45 r5
  refine (G2.out w7).mono ?_
  rintro e w8 ⟨A8, n8, c8, rfl, o8, hb8⟩
  have hn8 : n8 = 4 := by have := o8.len; rw [beB_length] at this; exact this.symm
  have hb78 := below_then hb7 hb8
  have o78 := o7.below hb8
  have r8 := o8.rd
  rw [hn8] at r8
  subst hn8
  clear o7 o8
  go_wp2_with (at_builtin; refine wp_appB rfl (.tmp 39) (.tmp 42) rfl hb78 (Nat.le_refl _) hb78.size A7 24 c7 QB rfl o78 A8 4 c8 (beB 167772161 4) rfl r8 (by omega) 28 (anQ m ip) rfl hQd.out ?_; intro A9 c9 w9 o9 hb9 hg9)
  have B9 := below_then B3 hb9
  have r9 := Lib.hid o9.rd
  have M9 := Lib.hid (drw_up M3.out hb9)
  have O9 := Lib.hid (drw_up O3.out hb9)
  clear hg9 hb78 o78 r8 o9 hb7 hb8 hb4 hb5
  refine (C5.out w9 A9 28 c9 (HR.out.below B9) r9.out).mono ?_
  rintro e w10 ⟨A10, n10, c10, m10, K10, k10, d10, rfl, o10, ok10, L10, ob10, hb10⟩
  obtain rfl : 28 = k10 := by have := ob10.len; have := S1.out; omega
  have B10 := below_then B9 hb10
  have R10 := Lib.hid (o10.rd ok10)
  have rb10 := Lib.hid ob10.rd
  have M10 := Lib.hid (drw_up M9.out hb10)
  have O10 := Lib.hid (drw_up O9.out hb10)
  have HF10 : Hid (nbFind m10 ip now = some x) := Lib.hid (by
    unfold nbFind
    rw [if_pos (nbOk_of L10.s)]
    have h := find_ip L10.s L10.mem now
    rw [HXi.out.1, HXi.out.2.2, if_pos (by omega)] at h
    exact h)
  have C7 := Lib.hid (fun W (q : RdNb W A10 n10 c10 m10) => HF10.out ▸ arpFind_any ip now A10 n10 c10 m10 W q)
  clear o10 ok10 L10 ob10
  go_wp2_with fail
  refine (C7.out w10 R10.out).mono ?_
  rintro e w11 ⟨m11, hm11, rfl, hb11⟩
  obtain rfl : m11 = m := hm11.trans HXi.out.2.1
  clear hm11
  have B11 := below_then B10 hb11
  have M11 := Lib.hid (drw_up M10.out hb11)
  have O11 := Lib.hid (drw_up O10.out hb11)
  have rb11 := Lib.hid (rb10.out.below hb11)
  obtain ⟨W12, hW12⟩ : ∃ W, W = w11.alloc (.cells #[.int .u8 (m11.a0.toNat : Int), .int .u8 (m11.a1.toNat : Int), .int .u8 (m11.a2.toNat : Int), .int .u8 (m11.a3.toNat : Int), .int .u8 (m11.a4.toNat : Int), .int .u8 (m11.a5.toNat : Int)] 96) := ⟨_, rfl⟩
  have b12 : Below w11.heap.size w11 W12 := by rw [hW12]; exact (below_self _).alloc (Nat.le_refl _) _
  have q12 : W12.heap[w11.heap.size]? = some (.cells #[.int .u8 (m11.a0.toNat : Int), .int .u8 (m11.a1.toNat : Int), .int .u8 (m11.a2.toNat : Int), .int .u8 (m11.a3.toNat : Int), .int .u8 (m11.a4.toNat : Int), .int .u8 (m11.a5.toNat : Int)] 96 (0, 0)) := by rw [hW12]; exact drw_at _ rfl
  have B12 := below_then B11 b12
  have M12 := Lib.hid (drw_up M11.out b12)
  have O12 := Lib.hid (drw_up O11.out b12)
  have rb12 := rb11.out.below b12
  have N12 := Lib.hid q12
  have HW12 := Lib.hid hW12
  have hd10 := rb12.2.2.1
  have hd10m := rb12.c63
  obtain ⟨bb, ob, u, rfl, hbb, hub, hcb⟩ := rb12.at_ 7 (by omega)
  obtain rfl : u = 2 := by rw [S2.out] at hub; injection hub with hub; exact hub.symm
  have hcb : W12.cell? ⟨bb, ob + 7, none⟩ = some (.int .u8 2) := hcb
  have RB := Lib.hid rb12
  have e1 : ¬ (d10 = 8) := by omega
  have e2 : ¬ (d10 = 14) := by omega
  have e3 : ¬ (d10 = 18) := by omega
  have e4 : ¬ (d10 = 24) := by omega
  have i1 : (14 : Int) ≤ (d10 : Int) := by omega
  have i2 : (18 : Int) ≤ (d10 : Int) := by omega
  have i3 : (24 : Int) ≤ (d10 : Int) := by omega
  have i4 : (28 : Int) ≤ (d10 : Int) := by omega
  have P8 := Lib.hid (fun W (q : RdB W (some ⟨bb, ob, none⟩) 28 d10 S) => S3.out ▸ (q.cutS 8 20 (by omega) (by omega)).take 6 (by omega))
  have P18 := Lib.hid (fun W (q : RdB W (some ⟨bb, ob, none⟩) 28 d10 S) => S5.out ▸ (q.cutS 18 10 (by omega) (by omega)).take 6 (by omega))
  have F14 := Lib.hid (fun W (q : RdB W (some ⟨bb, ob, none⟩) 28 d10 S) => S4.out ▸ arFrom_at q 14 4 (by omega) (by omega) (by omega))
  have F24 := Lib.hid (fun W (q : RdB W (some ⟨bb, ob, none⟩) 28 d10 S) => S6.out ▸ arFrom_at q 24 4 (by omega) (by omega) (by omega))
  have q1 : ∀ W : World, (Op.equalIn 10000 96 (.agg #[.int .u8 (m11.a0.toNat : Int), .int .u8 (m11.a1.toNat : Int), .int .u8 (m11.a2.toNat : Int), .int .u8 (m11.a3.toNat : Int), .int .u8 (m11.a4.toNat : Int), .int .u8 (m11.a5.toNat : Int)]) (.agg #[.int .u8 (m11.a0.toNat : Int), .int .u8 (m11.a1.toNat : Int), .int .u8 (m11.a2.toNat : Int), .int .u8 (m11.a3.toNat : Int), .int .u8 (m11.a4.toNat : Int), .int .u8 (m11.a5.toNat : Int)])).run Try.prog W = .ok true W := fun W => by
    have h := run_eqIn_mac W m11 m11
    rw [mcEq_self] at h
    exact h
  obtain ⟨⟨k0, k1, k2, k3, k4, k5⟩, _⟩ := mac_open M12.out
  obtain ⟨⟨n0, n1, n2, n3, n4, n5⟩, _⟩ := mac_open N12.out
  have l1 : w.heap.size < W12.heap.size := drw_lt M12.out
  have l2 : w11.heap.size < W12.heap.size := drw_lt N12.out
  clear hW12 q12 hub rb12 r3
  go_wp2_with (rw [← HW12.out])
  refine wp_region_seg (S := fun w' => Below W12.heap.size W12 w') 0 #[true, true, true, true, true, true, true, true, true, true, true, true, true, true, true, true, true, true, true, true, true, true, true, true, true, true, true, true, true, true, true, true, true, true, true, true, true, true, true, true, true, true, true, true] [(0, true), (1, true), (2, true), (3, true), (4, true), (5, true), (6, true), (7, true), (8, true), (9, true), (10, true), (11, true), (12, true), (13, true), (14, true), (15, true), (16, true), (17, true), (18, true), (19, true), (20, true), (21, true), (22, true), (23, true), (24, true), (25, true), (26, true), (27, true), (28, true), (29, true), (30, true), (31, true), (32, true), (33, true), (34, true), (35, true), (36, true), (37, true), (38, true), (39, true), (40, true), (41, false), (42, true), (43, true)] (by kernel_rfl) (by kernel_rfl) (fun _ _ d _ _ h => by first | (cases d <;> exact h) | cases h.1) ((Below.refl W12.heap.size W12).drew) ?_
  have HB := (Below.refl W12.heap.size W12).drew
  iterate 5 (refine seg_take (v := ?_) rfl (Or.inl ⟨by rfl, ?_⟩) ?_; rotate_left; (focus (intro w' hw'; have jb := (hw'.cell (p := ⟨bb, ob + 7, none⟩) hbb).trans hcb; have j0 := (hw'.cell (p := ⟨w.heap.size, 0, none⟩) l1).trans k0; have j1 := (hw'.cell (p := ⟨w.heap.size, 1, none⟩) l1).trans k1; have j2 := (hw'.cell (p := ⟨w.heap.size, 2, none⟩) l1).trans k2; have j3 := (hw'.cell (p := ⟨w.heap.size, 3, none⟩) l1).trans k3; have j4 := (hw'.cell (p := ⟨w.heap.size, 4, none⟩) l1).trans k4; have j5 := (hw'.cell (p := ⟨w.heap.size, 5, none⟩) l1).trans k5; have i0 := (hw'.cell (p := ⟨w11.heap.size, 0, none⟩) l2).trans n0; have i1 := (hw'.cell (p := ⟨w11.heap.size, 1, none⟩) l2).trans n1; have i2 := (hw'.cell (p := ⟨w11.heap.size, 2, none⟩) l2).trans n2; have i3 := (hw'.cell (p := ⟨w11.heap.size, 3, none⟩) l2).trans n3; have i4 := (hw'.cell (p := ⟨w11.heap.size, 4, none⟩) l2).trans n4; have i5 := (hw'.cell (p := ⟨w11.heap.size, 5, none⟩) l2).trans n5; go_simp <;> with_reducible rfl)); try simp only [Act.put, List.setIfInBounds_toArray, List.set_cons_zero, List.set_cons_succ])
  iterate 3 ((first | refine seg_take (v := undef) rfl (Or.inr ⟨by rfl, rfl⟩) ?_ | (refine seg_take (v := ?_) rfl (Or.inl ⟨by rfl, ?_⟩) ?_; rotate_left; (focus (intro w' hw'; have jb := (hw'.cell (p := ⟨bb, ob + 7, none⟩) hbb).trans hcb; have j0 := (hw'.cell (p := ⟨w.heap.size, 0, none⟩) l1).trans k0; have j1 := (hw'.cell (p := ⟨w.heap.size, 1, none⟩) l1).trans k1; have j2 := (hw'.cell (p := ⟨w.heap.size, 2, none⟩) l1).trans k2; have j3 := (hw'.cell (p := ⟨w.heap.size, 3, none⟩) l1).trans k3; have j4 := (hw'.cell (p := ⟨w.heap.size, 4, none⟩) l1).trans k4; have j5 := (hw'.cell (p := ⟨w.heap.size, 5, none⟩) l1).trans k5; have i0 := (hw'.cell (p := ⟨w11.heap.size, 0, none⟩) l2).trans n0; have i1 := (hw'.cell (p := ⟨w11.heap.size, 1, none⟩) l2).trans n1; have i2 := (hw'.cell (p := ⟨w11.heap.size, 2, none⟩) l2).trans n2; have i3 := (hw'.cell (p := ⟨w11.heap.size, 3, none⟩) l2).trans n3; have i4 := (hw'.cell (p := ⟨w11.heap.size, 4, none⟩) l2).trans n4; have i5 := (hw'.cell (p := ⟨w11.heap.size, 5, none⟩) l2).trans n5; go_simp <;> with_reducible rfl)))); try simp only [Act.put, List.setIfInBounds_toArray, List.set_cons_zero, List.set_cons_succ])
  refine seg_pure (v := .bool true) (f := ?_) (args := ?_) rfl (by rfl) (fun w' hw' => ?_) (fun w' hw' => ?_) ?_
  rotate_left 2
  focus (have jb := (hw'.cell (p := ⟨bb, ob + 7, none⟩) hbb).trans hcb; have j0 := (hw'.cell (p := ⟨w.heap.size, 0, none⟩) l1).trans k0; have j1 := (hw'.cell (p := ⟨w.heap.size, 1, none⟩) l1).trans k1; have j2 := (hw'.cell (p := ⟨w.heap.size, 2, none⟩) l1).trans k2; have j3 := (hw'.cell (p := ⟨w.heap.size, 3, none⟩) l1).trans k3; have j4 := (hw'.cell (p := ⟨w.heap.size, 4, none⟩) l1).trans k4; have j5 := (hw'.cell (p := ⟨w.heap.size, 5, none⟩) l1).trans k5; have i0 := (hw'.cell (p := ⟨w11.heap.size, 0, none⟩) l2).trans n0; have i1 := (hw'.cell (p := ⟨w11.heap.size, 1, none⟩) l2).trans n1; have i2 := (hw'.cell (p := ⟨w11.heap.size, 2, none⟩) l2).trans n2; have i3 := (hw'.cell (p := ⟨w11.heap.size, 3, none⟩) l2).trans n3; have i4 := (hw'.cell (p := ⟨w11.heap.size, 4, none⟩) l2).trans n4; have i5 := (hw'.cell (p := ⟨w11.heap.size, 5, none⟩) l2).trans n5; go_simp <;> first | (refine ⟨?_, ?_⟩ <;> with_reducible rfl) | with_reducible rfl)
  focus (have hh := bytes_any (some ⟨bb, ob + 8, none⟩) (some ⟨w2.heap.size, 0, none⟩) 6 (d10 - 8) 6 6 mcOwn.l mcOwn.l w' (P8.out w' (RB.out.below hw')) (rdAt (drw_up O12.out hw') mcOwn.l 6 rfl rfl (by simp [maxLen])); rw [decide_eq_true rfl] at hh; exact hh)
  try simp only [Act.put, List.setIfInBounds_toArray, List.set_cons_zero, List.set_cons_succ]
  iterate 2 (refine seg_take (v := ?_) rfl (Or.inl ⟨by rfl, ?_⟩) ?_; rotate_left; (focus (intro w' hw'; have jb := (hw'.cell (p := ⟨bb, ob + 7, none⟩) hbb).trans hcb; have j0 := (hw'.cell (p := ⟨w.heap.size, 0, none⟩) l1).trans k0; have j1 := (hw'.cell (p := ⟨w.heap.size, 1, none⟩) l1).trans k1; have j2 := (hw'.cell (p := ⟨w.heap.size, 2, none⟩) l1).trans k2; have j3 := (hw'.cell (p := ⟨w.heap.size, 3, none⟩) l1).trans k3; have j4 := (hw'.cell (p := ⟨w.heap.size, 4, none⟩) l1).trans k4; have j5 := (hw'.cell (p := ⟨w.heap.size, 5, none⟩) l1).trans k5; have i0 := (hw'.cell (p := ⟨w11.heap.size, 0, none⟩) l2).trans n0; have i1 := (hw'.cell (p := ⟨w11.heap.size, 1, none⟩) l2).trans n1; have i2 := (hw'.cell (p := ⟨w11.heap.size, 2, none⟩) l2).trans n2; have i3 := (hw'.cell (p := ⟨w11.heap.size, 3, none⟩) l2).trans n3; have i4 := (hw'.cell (p := ⟨w11.heap.size, 4, none⟩) l2).trans n4; have i5 := (hw'.cell (p := ⟨w11.heap.size, 5, none⟩) l2).trans n5; go_simp <;> with_reducible rfl)); try simp only [Act.put, List.setIfInBounds_toArray, List.set_cons_zero, List.set_cons_succ])
  iterate 2 ((first | refine seg_take (v := undef) rfl (Or.inr ⟨by rfl, rfl⟩) ?_ | (refine seg_take (v := ?_) rfl (Or.inl ⟨by rfl, ?_⟩) ?_; rotate_left; (focus (intro w' hw'; have jb := (hw'.cell (p := ⟨bb, ob + 7, none⟩) hbb).trans hcb; have j0 := (hw'.cell (p := ⟨w.heap.size, 0, none⟩) l1).trans k0; have j1 := (hw'.cell (p := ⟨w.heap.size, 1, none⟩) l1).trans k1; have j2 := (hw'.cell (p := ⟨w.heap.size, 2, none⟩) l1).trans k2; have j3 := (hw'.cell (p := ⟨w.heap.size, 3, none⟩) l1).trans k3; have j4 := (hw'.cell (p := ⟨w.heap.size, 4, none⟩) l1).trans k4; have j5 := (hw'.cell (p := ⟨w.heap.size, 5, none⟩) l1).trans k5; have i0 := (hw'.cell (p := ⟨w11.heap.size, 0, none⟩) l2).trans n0; have i1 := (hw'.cell (p := ⟨w11.heap.size, 1, none⟩) l2).trans n1; have i2 := (hw'.cell (p := ⟨w11.heap.size, 2, none⟩) l2).trans n2; have i3 := (hw'.cell (p := ⟨w11.heap.size, 3, none⟩) l2).trans n3; have i4 := (hw'.cell (p := ⟨w11.heap.size, 4, none⟩) l2).trans n4; have i5 := (hw'.cell (p := ⟨w11.heap.size, 5, none⟩) l2).trans n5; go_simp <;> with_reducible rfl)))); try simp only [Act.put, List.setIfInBounds_toArray, List.set_cons_zero, List.set_cons_succ])
  refine seg_pure (v := .int .u64 167772161) (f := ?_) (args := ?_) rfl (by rfl) (fun w' hw' => ?_) (fun w' hw' => ?_) ?_
  rotate_left 2
  focus (have jb := (hw'.cell (p := ⟨bb, ob + 7, none⟩) hbb).trans hcb; have j0 := (hw'.cell (p := ⟨w.heap.size, 0, none⟩) l1).trans k0; have j1 := (hw'.cell (p := ⟨w.heap.size, 1, none⟩) l1).trans k1; have j2 := (hw'.cell (p := ⟨w.heap.size, 2, none⟩) l1).trans k2; have j3 := (hw'.cell (p := ⟨w.heap.size, 3, none⟩) l1).trans k3; have j4 := (hw'.cell (p := ⟨w.heap.size, 4, none⟩) l1).trans k4; have j5 := (hw'.cell (p := ⟨w.heap.size, 5, none⟩) l1).trans k5; have i0 := (hw'.cell (p := ⟨w11.heap.size, 0, none⟩) l2).trans n0; have i1 := (hw'.cell (p := ⟨w11.heap.size, 1, none⟩) l2).trans n1; have i2 := (hw'.cell (p := ⟨w11.heap.size, 2, none⟩) l2).trans n2; have i3 := (hw'.cell (p := ⟨w11.heap.size, 3, none⟩) l2).trans n3; have i4 := (hw'.cell (p := ⟨w11.heap.size, 4, none⟩) l2).trans n4; have i5 := (hw'.cell (p := ⟨w11.heap.size, 5, none⟩) l2).trans n5; go_simp <;> first | (refine ⟨?_, ?_⟩ <;> with_reducible rfl) | with_reducible rfl)
  focus (exact F14.out w' (RB.out.below hw'))
  try simp only [Act.put, List.setIfInBounds_toArray, List.set_cons_zero, List.set_cons_succ]
  iterate 3 ((first | refine seg_take (v := undef) rfl (Or.inr ⟨by rfl, rfl⟩) ?_ | (refine seg_take (v := ?_) rfl (Or.inl ⟨by rfl, ?_⟩) ?_; rotate_left; (focus (intro w' hw'; have jb := (hw'.cell (p := ⟨bb, ob + 7, none⟩) hbb).trans hcb; have j0 := (hw'.cell (p := ⟨w.heap.size, 0, none⟩) l1).trans k0; have j1 := (hw'.cell (p := ⟨w.heap.size, 1, none⟩) l1).trans k1; have j2 := (hw'.cell (p := ⟨w.heap.size, 2, none⟩) l1).trans k2; have j3 := (hw'.cell (p := ⟨w.heap.size, 3, none⟩) l1).trans k3; have j4 := (hw'.cell (p := ⟨w.heap.size, 4, none⟩) l1).trans k4; have j5 := (hw'.cell (p := ⟨w.heap.size, 5, none⟩) l1).trans k5; have i0 := (hw'.cell (p := ⟨w11.heap.size, 0, none⟩) l2).trans n0; have i1 := (hw'.cell (p := ⟨w11.heap.size, 1, none⟩) l2).trans n1; have i2 := (hw'.cell (p := ⟨w11.heap.size, 2, none⟩) l2).trans n2; have i3 := (hw'.cell (p := ⟨w11.heap.size, 3, none⟩) l2).trans n3; have i4 := (hw'.cell (p := ⟨w11.heap.size, 4, none⟩) l2).trans n4; have i5 := (hw'.cell (p := ⟨w11.heap.size, 5, none⟩) l2).trans n5; go_simp <;> with_reducible rfl)))); try simp only [Act.put, List.setIfInBounds_toArray, List.set_cons_zero, List.set_cons_succ])
  iterate 2 (refine seg_take (v := ?_) rfl (Or.inl ⟨by rfl, ?_⟩) ?_; rotate_left; (focus (intro w' hw'; have jb := (hw'.cell (p := ⟨bb, ob + 7, none⟩) hbb).trans hcb; have j0 := (hw'.cell (p := ⟨w.heap.size, 0, none⟩) l1).trans k0; have j1 := (hw'.cell (p := ⟨w.heap.size, 1, none⟩) l1).trans k1; have j2 := (hw'.cell (p := ⟨w.heap.size, 2, none⟩) l1).trans k2; have j3 := (hw'.cell (p := ⟨w.heap.size, 3, none⟩) l1).trans k3; have j4 := (hw'.cell (p := ⟨w.heap.size, 4, none⟩) l1).trans k4; have j5 := (hw'.cell (p := ⟨w.heap.size, 5, none⟩) l1).trans k5; have i0 := (hw'.cell (p := ⟨w11.heap.size, 0, none⟩) l2).trans n0; have i1 := (hw'.cell (p := ⟨w11.heap.size, 1, none⟩) l2).trans n1; have i2 := (hw'.cell (p := ⟨w11.heap.size, 2, none⟩) l2).trans n2; have i3 := (hw'.cell (p := ⟨w11.heap.size, 3, none⟩) l2).trans n3; have i4 := (hw'.cell (p := ⟨w11.heap.size, 4, none⟩) l2).trans n4; have i5 := (hw'.cell (p := ⟨w11.heap.size, 5, none⟩) l2).trans n5; go_simp <;> with_reducible rfl)); try simp only [Act.put, List.setIfInBounds_toArray, List.set_cons_zero, List.set_cons_succ])
  iterate 3 ((first | refine seg_take (v := undef) rfl (Or.inr ⟨by rfl, rfl⟩) ?_ | (refine seg_take (v := ?_) rfl (Or.inl ⟨by rfl, ?_⟩) ?_; rotate_left; (focus (intro w' hw'; have jb := (hw'.cell (p := ⟨bb, ob + 7, none⟩) hbb).trans hcb; have j0 := (hw'.cell (p := ⟨w.heap.size, 0, none⟩) l1).trans k0; have j1 := (hw'.cell (p := ⟨w.heap.size, 1, none⟩) l1).trans k1; have j2 := (hw'.cell (p := ⟨w.heap.size, 2, none⟩) l1).trans k2; have j3 := (hw'.cell (p := ⟨w.heap.size, 3, none⟩) l1).trans k3; have j4 := (hw'.cell (p := ⟨w.heap.size, 4, none⟩) l1).trans k4; have j5 := (hw'.cell (p := ⟨w.heap.size, 5, none⟩) l1).trans k5; have i0 := (hw'.cell (p := ⟨w11.heap.size, 0, none⟩) l2).trans n0; have i1 := (hw'.cell (p := ⟨w11.heap.size, 1, none⟩) l2).trans n1; have i2 := (hw'.cell (p := ⟨w11.heap.size, 2, none⟩) l2).trans n2; have i3 := (hw'.cell (p := ⟨w11.heap.size, 3, none⟩) l2).trans n3; have i4 := (hw'.cell (p := ⟨w11.heap.size, 4, none⟩) l2).trans n4; have i5 := (hw'.cell (p := ⟨w11.heap.size, 5, none⟩) l2).trans n5; go_simp <;> with_reducible rfl)))); try simp only [Act.put, List.setIfInBounds_toArray, List.set_cons_zero, List.set_cons_succ])
  refine seg_pure (v := .bool true) (f := ?_) (args := ?_) rfl (by rfl) (fun w' hw' => ?_) (fun w' hw' => ?_) ?_
  rotate_left 2
  focus (have jb := (hw'.cell (p := ⟨bb, ob + 7, none⟩) hbb).trans hcb; have j0 := (hw'.cell (p := ⟨w.heap.size, 0, none⟩) l1).trans k0; have j1 := (hw'.cell (p := ⟨w.heap.size, 1, none⟩) l1).trans k1; have j2 := (hw'.cell (p := ⟨w.heap.size, 2, none⟩) l1).trans k2; have j3 := (hw'.cell (p := ⟨w.heap.size, 3, none⟩) l1).trans k3; have j4 := (hw'.cell (p := ⟨w.heap.size, 4, none⟩) l1).trans k4; have j5 := (hw'.cell (p := ⟨w.heap.size, 5, none⟩) l1).trans k5; have i0 := (hw'.cell (p := ⟨w11.heap.size, 0, none⟩) l2).trans n0; have i1 := (hw'.cell (p := ⟨w11.heap.size, 1, none⟩) l2).trans n1; have i2 := (hw'.cell (p := ⟨w11.heap.size, 2, none⟩) l2).trans n2; have i3 := (hw'.cell (p := ⟨w11.heap.size, 3, none⟩) l2).trans n3; have i4 := (hw'.cell (p := ⟨w11.heap.size, 4, none⟩) l2).trans n4; have i5 := (hw'.cell (p := ⟨w11.heap.size, 5, none⟩) l2).trans n5; go_simp <;> first | (refine ⟨?_, ?_⟩ <;> with_reducible rfl) | with_reducible rfl)
  focus (have hh := bytes_any (some ⟨bb, ob + 18, none⟩) (some ⟨w.heap.size, 0, none⟩) 6 (d10 - 18) 6 6 m11.l m11.l w' (P18.out w' (RB.out.below hw')) (rdAt (drw_up M12.out hw') m11.l 6 rfl rfl (by simp [maxLen])); rw [decide_eq_true rfl] at hh; exact hh)
  try simp only [Act.put, List.setIfInBounds_toArray, List.set_cons_zero, List.set_cons_succ]
  iterate 2 (refine seg_take (v := ?_) rfl (Or.inl ⟨by rfl, ?_⟩) ?_; rotate_left; (focus (intro w' hw'; have jb := (hw'.cell (p := ⟨bb, ob + 7, none⟩) hbb).trans hcb; have j0 := (hw'.cell (p := ⟨w.heap.size, 0, none⟩) l1).trans k0; have j1 := (hw'.cell (p := ⟨w.heap.size, 1, none⟩) l1).trans k1; have j2 := (hw'.cell (p := ⟨w.heap.size, 2, none⟩) l1).trans k2; have j3 := (hw'.cell (p := ⟨w.heap.size, 3, none⟩) l1).trans k3; have j4 := (hw'.cell (p := ⟨w.heap.size, 4, none⟩) l1).trans k4; have j5 := (hw'.cell (p := ⟨w.heap.size, 5, none⟩) l1).trans k5; have i0 := (hw'.cell (p := ⟨w11.heap.size, 0, none⟩) l2).trans n0; have i1 := (hw'.cell (p := ⟨w11.heap.size, 1, none⟩) l2).trans n1; have i2 := (hw'.cell (p := ⟨w11.heap.size, 2, none⟩) l2).trans n2; have i3 := (hw'.cell (p := ⟨w11.heap.size, 3, none⟩) l2).trans n3; have i4 := (hw'.cell (p := ⟨w11.heap.size, 4, none⟩) l2).trans n4; have i5 := (hw'.cell (p := ⟨w11.heap.size, 5, none⟩) l2).trans n5; go_simp <;> with_reducible rfl)); try simp only [Act.put, List.setIfInBounds_toArray, List.set_cons_zero, List.set_cons_succ])
  iterate 2 ((first | refine seg_take (v := undef) rfl (Or.inr ⟨by rfl, rfl⟩) ?_ | (refine seg_take (v := ?_) rfl (Or.inl ⟨by rfl, ?_⟩) ?_; rotate_left; (focus (intro w' hw'; have jb := (hw'.cell (p := ⟨bb, ob + 7, none⟩) hbb).trans hcb; have j0 := (hw'.cell (p := ⟨w.heap.size, 0, none⟩) l1).trans k0; have j1 := (hw'.cell (p := ⟨w.heap.size, 1, none⟩) l1).trans k1; have j2 := (hw'.cell (p := ⟨w.heap.size, 2, none⟩) l1).trans k2; have j3 := (hw'.cell (p := ⟨w.heap.size, 3, none⟩) l1).trans k3; have j4 := (hw'.cell (p := ⟨w.heap.size, 4, none⟩) l1).trans k4; have j5 := (hw'.cell (p := ⟨w.heap.size, 5, none⟩) l1).trans k5; have i0 := (hw'.cell (p := ⟨w11.heap.size, 0, none⟩) l2).trans n0; have i1 := (hw'.cell (p := ⟨w11.heap.size, 1, none⟩) l2).trans n1; have i2 := (hw'.cell (p := ⟨w11.heap.size, 2, none⟩) l2).trans n2; have i3 := (hw'.cell (p := ⟨w11.heap.size, 3, none⟩) l2).trans n3; have i4 := (hw'.cell (p := ⟨w11.heap.size, 4, none⟩) l2).trans n4; have i5 := (hw'.cell (p := ⟨w11.heap.size, 5, none⟩) l2).trans n5; go_simp <;> with_reducible rfl)))); try simp only [Act.put, List.setIfInBounds_toArray, List.set_cons_zero, List.set_cons_succ])
  refine seg_pure (v := .int .u64 (ip : Int)) (f := ?_) (args := ?_) rfl (by rfl) (fun w' hw' => ?_) (fun w' hw' => ?_) ?_
  rotate_left 2
  focus (have jb := (hw'.cell (p := ⟨bb, ob + 7, none⟩) hbb).trans hcb; have j0 := (hw'.cell (p := ⟨w.heap.size, 0, none⟩) l1).trans k0; have j1 := (hw'.cell (p := ⟨w.heap.size, 1, none⟩) l1).trans k1; have j2 := (hw'.cell (p := ⟨w.heap.size, 2, none⟩) l1).trans k2; have j3 := (hw'.cell (p := ⟨w.heap.size, 3, none⟩) l1).trans k3; have j4 := (hw'.cell (p := ⟨w.heap.size, 4, none⟩) l1).trans k4; have j5 := (hw'.cell (p := ⟨w.heap.size, 5, none⟩) l1).trans k5; have i0 := (hw'.cell (p := ⟨w11.heap.size, 0, none⟩) l2).trans n0; have i1 := (hw'.cell (p := ⟨w11.heap.size, 1, none⟩) l2).trans n1; have i2 := (hw'.cell (p := ⟨w11.heap.size, 2, none⟩) l2).trans n2; have i3 := (hw'.cell (p := ⟨w11.heap.size, 3, none⟩) l2).trans n3; have i4 := (hw'.cell (p := ⟨w11.heap.size, 4, none⟩) l2).trans n4; have i5 := (hw'.cell (p := ⟨w11.heap.size, 5, none⟩) l2).trans n5; go_simp <;> first | (refine ⟨?_, ?_⟩ <;> with_reducible rfl) | with_reducible rfl)
  focus (exact F24.out w' (RB.out.below hw'))
  try simp only [Act.put, List.setIfInBounds_toArray, List.set_cons_zero, List.set_cons_succ]
  iterate 3 ((first | refine seg_take (v := undef) rfl (Or.inr ⟨by rfl, rfl⟩) ?_ | (refine seg_take (v := ?_) rfl (Or.inl ⟨by rfl, ?_⟩) ?_; rotate_left; (focus (intro w' hw'; have jb := (hw'.cell (p := ⟨bb, ob + 7, none⟩) hbb).trans hcb; have j0 := (hw'.cell (p := ⟨w.heap.size, 0, none⟩) l1).trans k0; have j1 := (hw'.cell (p := ⟨w.heap.size, 1, none⟩) l1).trans k1; have j2 := (hw'.cell (p := ⟨w.heap.size, 2, none⟩) l1).trans k2; have j3 := (hw'.cell (p := ⟨w.heap.size, 3, none⟩) l1).trans k3; have j4 := (hw'.cell (p := ⟨w.heap.size, 4, none⟩) l1).trans k4; have j5 := (hw'.cell (p := ⟨w.heap.size, 5, none⟩) l1).trans k5; have i0 := (hw'.cell (p := ⟨w11.heap.size, 0, none⟩) l2).trans n0; have i1 := (hw'.cell (p := ⟨w11.heap.size, 1, none⟩) l2).trans n1; have i2 := (hw'.cell (p := ⟨w11.heap.size, 2, none⟩) l2).trans n2; have i3 := (hw'.cell (p := ⟨w11.heap.size, 3, none⟩) l2).trans n3; have i4 := (hw'.cell (p := ⟨w11.heap.size, 4, none⟩) l2).trans n4; have i5 := (hw'.cell (p := ⟨w11.heap.size, 5, none⟩) l2).trans n5; go_simp <;> with_reducible rfl)))); try simp only [Act.put, List.setIfInBounds_toArray, List.set_cons_zero, List.set_cons_succ])
  iterate 2 (refine seg_take (v := ?_) rfl (Or.inl ⟨by rfl, ?_⟩) ?_; rotate_left; (focus (intro w' hw'; have jb := (hw'.cell (p := ⟨bb, ob + 7, none⟩) hbb).trans hcb; have j0 := (hw'.cell (p := ⟨w.heap.size, 0, none⟩) l1).trans k0; have j1 := (hw'.cell (p := ⟨w.heap.size, 1, none⟩) l1).trans k1; have j2 := (hw'.cell (p := ⟨w.heap.size, 2, none⟩) l1).trans k2; have j3 := (hw'.cell (p := ⟨w.heap.size, 3, none⟩) l1).trans k3; have j4 := (hw'.cell (p := ⟨w.heap.size, 4, none⟩) l1).trans k4; have j5 := (hw'.cell (p := ⟨w.heap.size, 5, none⟩) l1).trans k5; have i0 := (hw'.cell (p := ⟨w11.heap.size, 0, none⟩) l2).trans n0; have i1 := (hw'.cell (p := ⟨w11.heap.size, 1, none⟩) l2).trans n1; have i2 := (hw'.cell (p := ⟨w11.heap.size, 2, none⟩) l2).trans n2; have i3 := (hw'.cell (p := ⟨w11.heap.size, 3, none⟩) l2).trans n3; have i4 := (hw'.cell (p := ⟨w11.heap.size, 4, none⟩) l2).trans n4; have i5 := (hw'.cell (p := ⟨w11.heap.size, 5, none⟩) l2).trans n5; go_simp <;> with_reducible rfl)); try simp only [Act.put, List.setIfInBounds_toArray, List.set_cons_zero, List.set_cons_succ])
  iterate 1 ((first | refine seg_take (v := undef) rfl (Or.inr ⟨by rfl, rfl⟩) ?_ | (refine seg_take (v := ?_) rfl (Or.inl ⟨by rfl, ?_⟩) ?_; rotate_left; (focus (intro w' hw'; have jb := (hw'.cell (p := ⟨bb, ob + 7, none⟩) hbb).trans hcb; have j0 := (hw'.cell (p := ⟨w.heap.size, 0, none⟩) l1).trans k0; have j1 := (hw'.cell (p := ⟨w.heap.size, 1, none⟩) l1).trans k1; have j2 := (hw'.cell (p := ⟨w.heap.size, 2, none⟩) l1).trans k2; have j3 := (hw'.cell (p := ⟨w.heap.size, 3, none⟩) l1).trans k3; have j4 := (hw'.cell (p := ⟨w.heap.size, 4, none⟩) l1).trans k4; have j5 := (hw'.cell (p := ⟨w.heap.size, 5, none⟩) l1).trans k5; have i0 := (hw'.cell (p := ⟨w11.heap.size, 0, none⟩) l2).trans n0; have i1 := (hw'.cell (p := ⟨w11.heap.size, 1, none⟩) l2).trans n1; have i2 := (hw'.cell (p := ⟨w11.heap.size, 2, none⟩) l2).trans n2; have i3 := (hw'.cell (p := ⟨w11.heap.size, 3, none⟩) l2).trans n3; have i4 := (hw'.cell (p := ⟨w11.heap.size, 4, none⟩) l2).trans n4; have i5 := (hw'.cell (p := ⟨w11.heap.size, 5, none⟩) l2).trans n5; go_simp <;> with_reducible rfl)))); try simp only [Act.put, List.setIfInBounds_toArray, List.set_cons_zero, List.set_cons_succ])
  iterate 2 (refine seg_take (v := ?_) rfl (Or.inl ⟨by rfl, ?_⟩) ?_; rotate_left; (focus (intro w' hw'; have jb := (hw'.cell (p := ⟨bb, ob + 7, none⟩) hbb).trans hcb; have j0 := (hw'.cell (p := ⟨w.heap.size, 0, none⟩) l1).trans k0; have j1 := (hw'.cell (p := ⟨w.heap.size, 1, none⟩) l1).trans k1; have j2 := (hw'.cell (p := ⟨w.heap.size, 2, none⟩) l1).trans k2; have j3 := (hw'.cell (p := ⟨w.heap.size, 3, none⟩) l1).trans k3; have j4 := (hw'.cell (p := ⟨w.heap.size, 4, none⟩) l1).trans k4; have j5 := (hw'.cell (p := ⟨w.heap.size, 5, none⟩) l1).trans k5; have i0 := (hw'.cell (p := ⟨w11.heap.size, 0, none⟩) l2).trans n0; have i1 := (hw'.cell (p := ⟨w11.heap.size, 1, none⟩) l2).trans n1; have i2 := (hw'.cell (p := ⟨w11.heap.size, 2, none⟩) l2).trans n2; have i3 := (hw'.cell (p := ⟨w11.heap.size, 3, none⟩) l2).trans n3; have i4 := (hw'.cell (p := ⟨w11.heap.size, 4, none⟩) l2).trans n4; have i5 := (hw'.cell (p := ⟨w11.heap.size, 5, none⟩) l2).trans n5; go_simp <;> with_reducible rfl)); try simp only [Act.put, List.setIfInBounds_toArray, List.set_cons_zero, List.set_cons_succ])
  iterate 3 ((first | refine seg_take (v := undef) rfl (Or.inr ⟨by rfl, rfl⟩) ?_ | (refine seg_take (v := ?_) rfl (Or.inl ⟨by rfl, ?_⟩) ?_; rotate_left; (focus (intro w' hw'; have jb := (hw'.cell (p := ⟨bb, ob + 7, none⟩) hbb).trans hcb; have j0 := (hw'.cell (p := ⟨w.heap.size, 0, none⟩) l1).trans k0; have j1 := (hw'.cell (p := ⟨w.heap.size, 1, none⟩) l1).trans k1; have j2 := (hw'.cell (p := ⟨w.heap.size, 2, none⟩) l1).trans k2; have j3 := (hw'.cell (p := ⟨w.heap.size, 3, none⟩) l1).trans k3; have j4 := (hw'.cell (p := ⟨w.heap.size, 4, none⟩) l1).trans k4; have j5 := (hw'.cell (p := ⟨w.heap.size, 5, none⟩) l1).trans k5; have i0 := (hw'.cell (p := ⟨w11.heap.size, 0, none⟩) l2).trans n0; have i1 := (hw'.cell (p := ⟨w11.heap.size, 1, none⟩) l2).trans n1; have i2 := (hw'.cell (p := ⟨w11.heap.size, 2, none⟩) l2).trans n2; have i3 := (hw'.cell (p := ⟨w11.heap.size, 3, none⟩) l2).trans n3; have i4 := (hw'.cell (p := ⟨w11.heap.size, 4, none⟩) l2).trans n4; have i5 := (hw'.cell (p := ⟨w11.heap.size, 5, none⟩) l2).trans n5; go_simp <;> with_reducible rfl)))); try simp only [Act.put, List.setIfInBounds_toArray, List.set_cons_zero, List.set_cons_succ])
  iterate 2 (refine seg_take (v := ?_) rfl (Or.inl ⟨by rfl, ?_⟩) ?_; rotate_left; (focus (intro w' hw'; have jb := (hw'.cell (p := ⟨bb, ob + 7, none⟩) hbb).trans hcb; have j0 := (hw'.cell (p := ⟨w.heap.size, 0, none⟩) l1).trans k0; have j1 := (hw'.cell (p := ⟨w.heap.size, 1, none⟩) l1).trans k1; have j2 := (hw'.cell (p := ⟨w.heap.size, 2, none⟩) l1).trans k2; have j3 := (hw'.cell (p := ⟨w.heap.size, 3, none⟩) l1).trans k3; have j4 := (hw'.cell (p := ⟨w.heap.size, 4, none⟩) l1).trans k4; have j5 := (hw'.cell (p := ⟨w.heap.size, 5, none⟩) l1).trans k5; have i0 := (hw'.cell (p := ⟨w11.heap.size, 0, none⟩) l2).trans n0; have i1 := (hw'.cell (p := ⟨w11.heap.size, 1, none⟩) l2).trans n1; have i2 := (hw'.cell (p := ⟨w11.heap.size, 2, none⟩) l2).trans n2; have i3 := (hw'.cell (p := ⟨w11.heap.size, 3, none⟩) l2).trans n3; have i4 := (hw'.cell (p := ⟨w11.heap.size, 4, none⟩) l2).trans n4; have i5 := (hw'.cell (p := ⟨w11.heap.size, 5, none⟩) l2).trans n5; go_simp <;> with_reducible rfl)); try simp only [Act.put, List.setIfInBounds_toArray, List.set_cons_zero, List.set_cons_succ])
  refine seg_run rfl (fun K hK => ?_)
  rw [if_pos (by rfl)]
  go_simp
  refine (heads19 _).mono ?_
  rintro e_ wH ⟨rfl, hbH⟩
  have HB := below_then HB hbH
  refine hK.out _ _ (HB) ?_
  clear hK
  try simp only [Act.put, List.setIfInBounds_toArray, List.set_cons_zero, List.set_cons_succ]
  iterate 2 (refine seg_take (v := ?_) rfl (Or.inl ⟨by rfl, ?_⟩) ?_; rotate_left; (focus (intro w' hw'; have jb := (hw'.cell (p := ⟨bb, ob + 7, none⟩) hbb).trans hcb; have j0 := (hw'.cell (p := ⟨w.heap.size, 0, none⟩) l1).trans k0; have j1 := (hw'.cell (p := ⟨w.heap.size, 1, none⟩) l1).trans k1; have j2 := (hw'.cell (p := ⟨w.heap.size, 2, none⟩) l1).trans k2; have j3 := (hw'.cell (p := ⟨w.heap.size, 3, none⟩) l1).trans k3; have j4 := (hw'.cell (p := ⟨w.heap.size, 4, none⟩) l1).trans k4; have j5 := (hw'.cell (p := ⟨w.heap.size, 5, none⟩) l1).trans k5; have i0 := (hw'.cell (p := ⟨w11.heap.size, 0, none⟩) l2).trans n0; have i1 := (hw'.cell (p := ⟨w11.heap.size, 1, none⟩) l2).trans n1; have i2 := (hw'.cell (p := ⟨w11.heap.size, 2, none⟩) l2).trans n2; have i3 := (hw'.cell (p := ⟨w11.heap.size, 3, none⟩) l2).trans n3; have i4 := (hw'.cell (p := ⟨w11.heap.size, 4, none⟩) l2).trans n4; have i5 := (hw'.cell (p := ⟨w11.heap.size, 5, none⟩) l2).trans n5; go_simp <;> with_reducible rfl)); try simp only [Act.put, List.setIfInBounds_toArray, List.set_cons_zero, List.set_cons_succ])
  refine seg_done (fun _ => ?_)
  refine wpAnyH_done (by kernel_rfl) ?_ _
  go_wp2_with fail
  go_ret
  exact ⟨rfl, below_then B12 HB⟩
theorem arpAnswers_law (A : Option Addr) (n c : Nat) (l : List Nb) (m : Mc) (ip now : Nat) (w : World) (hr : RdNb w A n c l) (hip : ip < 4294967296) (hnow : now < 18446744073709551616) :
    Calls Try.prog 10 #[.slice A n c, .agg #[.int .u8 (m.a0.toNat : Int), .int .u8 (m.a1.toNat : Int), .int .u8 (m.a2.toNat : Int), .int .u8 (m.a3.toNat : Int), .int .u8 (m.a4.toNat : Int), .int .u8 (m.a5.toNat : Int)], .int .u32 (ip : Int), .int .u64 (now : Int)] w (RetV w (.bool true)) := by
  cases hok : nbOk l with
  | false => exact arpAnswers_early A n c l m ip now w hr (.inl hok)
  | true =>
    rcases Nat.lt_or_ge now 549755813888 with h | h
    · exact arpAnswers_main A n c l m ip now w hr hok hip h
    · exact arpAnswers_early A n c l m ip now w hr (.inr ⟨hok, h⟩)
end Go.Proofs.Ytnfepikgbdeomaa
