/-
  Layer 19: arp: the law's heads.
-/
import Derived.Test.YtnfepikgbdeomaaArpO
namespace Go.Proofs.Ytnfepikgbdeomaa
set_option maxRecDepth 20000
open Go.RowKit
set_option linter.unusedVariables false
set_option linter.unusedSimpArgs false
set_option maxHeartbeats 8000000

theorem rdNb_nil (w : World) : RdNb w none 0 0 [] := ⟨.inl rfl, rfl, Nat.le_refl _, by simp [maxLen], fun x hx => by cases hx⟩
theorem run_eqIn_mac (w : World) (m k : Mc) : (Op.equalIn 10000 96 (.agg #[.int .u8 (m.a0.toNat : Int), .int .u8 (m.a1.toNat : Int), .int .u8 (m.a2.toNat : Int), .int .u8 (m.a3.toNat : Int), .int .u8 (m.a4.toNat : Int), .int .u8 (m.a5.toNat : Int)]) (.agg #[.int .u8 (k.a0.toNat : Int), .int .u8 (k.a1.toNat : Int), .int .u8 (k.a2.toNat : Int), .int .u8 (k.a3.toNat : Int), .int .u8 (k.a4.toNat : Int), .int .u8 (k.a5.toNat : Int)])).run Try.prog w = .ok (mcEq m k) w := by
  obtain ⟨i, hi, _⟩ := info_parts elemB.info
  have h := eqItems_u8 9998 w m.l k.l (List.range 6) (by intro i hi; simpa [Mc.l] using hi)
  have e : ((List.range 6).all fun i => decide (m.l[i]? = k.l[i]?)) = mcEq m k := by
    obtain ⟨a0, a1, a2, a3, a4, a5⟩ := m
    obtain ⟨b0, b1, b2, b3, b4, b5⟩ := k
    simp [List.range_succ, mcEq, Mc.l]
  rw [e] at h
  rw [show (10000 : Nat) = 9999 + 1 from rfl, run_equalIn_array _ _ _ _ Try.underlying96 hi, cellsOf_u8]
  have h2 : ∀ z : Mc, (z.l.map vB).toArray = #[.int .u8 (z.a0.toNat : Int), .int .u8 (z.a1.toNat : Int), .int .u8 (z.a2.toNat : Int), .int .u8 (z.a3.toNat : Int), .int .u8 (z.a4.toNat : Int), .int .u8 (z.a5.toNat : Int)] := fun z => rfl
  rw [h2, h2] at h
  rw [h]
def hdM : Mc := ⟨3, 0, 0, 0, 0, 0⟩
def hdX : Nb := ⟨7, hdM, 310⟩
def hdQ : List UInt8 := arSaid 1 mcZero 7
def hdA1 : List UInt8 := hdQ.take 14 ++ ([10, 0, 0, 9] ++ hdQ.drop (14 + 4))
def hdA : List UInt8 := hdA1.take 24 ++ ([10, 0, 0, 1] ++ hdA1.drop (24 + 4))
theorem hd19_facts : hdQ.length = 28 ∧ hdA.take 6 = arBegins ∧ aFld hdA 6 2 = 1 ∧ aFld hdA 24 4 = 167772161 ∧ aFld hdA 14 4 = 167772169 ∧ hdQ.take 6 = arBegins ∧ aFld hdQ 6 2 = 1 ∧ aFld hdQ 24 4 ≠ 167772161 ∧ arLater 10 300 = 310 ∧ hdA1.length = 28 ∧ hdA.length = 28 ∧
    (arSaid 2 (mcAt hdA 8) 167772169).length = 28 ∧ (arSaid 2 (mcAt hdA 8) 167772169).getD 7 0 = 2 ∧ (arSaid 2 (mcAt hdA 8) 167772169).drop 24 = [10, 0, 0, 9] := by decide +kernel
theorem hd19_ok : nbOk [] = true ∧ nbOk [hdX] = true ∧ nbFind [hdX] 7 309 = some hdX ∧ nbFind [hdX] 7 310 = none := ⟨by decide +kernel, by decide +kernel, by rfl, by rfl⟩
set_option maxRecDepth 100000 in
theorem heads19 (w : World) : Calls Try.prog 52 #[] w (RetV w (.bool true)) := by
  obtain ⟨f1, f2, f3, f4, f5, f6, f7, f8, f9, f10, f11, f12, f13, f14⟩ := hd19_facts
  obtain ⟨g1, g2, g3, g4⟩ := hd19_ok
  have C1 : Hid (∀ W, Calls Try.prog 58 #[.slice none 0 0, .int .u32 7, .agg #[.int .u8 3, .int .u8 0, .int .u8 0, .int .u8 0, .int .u8 0, .int .u8 0], .int .u64 10] W (RetLn W [] hdX)) := Lib.hid (fun W => by have h := arpLearn_any none 0 0 [] 7 10 hdM W (rdNb_nil W) g1 (by omega) (by omega); rw [f9] at h; exact h)
  have C2 : Hid (∀ W A n c, RdNb W A n c [hdX] → Calls Try.prog 56 #[.slice A n c, .int .u32 7, .int .u64 309] W (RetFd W (some hdX))) := Lib.hid (fun W A n c h => g3 ▸ arpFind_any 7 309 A n c [hdX] W h)
  have C3 : Hid (∀ W A n c, RdNb W A n c [hdX] → Calls Try.prog 56 #[.slice A n c, .int .u32 7, .int .u64 310] W (RetFd W none)) := Lib.hid (fun W A n c h => g4 ▸ arpFind_any 7 310 A n c [hdX] W h)
  have C4 : Hid (∀ W, Calls Try.prog 99 #[.int .u32 7] W (RetB W hdQ)) := Lib.hid (fun W => arpAsk_any 7 W (by omega))
  have C5 : Hid (∀ W B k d, RdB W B k d hdA → Calls Try.prog 55 #[.slice none 0 0, .int .u64 5, .slice B k d] W (RetTk W [] ⟨167772169, mcAt hdA 8, arLater 5 300⟩ (arSaid 2 (mcAt hdA 8) 167772169))) := Lib.hid (fun W B k d h => f5 ▸ arpTake_ok none 0 0 [] 5 B k d hdA W (rdNb_nil W) g1 (by omega) h (by have := h.2.1; omega) f2 f3 f4)
  have C6 : Hid (∀ W B k d, RdB W B k d hdQ → Calls Try.prog 55 #[.slice none 0 0, .int .u64 5, .slice B k d] W (RetTe W none 0 0 180)) := Lib.hid (fun W B k d h => arpTake_drop none 0 0 [] 5 B k d hdQ W (rdNb_nil W) g1 h (by have := h.2.1; omega) f6 f7 f8)
  have C7 : Hid (∀ W B d, RdB W B 27 d (hdQ.take 27) → Calls Try.prog 55 #[.slice none 0 0, .int .u64 5, .slice B 27 d] W (RetTe W none 0 0 5)) := Lib.hid (fun W B d h => arpTake_short none 0 0 [] 5 B 27 d _ W (rdNb_nil W) g1 h (by omega))
  have C8 : Hid (∀ W A c, RdNb W A 1 c [hdX] → Calls Try.prog 100 #[.slice A 1 c, .int .u64 310] W (RetN0 W W.heap.size)) := Lib.hid (fun W A c h => arpExpire_any A c hdX 310 W h g2 (Nat.le_refl _))
  have C9 : Hid (∀ W A n c, RdNb W A n c [hdX] → Calls Try.prog 59 #[.slice A n c] W (RetV W (.bool true))) := Lib.hid (fun W A n c h => g2 ▸ arpCheck_any A n c [hdX] W h)
  have HQl := Lib.hid f1
  have HA1l := Lib.hid f10
  have HAl := Lib.hid f11
  have HSl := Lib.hid f12
  have HS7 := Lib.hid f13
  have HS24 := Lib.hid f14
  obtain ⟨S, hS⟩ : ∃ S, arSaid 2 (mcAt hdA 8) 167772169 = S := ⟨_, rfl⟩
  rw [hS] at C5 HSl HS7 HS24
  obtain ⟨Y, hY⟩ : ∃ Y : Nb, (⟨167772169, mcAt hdA 8, arLater 5 300⟩ : Nb) = Y := ⟨_, rfl⟩
  have HYi : Hid (Y.ip = 167772169) := Lib.hid (by rw [← hY])
  rw [hY] at C5
  obtain ⟨Qq, hQq⟩ : ∃ q, hdQ = q := ⟨_, rfl⟩
  have HA1d : Hid (Qq.take 14 ++ ([10, 0, 0, 9] ++ Qq.drop (14 + 4)) = hdA1) := Lib.hid (by rw [← hQq]; rfl)
  have HAd : Hid (hdA1.take 24 ++ ([10, 0, 0, 1] ++ hdA1.drop (24 + 4)) = hdA) := Lib.hid rfl
  rw [hQq] at C4 C6 C7 HQl
  clear f1 f2 f3 f4 f5 f6 f7 f8 f9 f10 f11 f12 f13 f14 g1 g2 g3 g4 hS hY hQq
  go_enter Try.func52, Try.ntmps52
  go_wp2_with fail
  refine (C1.out _).mono ?_
  rintro e w1 ⟨A1, n1, c1, m1, rfl, o1, ok1, L1, hb1⟩
  obtain rfl : m1 = [hdX] := learnt_nil L1
  obtain rfl : 1 = n1 := o1.lent
  have r1 := o1.rd ok1
  have R1 := Lib.hid r1
  clear o1 L1 ok1 r1
  go_wp2_with fail
  refine (C2.out _ _ _ _ R1.out).mono ?_
  rintro e w2 ⟨q2, hq2, rfl, hb2⟩
  obtain rfl : q2 = hdM := hq2
  have B2 := below_then hb1 hb2
  have R2 := Lib.hid (R1.out.below hb2)
  go_wp2_with fail
  refine named ?_
  intro W3 hW3
  have b3 : Below w2.heap.size w2 W3 := by rw [hW3]; exact (below_self _).alloc (Nat.le_refl _) _
  have q3 : W3.heap[w2.heap.size]? = some (.cells #[.int .u8 (hdM.a0.toNat : Int), .int .u8 (hdM.a1.toNat : Int), .int .u8 (hdM.a2.toNat : Int), .int .u8 (hdM.a3.toNat : Int), .int .u8 (hdM.a4.toNat : Int), .int .u8 (hdM.a5.toNat : Int)] 96 (0, 0)) := by rw [hW3]; exact drw_at _ rfl
  have Q3 := Lib.hid q3
  have B3 := below_then B2 b3
  have R3 := Lib.hid (R2.out.below b3)
  clear hW3 q3
  refine (C3.out _ _ _ _ R3.out).mono ?_
  rintro e w4 ⟨q4, hq4, rfl, hb4⟩
  obtain rfl : q4 = mcZero := hq4
  have B4 := below_then B3 hb4
  go_wp2_with fail
  refine named ?_
  intro W5 hW5
  have b5 : Below w4.heap.size w4 W5 := by rw [hW5]; exact (below_self _).alloc (Nat.le_refl _) _
  have B5 := below_then B4 b5
  have R5 := Lib.hid ((R3.out.below hb4).below b5)
  have Q5 := Lib.hid (drw_up (drw_up Q3.out hb4) b5)
  clear hW5
  refine (C4.out _).mono ?_
  rintro e w6 ⟨A6, n6, c6, rfl, o6, hb6⟩
  have B6 := below_then B5 hb6
  have R6 := Lib.hid (R5.out.below hb6)
  have Q6 := Lib.hid (drw_up Q5.out hb6)
  obtain rfl : 28 = n6 := by have := o6.len; have := HQl.out; omega
  have r6 := Lib.hid o6.rd
  clear o6
  go_wp2_with (first
    | (at_builtin; refine wp_appB rfl _ _ rfl ((below_self w6).alloc (Nat.le_refl _) _) (Nat.le_refl _) (by simp) _ 0 _ [] rfl (own0 w6) A6 28 c6 Qq rfl (r6.out.alloc _) (by omega) 28 Qq rfl rfl ?_; intro A7 c7 w7 o7 hb7 hg7; obtain ⟨g7, hA7, hg7l, hg7u⟩ := o7.addr (by omega); subst hA7; have hc7 := o7.rd.2.2.1; have hc7m := o7.rd.c63; have k1 : ¬ (c7 = 14) := (by omega); have k2 : ¬ (c7 = 24) := (by omega); clear hg7)
    | ((with_reducible refine wp_copyB rfl (.tmp 37) (.tmp 38) rfl (hb7.alloc hb7.size _) (Nat.le_refl _) (some ⟨g7, 0, none⟩) 28 c7 Qq (o7.alloc _) 14 4 (some ⟨g7, 14, none⟩) 14 (c7 - 14) rfl (fun _ => ⟨g7, rfl, rfl⟩) _ 4 [10, 0, 0, 9] rfl (RdB.litM _ _ (0, 0) [10, 0, 0, 9] 4 rfl rfl (by simp [maxLen])) (by omega) (by omega) ?_); intro w8 o8 hb8; rw [HA1d.out] at o8)
    | ((with_reducible refine wp_copyB rfl (.tmp 41) (.tmp 42) rfl (hb8.alloc hb8.size _) (Nat.le_refl _) (some ⟨g7, 0, none⟩) 28 c7 hdA1 (o8.alloc _) 24 4 (some ⟨g7, 24, none⟩) 4 (c7 - 24) rfl (fun _ => ⟨g7, rfl, rfl⟩) _ 4 [10, 0, 0, 1] rfl (RdB.litM _ _ (0, 0) [10, 0, 0, 1] 4 rfl rfl (by simp [maxLen])) (by omega) (by omega) ?_); intro w9 o9 hb9; rw [HAd.out] at o9))
  have B9 := below_then B6 hb9
  have R9 := Lib.hid (R6.out.below hb9)
  have Q9 := Lib.hid (drw_up Q6.out hb9)
  have r9 := Lib.hid (r6.out.below hb9)
  have ra := Lib.hid o9.rd
  clear o9 o8 o7 hb7 hb8 k1 k2
  refine (C5.out _ _ _ _ ra.out).mono ?_
  rintro e w10 ⟨A10, n10, c10, m10, K10, k10, d10, rfl, o10, ok10, L10, ob10, hb10⟩
  obtain rfl : m10 = [Y] := learnt_nil L10
  obtain rfl : 1 = n10 := o10.lent
  obtain rfl : 28 = k10 := by have := ob10.len; have := HSl.out; omega
  have r10 := Lib.hid (o10.rd ok10)
  have rb10 := Lib.hid ob10.rd
  have B10 := below_then B9 hb10
  have R10 := Lib.hid (R9.out.below hb10)
  have Q10 := Lib.hid (drw_up Q9.out hb10)
  have rq10 := Lib.hid (r9.out.below hb10)
  clear o10 ok10 L10 ob10
  go_wp2_with fail
  refine (C6.out _ _ _ _ rq10.out).mono ?_
  rintro e w11 ⟨rfl, hb11⟩
  have B11 := below_then B10 hb11
  have hc6 := rq10.out.2.2.1
  have hc6m := rq10.out.c63
  have hc6i : (27 : Int) ≤ (c6 : Int) := by omega
  go_wp2_with fail
  refine (C7.out _ _ _ ((rq10.out.below hb11).take 27 (by omega))).mono ?_
  rintro e w12 ⟨rfl, hb12⟩
  have B12 := below_then B11 hb12
  have hb1012 := below_then hb11 hb12
  have R12 := Lib.hid (R10.out.below hb1012)
  have Q12 := Lib.hid (drw_up Q10.out hb1012)
  have r12 := r10.out.below hb1012
  have rb12 := rb10.out.below hb1012
  obtain ⟨⟨k0, k1, k2, k3, k4, k5⟩, _⟩ := mac_open Q12.out
  obtain ⟨ba, oa, rfl, hba, hoka, hina⟩ := r12.nb 0 (by omega)
  have ha0 : w12.cell? ⟨ba, oa, none⟩ = some (.int .u32 (Y.ip : Int)) := hina.2 0 _ rfl
  rw [HYi.out] at ha0
  obtain ⟨bb, ob, u, rfl, hbb, hub, hcb⟩ := rb12.at_ 7 (by omega)
  obtain rfl : u = 2 := by have h := HS7.out; rw [List.getD, hub] at h; exact h
  have hcb : w12.cell? ⟨bb, ob + 7, none⟩ = some (.int .u8 2) := hcb
  have hd10 := rb12.2.2.1
  have hd10m := rb12.c63
  have kd : ¬ (d10 = 24) := by omega
  have rc12 := Lib.hid (rb12.cutS 24 4 (by omega) (by omega))
  rw [HS24.out] at rc12
  have q1 : ∀ W : World, (Op.equalIn 10000 96 (.agg #[.int .u8 (hdM.a0.toNat : Int), .int .u8 (hdM.a1.toNat : Int), .int .u8 (hdM.a2.toNat : Int), .int .u8 (hdM.a3.toNat : Int), .int .u8 (hdM.a4.toNat : Int), .int .u8 (hdM.a5.toNat : Int)]) (.agg #[.int .u8 3, .int .u8 0, .int .u8 0, .int .u8 0, .int .u8 0, .int .u8 0])).run Try.prog W = .ok true W := fun W => by
    have h := run_eqIn_mac W hdM hdM
    rw [mcEq_self] at h
    exact h
  clear hub rb12 r12 hina hoka
  go_wp2_with fail
  refine named ?_
  intro W13 hW13
  have b13 : Below w12.heap.size w12 W13 := by rw [hW13]; exact (below_self _).alloc (Nat.le_refl _) _
  have rl13 : RdB W13 (some ⟨w12.heap.size, 0, none⟩) 4 4 [10, 0, 0, 9] := by rw [hW13]; exact RdB.litM _ _ (0, 0) [10, 0, 0, 9] 4 rfl rfl (by simp [maxLen])
  have B13 := below_then B12 b13
  have R13 := Lib.hid (R12.out.below b13)
  have hh := bytes_any (some ⟨bb, ob + 24, none⟩) (some ⟨w12.heap.size, 0, none⟩) 4 (d10 - 24) 4 4 [10, 0, 0, 9] [10, 0, 0, 9] W13 (rc12.out.below b13) rl13
  rw [decide_eq_true rfl] at hh
  refine hh.mono ?_
  clear hh hW13 rl13
  rintro e w14 ⟨rfl, rfl⟩
  go_wp2_with fail
  refine (C8.out _ _ _ R13.out).mono ?_
  rintro e w15 ⟨A15, c15, rfl, hb15⟩
  have B15 := below_then B13 hb15
  go_wp2_with fail
  refine (C9.out _ _ _ _ (R13.out.below hb15)).mono ?_
  rintro e w16 ⟨rfl, hb16⟩
  go_wp2_with fail
  go_ret
  exact ⟨rfl, below_then B15 hb16⟩
end Go.Proofs.Ytnfepikgbdeomaa
