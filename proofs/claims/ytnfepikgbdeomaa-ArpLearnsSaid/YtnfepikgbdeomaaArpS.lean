/-
  Layer 19: arp: the law ArpLearns.
-/
import Derived.Test.YtnfepikgbdeomaaArpR
namespace Go.Proofs.Ytnfepikgbdeomaa
set_option maxRecDepth 20000
open Go.RowKit
set_option linter.unusedVariables false
set_option linter.unusedSimpArgs false
set_option maxHeartbeats 8000000

set_option maxRecDepth 100000 in
theorem arpLearns_early (A : Option Addr) (n c : Nat) (l : List Nb) (ip : Nat) (m : Mc) (now other : Nat) (w : World) (hr : RdNb w A n c l) (h : nbOk l = false ∨ (nbOk l = true ∧ 549755813888 ≤ now)) :
    Calls Try.prog 11 #[.slice A n c, .int .u32 (ip : Int), .agg #[.int .u8 (m.a0.toNat : Int), .int .u8 (m.a1.toNat : Int), .int .u8 (m.a2.toNat : Int), .int .u8 (m.a3.toNat : Int), .int .u8 (m.a4.toNat : Int), .int .u8 (m.a5.toNat : Int)], .int .u64 (now : Int), .int .u32 (other : Int)] w (RetV w (.bool true)) := by
  obtain ⟨V, hV⟩ : ∃ V, V = w.alloc (.cells #[.int .u8 (m.a0.toNat : Int), .int .u8 (m.a1.toNat : Int), .int .u8 (m.a2.toNat : Int), .int .u8 (m.a3.toNat : Int), .int .u8 (m.a4.toNat : Int), .int .u8 (m.a5.toNat : Int)] 96) := ⟨_, rfl⟩
  have bV : Below w.heap.size w V := by rw [hV]; exact (below_self w).alloc (Nat.le_refl _) _
  have HV := Lib.hid hV
  have C1 := Lib.hid (refCheck19_any A n c l V (hr.below bV))
  clear hV hr
  rcases h with h | ⟨h1, h2⟩
  · rw [h] at C1
    clear h
    go_enter Try.func11, Try.ntmps11
    go_wp2_with fail
    rw [← HV.out]
    refine C1.out.mono ?_
    rintro e w1 ⟨rfl, hb1⟩
    have B1 := below_then bV hb1
    go_wp2_with fail
    refine (heads19 _).mono ?_
    rintro e w9 ⟨rfl, hb9⟩
    go_wp2_with fail
    go_ret
    exact ⟨rfl, below_then B1 hb9⟩
  · rw [h1] at C1
    have d1 : decide ((549755813888 : Int) ≤ (now : Int)) = true := decide_eq_true (by omega)
    clear h1 h2
    go_enter Try.func11, Try.ntmps11
    go_wp2_with fail
    rw [← HV.out]
    refine C1.out.mono ?_
    rintro e w1 ⟨rfl, hb1⟩
    have B1 := below_then bV hb1
    go_wp2_with fail
    refine (heads19 _).mono ?_
    rintro e w9 ⟨rfl, hb9⟩
    go_wp2_with fail
    go_ret
    exact ⟨rfl, below_then B1 hb9⟩
theorem nbFind_of {m : List Nb} {x : Nb} (h : NbS m) (hx : x ∈ m) (ip now : Nat) (hi : x.ip = ip) : nbFind m ip now = if now < x.t then some x else none := by
  unfold nbFind
  rw [if_pos (nbOk_of h), ← hi]
  exact find_ip h hx now
/-- The round's state: how many are gone. -/
def LrI (W : World) (l : List Nb) (o : Option Nb) (g i : Value) (wr : World) : Prop := ∃ gn k : Nat, k ≤ l.length ∧ g = .int .i64 (gn : Int) ∧ i = .int .i64 (k : Int) ∧ GoneI l o k gn ∧ Below W.heap.size W wr
theorem goneI_le {l : List Nb} {o : Option Nb} {i g : Nat} (h : GoneI l o i g) : g ≤ 1 ∧ (g = 0 ∨ l.length = 8) := by
  rcases h with rfl | ⟨rfl, h, _⟩
  · exact ⟨by omega, .inl rfl⟩
  · exact ⟨by omega, .inr h⟩
set_option maxRecDepth 100000 in
theorem arpLearns_main (A : Option Addr) (n c : Nat) (l : List Nb) (ip : Nat) (m : Mc) (now other : Nat) (w : World) (hr : RdNb w A n c l) (hok : nbOk l = true) (hip : ip < 4294967296) (hnow : now < 549755813888) :
    Calls Try.prog 11 #[.slice A n c, .int .u32 (ip : Int), .agg #[.int .u8 (m.a0.toNat : Int), .int .u8 (m.a1.toNat : Int), .int .u8 (m.a2.toNat : Int), .int .u8 (m.a3.toNat : Int), .int .u8 (m.a4.toNat : Int), .int .u8 (m.a5.toNat : Int)], .int .u64 (now : Int), .int .u32 (other : Int)] w (RetV w (.bool true)) := by
  have hn63 := hr.n63
  have hS := nbS_of hok
  have hlen := hr.2.1
  obtain ⟨V, hV⟩ : ∃ V, V = w.alloc (.cells #[.int .u8 (m.a0.toNat : Int), .int .u8 (m.a1.toNat : Int), .int .u8 (m.a2.toNat : Int), .int .u8 (m.a3.toNat : Int), .int .u8 (m.a4.toNat : Int), .int .u8 (m.a5.toNat : Int)] 96) := ⟨_, rfl⟩
  have bV : Below w.heap.size w V := by rw [hV]; exact (below_self w).alloc (Nat.le_refl _) _
  have qV : V.heap[w.heap.size]? = some (.cells #[.int .u8 (m.a0.toNat : Int), .int .u8 (m.a1.toNat : Int), .int .u8 (m.a2.toNat : Int), .int .u8 (m.a3.toNat : Int), .int .u8 (m.a4.toNat : Int), .int .u8 (m.a5.toNat : Int)] 96 (0, 0)) := by rw [hV]; exact drw_at _ rfl
  have HV := Lib.hid hV
  have HQ := Lib.hid qV
  have HR := Lib.hid hr
  have HOK := Lib.hid hok
  have HS := Lib.hid hS
  have HL := Lib.hid hlen
  have C1 := Lib.hid (refCheck19_any A n c l V (hr.below bV))
  rw [hok] at C1
  have d1 : decide ((549755813888 : Int) ≤ (now : Int)) = false := decide_eq_false (by omega)
  have hlat : arLater now 300 = now + 300 := by unfold arLater; rw [if_neg (by omega)]
  have C2 := Lib.hid (fun W (q : RdNb W A n c l) => hlat ▸ arpLearn_any A n c l ip now m W q hok hip (by omega))
  obtain ⟨x, hx⟩ : ∃ x : Nb, (⟨ip, m, now + 300⟩ : Nb) = x := ⟨_, rfl⟩
  have HXi : Hid (x.ip = ip ∧ x.m = m ∧ x.t = now + 300) := Lib.hid (by rw [← hx]; exact ⟨rfl, rfl, rfl⟩)
  rw [hx] at C2
  have w1 : IntKind.u64.wrap ((now : Int) + 299) = ((now + 299 : Nat) : Int) := by rw [IntKind.wrap_u64]; omega
  have w2 : IntKind.u64.wrap ((now : Int) + 300) = ((now + 300 : Nat) : Int) := by rw [IntKind.wrap_u64]; omega
  obtain ⟨N1, hN1⟩ : ∃ N, N = now + 299 := ⟨_, rfl⟩
  obtain ⟨N2, hN2⟩ : ∃ N, N = now + 300 := ⟨_, rfl⟩
  rw [← hN1] at w1
  rw [← hN2] at w2
  have HN1 := Lib.hid hN1
  have HN2 := Lib.hid hN2
  clear hV qV hr hok hS hlen hlat hx hN1 hN2
  go_enter Try.func11, Try.ntmps11
  go_wp2_with fail
  rw [← HV.out]
  refine C1.out.mono ?_
  rintro e w1 ⟨rfl, hb1⟩
  have B1 := below_then bV hb1
  have M1 := Lib.hid (drw_up HQ.out hb1)
  obtain ⟨⟨k0, k1, k2, k3, k4, k5⟩, _⟩ := mac_open M1.out
  go_wp2_with fail
  refine (C2.out w1 (HR.out.below B1)).mono ?_
  rintro e w2 ⟨A2, n2, c2, l2, rfl, o2, ok2, L2, hb2⟩
  have B2 := below_then B1 hb2
  have M2 := Lib.hid (drw_up M1.out hb2)
  have R2 := Lib.hid (o2.rd ok2)
  have HL2 := Lib.hid L2
  clear o2 ok2 L2 k0 k1 k2 k3 k4 k5
  have F1 : Hid (nbFind l2 ip N1 = some x) := Lib.hid (by rw [nbFind_of HL2.out.s HL2.out.mem ip N1 HXi.out.1, if_pos (by rw [HXi.out.2.2, HN1.out]; omega)])
  have F2 : Hid (nbFind l2 ip N2 = none) := Lib.hid (by rw [nbFind_of HL2.out.s HL2.out.mem ip N2 HXi.out.1, if_neg (by rw [HXi.out.2.2, HN2.out]; omega)])
  have C3 := Lib.hid (fun W (q : RdNb W A2 n2 c2 l2) => F1.out ▸ arpFind_any ip N1 A2 n2 c2 l2 W q)
  have C4 := Lib.hid (fun W (q : RdNb W A2 n2 c2 l2) => F2.out ▸ arpFind_any ip N2 A2 n2 c2 l2 W q)
  go_wp2_with fail
  refine (C3.out w2 R2.out).mono ?_
  rintro e w3 ⟨m3, hm3, rfl, hb3⟩
  obtain rfl : m3 = m := hm3.trans HXi.out.2.1
  clear hm3
  have B3 := below_then B2 hb3
  go_wp2_with fail
  refine named ?_
  intro W4 hW4
  have b4 : Below w3.heap.size w3 W4 := by rw [hW4]; exact (below_self _).alloc (Nat.le_refl _) _
  have q4 : W4.heap[w3.heap.size]? = some (.cells #[.int .u8 (m3.a0.toNat : Int), .int .u8 (m3.a1.toNat : Int), .int .u8 (m3.a2.toNat : Int), .int .u8 (m3.a3.toNat : Int), .int .u8 (m3.a4.toNat : Int), .int .u8 (m3.a5.toNat : Int)] 96 (0, 0)) := by rw [hW4]; exact drw_at _ rfl
  have B4 := below_then B3 b4
  have M4 := Lib.hid (drw_up (drw_up M2.out hb3) b4)
  have N4 := Lib.hid q4
  have R4 := Lib.hid ((R2.out.below hb3).below b4)
  clear hW4 q4
  refine (C4.out W4 R4.out).mono ?_
  rintro e w5 ⟨m5, hm5, rfl, hb5⟩
  obtain rfl : m5 = mcZero := hm5
  have B5 := below_then B4 hb5
  go_wp2_with fail
  obtain ⟨W6, hW6⟩ : ∃ W, W = w5.alloc (.cells #[.int .u8 (mcZero.a0.toNat : Int), .int .u8 (mcZero.a1.toNat : Int), .int .u8 (mcZero.a2.toNat : Int), .int .u8 (mcZero.a3.toNat : Int), .int .u8 (mcZero.a4.toNat : Int), .int .u8 (mcZero.a5.toNat : Int)] 96) := ⟨_, rfl⟩
  have b6 : Below w5.heap.size w5 W6 := by rw [hW6]; exact (below_self _).alloc (Nat.le_refl _) _
  rw [← hW6]
  have B6 := below_then B5 b6
  have M6 := Lib.hid (drw_up (drw_up M4.out hb5) b6)
  have N6 := Lib.hid (drw_up (drw_up N4.out hb5) b6)
  have R6 := Lib.hid ((R4.out.below hb5).below b6)
  clear hW6
  obtain ⟨o, ho1, ho2⟩ := HL2.out.gone
  have HO1 := Lib.hid ho1
  have HO2 := Lib.hid ho2
  clear ho1 ho2
  go_loopw [16, 17] (LrI W6 l o) (fun g i _ => n - (intOf i).toNat)
  case atStart => exact ⟨0, 0, by omega, rfl, rfl, .inl rfl, Below.refl _ _⟩
  case round =>
  obtain ⟨gn, k, hk, rfl, rfl, hg, hB⟩ := hrel
  have HG := Lib.hid hg
  have hgs := goneI_le hg
  have hg1 := hgs.1
  have HGS := Lib.hid hgs
  clear hg hgs
  by_cases hlt : k < n
  · have RL := HR.out.below (below_then B6 hB)
    obtain ⟨bl, ol, rfl, hbl, hoky, hiny⟩ := RL.nb k hlt
    have hymem : l.getD k nb0 ∈ l := by
      rw [List.getD, List.getElem?_eq_getElem (by rw [HL.out]; exact hlt)]; exact List.getElem_mem _
    obtain ⟨y, hy⟩ : ∃ y, l.getD k nb0 = y := ⟨_, rfl⟩
    rw [hy] at hoky hiny hymem
    have hy0 : wr.cell? ⟨bl, ol + k * 8, none⟩ = some (.int .u32 (y.ip : Int)) := hiny.2 0 _ rfl
    have lk : (k : Int) < (n : Int) := by omega
    have hks : k + 1 ≤ l.length := by rw [HL.out]; exact hlt
    have hkl : k < l.length := hks
    have HY := Lib.hid hy
    have HYM := Lib.hid hymem
    obtain ⟨f2, hf2⟩ : ∃ f, nbFind l2 y.ip 0 = f := ⟨_, rfl⟩
    have C5 := Lib.hid (fun W (q : RdNb W (some ⟨bl, ol, none⟩) n c l) => nbFind_of HS.out hymem y.ip 0 rfl ▸ arpFind_any y.ip 0 (some ⟨bl, ol, none⟩) n c l W q)
    have C6 := Lib.hid (fun W (q : RdNb W A2 n2 c2 l2) => hf2 ▸ arpFind_any y.ip 0 A2 n2 c2 l2 W q)
    have HF2 : Hid (y.ip ≠ ip → 0 < y.t → some y ≠ o → f2 = some y) := Lib.hid (fun h1 h2 h3 => by
      rw [← hf2, nbFind_of HL2.out.s (HO1.out y hymem (by rw [HXi.out.1]; exact h1) h3) y.ip 0 rfl, if_pos h2])
    have HR7 := Lib.hid RL
    have RL2 := Lib.hid (R6.out.below hB)
    have hbl2 := Lib.hid hbl
    have wk : IntKind.i64.wrap ((k : Int) + 1) = (k : Int) + 1 := by rw [IntKind.wrap_i64]; omega
    clear hy hymem hf2 RL hiny
    go_wp2_with fail
    by_cases hyt : 0 < y.t
    · rw [if_pos hyt] at C5
      refine (C5.out wr HR7.out).mono ?_
      rintro e w7 ⟨m7, hm7, rfl, hb7⟩
      change m7 = y.m at hm7
      have HM7 := Lib.hid hm7
      clear hm7
      obtain ⟨W8, hW8⟩ : ∃ W, W = w7.alloc (.cells #[.int .u8 (m7.a0.toNat : Int), .int .u8 (m7.a1.toNat : Int), .int .u8 (m7.a2.toNat : Int), .int .u8 (m7.a3.toNat : Int), .int .u8 (m7.a4.toNat : Int), .int .u8 (m7.a5.toNat : Int)] 96) := ⟨_, rfl⟩
      have b8 : Below w7.heap.size w7 W8 := by rw [hW8]; exact (below_self _).alloc (Nat.le_refl _) _
      have q8 : W8.heap[w7.heap.size]? = some (.cells #[.int .u8 (m7.a0.toNat : Int), .int .u8 (m7.a1.toNat : Int), .int .u8 (m7.a2.toNat : Int), .int .u8 (m7.a3.toNat : Int), .int .u8 (m7.a4.toNat : Int), .int .u8 (m7.a5.toNat : Int)] 96 (0, 0)) := by rw [hW8]; exact drw_at _ rfl
      have HW8 := Lib.hid hW8
      have hB78 := below_then hb7 b8
      have hy8 := (hB78.cell (p := ⟨bl, ol + k * 8, none⟩) hbl).trans hy0
      have RL8 := Lib.hid (RL2.out.below hB78)
      have Q8 := Lib.hid q8
      rw [hW8] at hy8
      clear hW8 q8
      go_wp2_with fail
      rw [← HW8.out]
      clear hy8
      refine (C6.out W8 RL8.out).mono ?_
      rintro e w9 ⟨m9, hm9, rfl, hb9⟩
      have HM9 := Lib.hid hm9
      obtain ⟨W10, hW10⟩ : ∃ W, W = w9.alloc (.cells #[.int .u8 (m9.a0.toNat : Int), .int .u8 (m9.a1.toNat : Int), .int .u8 (m9.a2.toNat : Int), .int .u8 (m9.a3.toNat : Int), .int .u8 (m9.a4.toNat : Int), .int .u8 (m9.a5.toNat : Int)] 96) := ⟨_, rfl⟩
      have b10 : Below w9.heap.size w9 W10 := by rw [hW10]; exact (below_self _).alloc (Nat.le_refl _) _
      have q10 : W10.heap[w9.heap.size]? = some (.cells #[.int .u8 (m9.a0.toNat : Int), .int .u8 (m9.a1.toNat : Int), .int .u8 (m9.a2.toNat : Int), .int .u8 (m9.a3.toNat : Int), .int .u8 (m9.a4.toNat : Int), .int .u8 (m9.a5.toNat : Int)] 96 (0, 0)) := by rw [hW10]; exact drw_at _ rfl
      have hB10 := below_then hB78 (below_then hb9 b10)
      have hy10 := (hB10.cell (p := ⟨bl, ol + k * 8, none⟩) hbl).trans hy0
      obtain ⟨⟨k0, k1, k2, k3, k4, k5⟩, _⟩ := mac_open (drw_up (drw_up Q8.out hb9) b10)
      obtain ⟨⟨p0, p1, p2, p3, p4, p5⟩, _⟩ := mac_open q10
      have HW10 := Lib.hid hW10
      have q1 : ∀ W : World, (Op.equalIn 10000 96 (.agg #[.int .u8 (m7.a0.toNat : Int), .int .u8 (m7.a1.toNat : Int), .int .u8 (m7.a2.toNat : Int), .int .u8 (m7.a3.toNat : Int), .int .u8 (m7.a4.toNat : Int), .int .u8 (m7.a5.toNat : Int)]) (.agg #[.int .u8 (m9.a0.toNat : Int), .int .u8 (m9.a1.toNat : Int), .int .u8 (m9.a2.toNat : Int), .int .u8 (m9.a3.toNat : Int), .int .u8 (m9.a4.toNat : Int), .int .u8 (m9.a5.toNat : Int)])).run Try.prog W = .ok (mcEq m7 m9) W := fun W => run_eqIn_mac W m7 m9
      have HBF := Lib.hid (below_then hB hB10)
      rw [hW10] at hy10 k0 k1 k2 k3 k4 k5 p0 p1 p2 p3 p4 p5
      clear hW10 q10 hm9 hy0
      by_cases hyi : y.ip = ip
      · have e1 : ((y.ip : Int) != (ip : Int)) = false := by simp [hyi]
        clear hyi
        go_wp2_with fail
        go_roundw
        case rel => exact ⟨gn, k + 1, hks, rfl, by go_num, goneI_keep HG.out, (by rw [← HW10.out]; exact HBF.out)⟩
        case measure => simp [intOf]; omega
      · have e1 : ((y.ip : Int) != (ip : Int)) = true := by simp; omega
        have HYI := Lib.hid hyi
        clear hyi
        cases f2 with
        | none =>
          have hoo : Hid (o = some y) := Lib.hid (by
            by_cases h : some y = o
            · exact h.symm
            · have := HF2.out HYI.out hyt h; cases this)
          have h8 := HO2.out (by rw [hoo.out]; simp)
          have wg : IntKind.i64.wrap ((gn : Int) + 1) = (gn : Int) + 1 := by rw [IntKind.wrap_i64]; omega
          have HG2 := Lib.hid (goneI_step HS.out HG.out hkl (by rw [HY.out]; exact hoo.out) h8)
          clear h8
          go_wp2_with fail
          go_roundw
          case rel => exact ⟨gn + 1, k + 1, hks, by go_num, by go_num, HG2.out, (by rw [← HW10.out]; exact HBF.out)⟩
          case measure => simp [intOf]; omega
        | some z =>
          have hm9z : m9 = z.m := HM9.out
          by_cases hoy : some y = o
          · cases hE : mcEq m7 m9 with
            | true =>
              rw [hE] at q1
              clear hE hm9z hoy
              go_wp2_with fail
              go_roundw
              case rel => exact ⟨gn, k + 1, hks, rfl, by go_num, goneI_keep HG.out, (by rw [← HW10.out]; exact HBF.out)⟩
              case measure => simp [intOf]; omega
            | false =>
              rw [hE] at q1
              have h8 := HO2.out (by rw [← hoy]; simp)
              have wg : IntKind.i64.wrap ((gn : Int) + 1) = (gn : Int) + 1 := by rw [IntKind.wrap_i64]; omega
              have HG2 := Lib.hid (goneI_step HS.out HG.out hkl (by rw [HY.out]; exact hoy.symm) h8)
              clear h8 hE hm9z hoy
              go_wp2_with fail
              go_roundw
              case rel => exact ⟨gn + 1, k + 1, hks, by go_num, by go_num, HG2.out, (by rw [← HW10.out]; exact HBF.out)⟩
              case measure => simp [intOf]; omega
          · have hz := HF2.out HYI.out hyt hoy
            injection hz with hz
            have hE : mcEq m7 m9 = true := by rw [hm9z, hz, HM7.out]; exact mcEq_self _
            rw [hE] at q1
            clear hE hm9z hoy hz
            go_wp2_with fail
            go_roundw
            case rel => exact ⟨gn, k + 1, hks, rfl, by go_num, goneI_keep HG.out, (by rw [← HW10.out]; exact HBF.out)⟩
            case measure => simp [intOf]; omega
    · rw [if_neg hyt] at C5
      refine (C5.out wr HR7.out).mono ?_
      rintro e w7 ⟨m7, hm7, rfl, hb7⟩
      change m7 = mcZero at hm7
      have HM7 := Lib.hid hm7
      clear hm7
      obtain ⟨W8, hW8⟩ : ∃ W, W = w7.alloc (.cells #[.int .u8 (m7.a0.toNat : Int), .int .u8 (m7.a1.toNat : Int), .int .u8 (m7.a2.toNat : Int), .int .u8 (m7.a3.toNat : Int), .int .u8 (m7.a4.toNat : Int), .int .u8 (m7.a5.toNat : Int)] 96) := ⟨_, rfl⟩
      have b8 : Below w7.heap.size w7 W8 := by rw [hW8]; exact (below_self _).alloc (Nat.le_refl _) _
      have HW8 := Lib.hid hW8
      have hB78 := below_then hb7 b8
      have hy8 := (hB78.cell (p := ⟨bl, ol + k * 8, none⟩) hbl).trans hy0
      have RL8 := Lib.hid (RL2.out.below hB78)
      rw [hW8] at hy8
      clear hW8
      go_wp2_with fail
      rw [← HW8.out]
      clear hy8
      refine (C6.out W8 RL8.out).mono ?_
      rintro e w9 ⟨m9, hm9, rfl, hb9⟩
      have HM9 := Lib.hid hm9
      obtain ⟨W10, hW10⟩ : ∃ W, W = w9.alloc (.cells #[.int .u8 (m9.a0.toNat : Int), .int .u8 (m9.a1.toNat : Int), .int .u8 (m9.a2.toNat : Int), .int .u8 (m9.a3.toNat : Int), .int .u8 (m9.a4.toNat : Int), .int .u8 (m9.a5.toNat : Int)] 96) := ⟨_, rfl⟩
      have b10 : Below w9.heap.size w9 W10 := by rw [hW10]; exact (below_self _).alloc (Nat.le_refl _) _
      have hB10 := below_then hB78 (below_then hb9 b10)
      have HW10 := Lib.hid hW10
      have HBF := Lib.hid (below_then hB hB10)
      clear hW10 hm9 hy0
      go_wp2_with fail
      go_roundw
      case rel => exact ⟨gn, k + 1, hks, rfl, by go_num, goneI_keep HG.out, (by rw [← HW10.out]; exact HBF.out)⟩
      case measure => simp [intOf]; omega
  · obtain rfl : n = k := by have := HL.out; omega
    have BE := below_then B6 hB
    have RE := Lib.hid (R6.out.below hB)
    obtain ⟨⟨k0, k1, k2, k3, k4, k5⟩, _⟩ := mac_open (drw_up M6.out hB)
    obtain ⟨⟨p0, p1, p2, p3, p4, p5⟩, _⟩ := mac_open (drw_up N6.out hB)
    have C9 := Lib.hid (fun W (q : RdNb W A2 n2 c2 l2) => nbOk_of HL2.out.s ▸ arpCheck_any A2 n2 c2 l2 W q)
    have g8 := HGS.out.2
    rw [HL.out] at g8
    have G8 := Lib.hid g8
    have dg : decide ((gn : Int) ≤ 1) = true := decide_eq_true (by omega)
    have hlk1 : w.heap.size < wr.heap.size := drw_lt (drw_up M6.out hB)
    have hlk2 : w3.heap.size < wr.heap.size := drw_lt (drw_up N6.out hB)
    clear g8
    go_wp2_with fail
    refine (C9.out wr RE.out).mono ?_
    rintro e w20 ⟨rfl, hb20⟩
    have BE2 := below_then BE hb20
    obtain ⟨⟨k0, k1, k2, k3, k4, k5⟩, _⟩ := mac_open (drw_up (drw_up M6.out hB) hb20)
    obtain ⟨⟨p0, p1, p2, p3, p4, p5⟩, _⟩ := mac_open (drw_up (drw_up N6.out hB) hb20)
    have q1 : ∀ W : World, (Op.equalIn 10000 96 (.agg #[.int .u8 (m3.a0.toNat : Int), .int .u8 (m3.a1.toNat : Int), .int .u8 (m3.a2.toNat : Int), .int .u8 (m3.a3.toNat : Int), .int .u8 (m3.a4.toNat : Int), .int .u8 (m3.a5.toNat : Int)]) (.agg #[.int .u8 (m3.a0.toNat : Int), .int .u8 (m3.a1.toNat : Int), .int .u8 (m3.a2.toNat : Int), .int .u8 (m3.a3.toNat : Int), .int .u8 (m3.a4.toNat : Int), .int .u8 (m3.a5.toNat : Int)])).run Try.prog W = .ok true W := fun W => by
      have h := run_eqIn_mac W m3 m3
      rw [mcEq_self] at h
      exact h
    rcases G8.out with rfl | rfl
    · go_wp2_with fail
      refine (heads19 _).mono ?_
      rintro e w21 ⟨rfl, hb21⟩
      go_wp2_with fail
      go_ret
      exact ⟨rfl, below_then BE2 hb21⟩
    · by_cases hg0 : gn = 0
      · subst hg0
        go_wp2_with fail
        refine (heads19 _).mono ?_
        rintro e w21 ⟨rfl, hb21⟩
        go_wp2_with fail
        go_ret
        exact ⟨rfl, below_then BE2 hb21⟩
      · have dg0 : ((gn : Int) == 0) = false := beq_eq_false_iff_ne.2 (by omega)
        clear hg0
        go_wp2_with fail
        refine (heads19 _).mono ?_
        rintro e w21 ⟨rfl, hb21⟩
        go_wp2_with fail
        go_ret
        exact ⟨rfl, below_then BE2 hb21⟩
theorem arpLearns_law (A : Option Addr) (n c : Nat) (l : List Nb) (ip : Nat) (m : Mc) (now other : Nat) (w : World) (hr : RdNb w A n c l) (hip : ip < 4294967296) (hnow : now < 18446744073709551616) (ho : other < 4294967296) :
    Calls Try.prog 11 #[.slice A n c, .int .u32 (ip : Int), .agg #[.int .u8 (m.a0.toNat : Int), .int .u8 (m.a1.toNat : Int), .int .u8 (m.a2.toNat : Int), .int .u8 (m.a3.toNat : Int), .int .u8 (m.a4.toNat : Int), .int .u8 (m.a5.toNat : Int)], .int .u64 (now : Int), .int .u32 (other : Int)] w (RetV w (.bool true)) := by
  cases hok : nbOk l with
  | false => exact arpLearns_early A n c l ip m now other w hr (.inl hok)
  | true =>
    rcases Nat.lt_or_ge now 549755813888 with h | h
    · exact arpLearns_main A n c l ip m now other w hr hok hip h
    · exact arpLearns_early A n c l ip m now other w hr (.inr ⟨hok, h⟩)
end Go.Proofs.Ytnfepikgbdeomaa
