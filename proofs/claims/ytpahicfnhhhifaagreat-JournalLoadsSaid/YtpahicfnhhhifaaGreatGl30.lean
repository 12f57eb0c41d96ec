/-
 Proved here, for the statement JournalLoads:
 Layer 14 (the document): Load.
 Layer 14 (plain): a disk that was written to and flushed, sector by sector.
-/
import Derived.Test.YtpahicfnhhhifaaGreatGl29
set_option linter.unusedVariables false
set_option linter.unusedSimpArgs false
namespace Go.Proofs.YtpahicfnhhhifaaGreat
set_option maxRecDepth 20000
open Go.RowKit
set_option maxHeartbeats 8000000
theorem vRRead14 {AV : Array Value} {w : World} {D : Dk} (v : DkVal AV w D) (a : Int) (ha : -9223372036854775808 ≤ a ∧ a ≤ 9223372036854775807) : Calls Tryz.prog 74 #[.agg AV, .int .i64 a] w (RetRE w (dkRead D a) (dkAsk D a)) := by
 obtain ⟨S, sn, sc, K, kn, kc, rfl, r⟩ := v; exact refDskRead_any S sn sc K kn kc D a w r ha
theorem dg_freshL {ops : Array Oper} {rest : List Oper} {o : Oper} {a : Act} {w : World} {Q : Exit → Act → World → Prop} {h : Nat} (D : List UInt8) (hgd : o.guard = none) (x z : Operand) (ho : o.op = .store 30 x z) (hx : a.eval x = .pointer (some ⟨h, 0, none⟩)) (hz : a.eval z = .agg (dgA D)) (w0 : World) (hw : w = w0.alloc (.cells zz4 30)) (hh : w0.heap.size = h) (hl : D.length = 32)
  (hK : ∀ X, Hid (X.heap[h]? = some (.cells (dgA D) 30 (0, 0))) → Below w0.heap.size w0 X → wpList Tryz.prog ops Q rest (a.put o.dst undef) X) : wpList Tryz.prog ops Q (o :: rest) a w := by
 subst hw
 have hrow : (w0.alloc (.cells zz4 30)).heap[h]? = some (.cells zz4 30 (0, 0)) := drw_at _ hh
 exact dig_store hgd x z ho h hx D _ hz 30 hrow hl rfl (hK _ (Lib.hid (setRow_heap _ _ _ (dgA D) _ _ hrow)) (below_setRow ((below_self w0).alloc (Nat.le_refl _) _) (by omega) _))
def St14I (w : World) (D : Dk) (p K : Nat) (v a v14 v15 : Value) (Y : World) : Prop := ∃ (k : Nat) (A : Option Addr) (n c : Nat), k ≤ K ∧ n = 256 * k ∧ v = .slice A n c ∧ a = .int .i64 ((p + k : Nat) : Int) ∧ OwnB Y w.heap.size A n c (jnHadK D (p : Int) k) ∧ Below w.heap.size w Y
def Rr14I (V : World) (q : Nat) (D : Dk) (g T : Nat) (l : List Rc) (v i v19 v20 v21 v22 : Value) (Y : World) : Prop := ∃ (k : Nat) (A : Option Addr) (c : Nat) (done : List Rc) (P : List UInt8), k ≤ T ∧ v = .slice A k c ∧ i = .int .i64 ((98 + k : Nat) : Int) ∧ OwR Y (q + 1) A k c done ∧ Y.heap[q]? = some (.cells (dgA P) 30 (0, 0)) ∧ P.length = 32 ∧ l = done ++ jnRecs D g (T - k) k P ∧ Below V.heap.size V Y
set_option maxRecDepth 100000 in
theorem refLoad14_form (AV : Array Value) (D : Dk) (w : World) (v : DkVal AV w D) (er : Int) (h : (dkOk D = false ∧ er = 3) ∨ (dkOk D = true ∧ D.s.length < 98 ∧ er = 5)) :
  Calls Tryz.prog 32 #[.agg AV] w (RetLd w suZ [] [] er) := by
 obtain ⟨Z0, hZ0⟩ : ∃ Z0 : Array Value, #[.int .u32 0, .int .i64 0, .int .i64 0, .int .u8 0, .int .u8 0, .int .u8 0, .int .u8 0, .int .u8 0, .int .u8 0, .int .u8 0, .int .u8 0, .int .u8 0, .int .u8 0, .int .u8 0, .int .u8 0, .int .u8 0, .int .u8 0, .int .u8 0, .int .u8 0, .int .u8 0, .int .u8 0, .int .u8 0, .int .u8 0, .int .u8 0, .int .u8 0, .int .u8 0, .int .u8 0, .int .u8 0, .int .u8 0, .int .u8 0, .int .u8 0, .int .u8 0, .int .u8 0, .int .u8 0, .int .u8 0] = Z0 := ⟨_, rfl⟩
 have hZe : Z0 = suZ.v := by rw [← hZ0]; rfl
 have HZ0 := Lib.hid hZ0
 obtain ⟨V, hV⟩ : ∃ V, V = (w.alloc (.cells AV 40)).alloc (.cells Z0 33) := ⟨_, rfl⟩
 have bV : Below w.heap.size w V := by rw [hV]; exact ((below_self w).alloc (Nat.le_refl _) _).alloc (by simp) _
 have zV : Hid (V.heap.size = w.heap.size + 2) := by rw [hV]; exact Lib.hid (by simp)
 have qV : Hid (DkV V w.heap.size AV D) := Lib.hid ⟨by rw [hV]; exact drw_old _ (drw_at _ rfl), v.below bV⟩
 have rV : Hid (V.heap[w.heap.size + 1]? = some (.cells suZ.v 33 (0, 0))) := by rw [hV, hZe]; exact Lib.hid (drw_at _ (by simp))
 have HV := Lib.hid hV
 have C1 := Lib.hid (vRefCheck qV.out.2)
 obtain ⟨NV, hNV⟩ : ∃ z, z = suZ.v := ⟨_, rfl⟩
 have NB := Lib.hid suNoneB
 rw [← hNV] at NB
 have HNV := Lib.hid hNV
 have hs63 : ∃ K0 kc0 vs0, V.cell? ⟨w.heap.size, 0, none⟩ = some (.slice K0 D.s.length kc0) ∧ RdSS V K0 D.s.length kc0 vs0 D.s := qV.out.c0
 have HS := Lib.hid hs63
 clear hV hZ0 hZe v hNV hs63
 rcases h with ⟨h, rfl⟩ | ⟨h, h2, rfl⟩
 ·rw [h] at C1
  clear h
  go_enter Tryz.func32, Tryz.ntmps32
  go_wp2_with (first | (rw [HZ0.out, ← HV.out]) | (refine dk_load rfl _ rfl rfl qV.out ?_))
  refine C1.out.mono ?_
  rintro e w1 ⟨rfl, hb1⟩
  have r1 := Lib.hid (drw_up rV.out hb1)
  go_wp2_with (first | (refine wpList_of_exec rfl (rex_build rfl #[] rfl (NB.out _)) ?_) | (refine su_store rfl _ _ rfl (w.heap.size + 1) rfl suZ suZ (congrArg Value.agg HNV.out) r1.out suZ_32 suZ_32 ?_))
  refine bodyPost_ret (dresults1333 Tryz.results32 _ _ (w.heap.size + 1) 33 suZ.v (0, 0) _ rfl (setRow_heap _ _ _ suZ.v _ _ r1.out) Tryz.underlying33 rfl (suZ.info suZ_32)) rfl ?_
  exact retLd_none _ (below_setRow (below_then bV hb1) (by omega) _)
 ·rw [h] at C1
  clear h
  have d1 : decide ((D.s.length : Int) < 98) = true := decide_eq_true (by omega)
  have d2 : D.s.length < 98 := h2
  go_enter Tryz.func32, Tryz.ntmps32
  go_wp2_with (first | (rw [HZ0.out, ← HV.out]) | (refine dk_load rfl _ rfl rfl qV.out ?_))
  refine C1.out.mono ?_
  rintro e w1 ⟨rfl, hb1⟩
  have r1 := Lib.hid (drw_up rV.out hb1)
  obtain ⟨K0, kc0, vs0, hc0, _⟩ := (qV.out.up hb1).c0
  go_wp2_with (first | (refine wpList_of_exec rfl (rex_build rfl #[] rfl (NB.out _)) ?_) | (refine su_store rfl _ _ rfl (w.heap.size + 1) rfl suZ suZ (congrArg Value.agg HNV.out) r1.out suZ_32 suZ_32 ?_))
  refine bodyPost_ret (dresults1333 Tryz.results32 _ _ (w.heap.size + 1) 33 suZ.v (0, 0) _ rfl (setRow_heap _ _ _ suZ.v _ _ r1.out) Tryz.underlying33 rfl (suZ.info suZ_32)) rfl ?_
  exact retLd_none _ (below_setRow (below_then bV hb1) (by omega) _)
set_option maxRecDepth 100000 in
theorem refLoad14_go (AV : Array Value) (D : Dk) (w : World) (v : DkVal AV w D) (hok : dkOk D = true) (hl : 98 ≤ D.s.length) :
  Calls Tryz.prog 32 #[.agg AV] w (fun e w' =>
   (suChE (dkRead D 0) (dkRead D 1) ≠ 0 → RetLd w suZ [] [] (suChE (dkRead D 0) (dkRead D 1)) e w') ∧
   (suChE (dkRead D 0) (dkRead D 1) = 0 → jnBase (jnHad D (jnLoadS D)) ≠ (jnLoadS D).D → RetLd w suZ [] [] 6 e w') ∧
   (suChE (dkRead D 0) (dkRead D 1) = 0 → jnBase (jnHad D (jnLoadS D)) = (jnLoadS D).D → RetLd w (jnLoadS D) (jnHad D (jnLoadS D)) (jnLoadR D) 0 e w')) := by
 obtain ⟨Z0, hZ0⟩ : ∃ Z0 : Array Value, #[.int .u32 0, .int .i64 0, .int .i64 0, .int .u8 0, .int .u8 0, .int .u8 0, .int .u8 0, .int .u8 0, .int .u8 0, .int .u8 0, .int .u8 0, .int .u8 0, .int .u8 0, .int .u8 0, .int .u8 0, .int .u8 0, .int .u8 0, .int .u8 0, .int .u8 0, .int .u8 0, .int .u8 0, .int .u8 0, .int .u8 0, .int .u8 0, .int .u8 0, .int .u8 0, .int .u8 0, .int .u8 0, .int .u8 0, .int .u8 0, .int .u8 0, .int .u8 0, .int .u8 0, .int .u8 0, .int .u8 0] = Z0 := ⟨_, rfl⟩
 have hZe : Z0 = suZ.v := by rw [← hZ0]; rfl
 have HZ0 := Lib.hid hZ0
 have HZE := Lib.hid hZe
 obtain ⟨V, hV⟩ : ∃ V, V = (w.alloc (.cells AV 40)).alloc (.cells Z0 33) := ⟨_, rfl⟩
 have bV : Below w.heap.size w V := by rw [hV]; exact ((below_self w).alloc (Nat.le_refl _) _).alloc (by simp) _
 have zV : Hid (V.heap.size = w.heap.size + 2) := by rw [hV]; exact Lib.hid (by simp)
 have qV : Hid (DkV V w.heap.size AV D) := Lib.hid ⟨by rw [hV]; exact drw_old _ (drw_at _ rfl), v.below bV⟩
 have rV : Hid (V.heap[w.heap.size + 1]? = some (.cells suZ.v 33 (0, 0))) := by rw [hV, hZe]; exact Lib.hid (drw_at _ (by simp))
 have HV := Lib.hid hV
 have C1 := Lib.hid (vRefCheck qV.out.2)
 rw [hok] at C1
 have C2 := Lib.hid (fun W (u : DkVal AV W D) => vRRead14 u 0 (by omega))
 have C3 := Lib.hid (fun W (u : DkVal AV W D) => vRRead14 u 1 (by omega))
 rw [show dkAsk D 0 = 0 from dkAsk_in D hok 0 (by omega)] at C2
 rw [show dkAsk D 1 = 0 from dkAsk_in D hok 1 (by omega)] at C3
 obtain ⟨X0, hX0⟩ : ∃ q, dkRead D 0 = q := ⟨_, rfl⟩
 obtain ⟨X1, hX1⟩ : ∃ q, dkRead D 1 = q := ⟨_, rfl⟩
 obtain ⟨SU, hSU⟩ : ∃ q, jnLoadS D = q := ⟨_, rfl⟩
 have hSU2 : suCh X0 X1 = SU := by rw [← hX0, ← hX1]; exact hSU
 rw [hX0] at C2 ⊢
 rw [hX1] at C3 ⊢
 rw [hSU]
 obtain ⟨E, hE⟩ : ∃ q, suChE X0 X1 = q := ⟨_, rfl⟩
 rw [hE]
 have C4 := Lib.hid (fun (A B : Option Addr) (n c m d : Nat) W (a : RdB W A n c X0) (b : RdB W B m d X1) => refsuChoose_any A n c X0 B m d X1 W a b)
 rw [hSU2, hE] at C4
 obtain ⟨NV, hNV⟩ : ∃ z, z = suZ.v := ⟨_, rfl⟩
 have NB := Lib.hid suNoneB
 rw [← hNV] at NB
 have HNV := Lib.hid hNV
 have d1 : decide ((D.s.length : Int) < 98) = false := decide_eq_false (by omega)
 have d2 : ¬ D.s.length < 98 := by omega
 have hSUl : SU.D.length = 32 ∧ SU.g < 4294967296 := by
  rw [← hSU2]; unfold suCh
  split
  ·exact ⟨suGet_len _, (suGet_bounds _).1⟩
  ·split
   ·exact ⟨suGet_len _, (suGet_bounds _).1⟩
   ·exact ⟨rfl, by decide⟩
 have HSL := Lib.hid hSUl
 have HOK := Lib.hid hok
 have HLN := Lib.hid hl
 have HE := Lib.hid hE
 have HSU := Lib.hid hSU
 have HSU2 := Lib.hid hSU2
 clear hV hZ0 hZe v hNV hX0 hX1 hSU hSU2 hE hSUl hok hl
 go_enter Tryz.func32, Tryz.ntmps32
 go_wp2_with (first | (rw [HZ0.out, ← HV.out]) | (refine dk_load rfl _ rfl rfl qV.out ?_))
 refine C1.out.mono ?_
 rintro e w1 ⟨rfl, hb1⟩
 have q1 := Lib.hid (qV.out.up hb1)
 obtain ⟨K0, kc0, vs0, hc0, hss⟩ := q1.out.c0
 clear hss
 go_wp2_with (refine dk_load rfl _ rfl rfl q1.out ?_)
 refine (C2.out w1 q1.out.2).mono ?_
 rintro e w2 ⟨A2, n2, c2, rfl, o2, b2⟩
 have q2 := Lib.hid (q1.out.up b2)
 have O2 := Lib.hid o2
 clear o2 hc0
 go_wp2_with (refine dk_load rfl _ rfl rfl q2.out ?_)
 refine (C3.out w2 q2.out.2).mono ?_
 rintro e w3 ⟨A3, n3, c3, rfl, o3, b3⟩
 have q3 := Lib.hid (q2.out.up b3)
 have O3 := Lib.hid o3
 clear o3
 go_wp2_with fail
 refine (C4.out A2 A3 n2 c2 n3 c3 w3 (O2.out.below b3) O3.out).mono ?_
 rintro e w4 ⟨rfl, b4⟩
 have r4 := Lib.hid (drw_up (drw_up (drw_up (drw_up rV.out hb1) b2) b3) b4)
 have q4 := Lib.hid (q3.out.up b4)
 have B4 := Lib.hid (below_then bV (below_then hb1 (below_then b2 (below_then b3 b4))))
 obtain ⟨V5, hV5⟩ : ∃ W, W = w4.alloc (.cells Z0 33) := ⟨_, rfl⟩
 have b5 : Below w4.heap.size w4 V5 := by rw [hV5]; exact (below_self w4).alloc (Nat.le_refl _) _
 have r5 : Hid (V5.heap[w4.heap.size]? = some (.cells suZ.v 33 (0, 0))) := by rw [hV5, HZE.out]; exact Lib.hid (drw_at _ rfl)
 have HV5 := Lib.hid hV5
 obtain ⟨V6, hV6⟩ : ∃ W, W = V5.setRow w4.heap.size SU.v := ⟨_, rfl⟩
 have s6 : Hid (V6.heap[w4.heap.size]? = some (.cells SU.v 33 (0, 0))) := by rw [hV6]; exact Lib.hid (setRow_heap _ _ _ _ _ _ r5.out)
 have b6 : Below w4.heap.size w4 V6 := by rw [hV6]; exact below_setRow b5 (Nat.le_refl _) _
 have HV6 := Lib.hid hV6
 have q6 := Lib.hid (q4.out.up b6)
 have r6 := Lib.hid (drw_up r4.out b6)
 have B6 := Lib.hid (below_then B4.out b6)
 clear hV5 hV6
 by_cases hE0 : E = 0
 ·subst hE0
  have hck : suCheck SU.s SU.l = true := by rw [← HSU2.out]; exact suCh_chk _ _ HE.out
  have HCK := Lib.hid hck
  clear hck
  have hsc := of_decide_eq_true HCK.out
  obtain ⟨L, hL⟩ : ∃ L : Nat, SU.l = (L : Int) := ⟨SU.l.toNat, by omega⟩
  obtain ⟨p, hp⟩ : ∃ p : Nat, (if SU.s = 0 then (2 : Int) else 50) = (p : Int) := by
   by_cases h : SU.s = 0
   ·exact ⟨2, by rw [if_pos h]; rfl⟩
   ·exact ⟨50, by rw [if_neg h]; rfl⟩
  have hp50 : p ≤ 50 := by split at hp <;> omega
  obtain ⟨K, hK⟩ : ∃ K, K = (L + 255) / 256 := ⟨_, rfl⟩
  have hHA0 : jnHad D SU = (jnHadK D (p : Int) K).take L := by unfold jnHad; rw [hp, hL, hK]; rfl
  have hK48 : K ≤ 48 := by omega
  have C5 := Lib.hid (fun W => refsuPlace_any SU.s W)
  rw [hp] at C5
  have Y1 : Hid (∀ W : World, Below V6.heap.size V6 W → W.cell? ⟨w4.heap.size, 1, none⟩ = some (.int .i64 SU.s)) := Lib.hid (fun W hb => (cell_of_row W _ 1 _ _ _ (drw_up s6.out hb)).trans (suV1 ..))
  have Y2 : Hid (∀ W : World, Below V6.heap.size V6 W → W.cell? ⟨w4.heap.size, 2, none⟩ = some (.int .i64 (L : Int))) := Lib.hid (fun W hb => (cell_of_row W _ 2 _ _ _ (drw_up s6.out hb)).trans (by show (suV SU.g SU.s SU.l SU.D)[2]? = _; rw [suV2, hL]))
  have HK := Lib.hid hK
  have HHA0 := Lib.hid hHA0
  clear hsc hL hp hK hHA0
  have x1 := Y1.out V6 (Below.refl _ _)
  go_wp2_with (rw [HZ0.out, ← HV5.out]; refine su_store rfl _ _ rfl w4.heap.size rfl SU suZ rfl r5.out HSL.out.1 suZ_32 ?_; rw [← HV6.out])
  refine (C5.out V6).mono ?_
  rintro e w7 ⟨rfl, rfl⟩
  clear x1
  go_wp2_with fail
  go_loopw [12, 13, 14, 15] (St14I V6 D p K) (fun _ a _ _ _ => p + K - (intOf a).toNat)
  case atStart => exact ⟨0, none, 0, 0, by omega, rfl, rfl, rfl, OwnB.nilB _ _, Below.refl _ _⟩
  case round =>
  obtain ⟨k, A, n, c, hk, hn, rfl, rfl, ho, hB⟩ := hrel
  have x2 := Y2.out wr hB
  have hKK := HK.out
  have hll := HLN.out
  obtain ⟨pk, hpk⟩ : ∃ q, q = p + k := ⟨p + k, rfl⟩
  obtain ⟨pk1, hpk1⟩ : ∃ q, q = p + (k + 1) := ⟨p + (k + 1), rfl⟩
  rw [← hpk]
  have e1 : IntKind.i64.wrap ((pk : Int) + 1) = (pk1 : Int) := by rw [IntWalk.i64_in _ (by omega)]; omega
  by_cases hlt : k < K
  ·have d1 : decide ((n : Int) < (L : Int)) = true := decide_eq_true (by omega)
   have d1n : decide (n < L) = true := decide_eq_true (by omega)
   have C2 := Lib.hid (vRRead14 (q6.out.up hB).2 (pk : Int) (by omega))
   have hrl := dkRead_len D HOK.out pk (by omega)
   have hask := dkAsk_in D HOK.out pk (by omega)
   rw [hask] at C2
   have hnx : jnHadK D (p : Int) (k + 1) = jnHadK D (p : Int) k ++ dkRead D (pk : Int) := by
    show jnHadK D (p : Int) k ++ dkRead D ((p : Int) + (k : Int)) = _
    rw [show (p : Int) + (k : Int) = (pk : Int) by omega]
   obtain ⟨HA, hHA⟩ : ∃ q, jnHadK D (p : Int) k = q := ⟨_, rfl⟩
   obtain ⟨RD, hRD⟩ : ∃ q, dkRead D (pk : Int) = q := ⟨_, rfl⟩
   rw [hHA] at hnx ho
   rw [hRD] at hnx C2 hrl
   obtain ⟨N1, hN1⟩ : ∃ q, q = n + 256 := ⟨_, rfl⟩
   have HNX := Lib.hid hnx
   have HN1 := Lib.hid hN1
   have HPK := Lib.hid (show pk1 = p + (k + 1) by omega)
   have HN := Lib.hid hn
   have HO := Lib.hid ho
   have hn6 : n ≤ 100000 := by omega
   have QB := Lib.hid (q6.out.up hB)
   have hpk50 : pk < 98 := by omega
   have hmu : p + K - (pk1 : Int).toNat < p + K - (pk : Int).toNat := by omega
   have HMU := Lib.hid hmu
   clear hnx hN1 hn ho hHA hRD hask hKK hpk hpk1 hmu
   go_wp2_with (refine dk_load rfl _ rfl rfl QB.out ?_)
   refine C2.out.mono ?_
   rintro e w3 ⟨A3, n3, c3, rfl, o3, b3⟩
   obtain rfl : n3 = 256 := by rw [← o3.2.1]; exact hrl
   go_wp2_with (at_builtin; refine wp_appB (w0 := V6) rfl _ _ rfl (below_then hB b3) (Nat.le_refl _) (below_then hB b3).size A n c HA rfl (HO.out.upB b3) A3 256 c3 RD rfl o3 (by omega) N1 _ HN1.out.symm rfl ?_; intro A4 c4 w4 ho4 hb4 hg4)
   go_roundw
   case rel => exact ⟨k + 1, A4, N1, c4, by omega, by have := HN1.out; have := HN.out; omega, rfl, by rw [HPK.out], by rw [HNX.out]; exact ho4, hb4⟩
   case measure => have := HMU.out; simp [intOf, e1]; omega
  ·obtain rfl : k = K := by omega
   have d1 : decide ((n : Int) < (L : Int)) = false := decide_eq_false (by omega)
   have d1n : decide (n < L) = false := decide_eq_false (by omega)
   have hlen := ho.len
   have hLn : L ≤ n := by omega
   have hLc : L ≤ c := by have := ho.rd.2.2.1; omega
   have hLc2 : (L : Int) ≤ (c : Int) := by omega
   have O7 : Hid (OwnB wr V6.heap.size A L c (jnHad D SU)) := Lib.hid (by rw [HHA0.out]; exact ho.cutR L (by omega))
   have hn7 : L ≤ 12288 := by
    have h2 := of_decide_eq_true HCK.out
    have h1 := O7.out.len
    rw [← h1]; unfold jnHad; rw [List.length_take]; omega
   clear ho hn hpk hpk1 hKK hll hlen e1
   obtain ⟨w7, rfl⟩ : ∃ z, z = wr := ⟨wr, rfl⟩
   obtain ⟨A7, rfl⟩ : ∃ z, z = A := ⟨A, rfl⟩
   obtain ⟨n7, rfl⟩ : ∃ z, z = L := ⟨L, rfl⟩
   obtain ⟨c7, rfl⟩ : ∃ z, z = c := ⟨c, rfl⟩
   have q7 := Lib.hid (q6.out.up hB)
   have s7 := Lib.hid (drw_up s6.out hB)
   have r7 := Lib.hid (drw_up r6.out hB)
   have B7 := Lib.hid (below_then B6.out hB)
   have hb67 := hB.size
   clear hB
   go_wp2_with fail
   obtain ⟨HA, hHA⟩ : ∃ q, jnHad D SU = q := ⟨_, rfl⟩
   rw [hHA] at O7
   have HHA := Lib.hid hHA
   obtain ⟨BD, hBD⟩ : ∃ q, jnBase HA = q := ⟨jnBase HA, rfl⟩
   have C8 := Lib.hid (fun W (h : RdB W A7 n7 c7 HA) => refBase14_any A7 n7 c7 HA W h (by omega))
   rw [hBD] at C8
   have HBD := Lib.hid hBD
   have hBl : BD.length = 32 := by rw [← hBD]; exact shOf_len _
   have HBL := Lib.hid hBl
   clear hHA hBD hBl
   have lo7 : w.heap.size + 1 < w4.heap.size := drw_lt r4.out
   by_cases hd : BD = SU.D
   ·have HD := Lib.hid hd
    have eq1 : ∀ W : World, (Op.equalIn 10000 30 (.agg (dgA BD)) (.agg (dgA SU.D))).run Tryz.prog W = .ok true W := fun W => by have := dgs_eq BD SU.D HBL.out HSL.out.1 W; rw [decide_eq_true hd] at this; exact this
    have EQ := Lib.hid eq1
    clear eq1 hd
    refine wp_region_seg (S := fun w' => Below w7.heap.size w7 w') 0 #[true, true, true, true, true] [(0, true), (2, true), (3, true), (1, false), (4, true)] (by kernel_rfl) (by kernel_rfl) (fun _ _ d _ _ h => by first | (cases d <;> exact h) | cases h.1) ((Below.refl w7.heap.size w7).drew) ?_
    have HB := (Below.refl w7.heap.size w7).drew
    iterate 2 (refine seg_take (v := ?_) rfl (Or.inl ⟨by rfl, ?_⟩) ?_; rotate_left; (focus (intro w' hw'; go_simp <;> with_reducible rfl)); try simp only [Act.put, pst3])
    refine seg_take (v := .agg (dgA SU.D)) rfl (Or.inl ⟨by rfl, fun w' hw' => ?_⟩) ?_
    focus (exact rex_load rfl rfl (run_loadVar_mid w' w4.heap.size 3 30 (SU.D.map vB) _ (sup_dig (drw_up s7.out hw')) Tryz.underlying30 rfl (by rw [List.length_map, HSL.out.1]; kernel_rfl)))
    try simp only [Act.put, pst3]
    refine seg_run rfl (fun K hK => ?_)
    go_simp
    refine (C8.out _ (O7.out.rd.below HB)).mono ?_
    rintro e_ wA ⟨rfl, hbA⟩
    have HB := below_then HB hbA
    refine hK.out _ _ (HB) ?_
    clear hK
    try simp only [Act.put, pst3]
    refine seg_take (v := .bool false) rfl (Or.inl ⟨by rfl, fun w' hw' => ?_⟩) ?_
    focus (have hq := EQ.out w'; go_simp)
    try simp only [Act.put, pst3]
    refine seg_done (fun _ => ?_)
    refine wpAnyH_done (by kernel_rfl) ?_ _
    skip
    have BA := Lib.hid HB
    have QU : Hid (DkV wA w.heap.size AV D) := Lib.hid (q7.out.up HB)
    have s8 := Lib.hid (drw_up s7.out HB)
    have r8 := Lib.hid (drw_up r7.out HB)
    have O8 := Lib.hid (O7.out.upB HB)
    obtain ⟨l, hll⟩ : ∃ l, jnRecs D SU.g (D.s.length - 98) 0 SU.D = l := ⟨_, rfl⟩
    have HLL := Lib.hid hll
    obtain ⟨N, hN⟩ : ∃ N, D.s.length = N := ⟨_, rfl⟩
    obtain ⟨T, hT⟩ : ∃ T, T = N - 98 := ⟨_, rfl⟩
    have hN98 : 98 ≤ N := by rw [← hN]; exact HLN.out
    have hN256 : N ≤ 256 := by rw [← hN]; exact ((dkOk_iff D).1 HOK.out).1
    have HNN := Lib.hid hN
    have HT := Lib.hid hT
    have hb0 : Hid (w.heap.size + 2 ≤ V6.heap.size) := Lib.hid (by have h1 := drw_lt s6.out; omega)
    have hgd0 : Hid (w.heap.size + 2 ≤ wA.heap.size) := Lib.hid (by have := HB.size; have := hb0.out; omega)
    clear hll hN hT HB hbA
    go_wp2_with (first
     | (refine wpList_load_mid rfl 30 _ rfl w4.heap.size 3 rfl (SU.D.map vB) _ (sup_dig s8.out) Tryz.underlying30 rfl (by rw [List.length_map, HSL.out.1]; kernel_rfl) ?_)
     | (refine dg_freshL SU.D rfl _ _ rfl rfl rfl wA rfl rfl HSL.out.1 ?_; intro V3 R3 B3; have B3 := Lib.hid B3))
    go_loopw [16, 18, 19, 20, 21, 22] (Rr14I wA wA.heap.size D SU.g T l) (fun _ i _ _ _ _ _ => 98 + T - (intOf i).toNat)
    case atStart => exact ⟨0, none, 0, [], SU.D, by omega, rfl, rfl, owR_nil _ _, R3.out, HSL.out.1, by rw [← HLL.out, HNN.out, HT.out]; rfl, B3.out⟩
    case round =>
     obtain ⟨k, A, c, done, P, hk, rfl, rfl, hown, hbox, hPl, hrest, hB⟩ := hrel
     have hTT := HT.out
     obtain ⟨pk, hpk⟩ : ∃ q, q = 98 + k := ⟨98 + k, rfl⟩
     obtain ⟨K0, kc0, vs0, hc0, hss0⟩ := (QU.out.up hB).c0
     rw [HNN.out] at hc0
     clear hss0
     rw [← hpk]
     by_cases hlt : k < T
     ·have dp : decide ((pk : Int) < (N : Int)) = true := decide_eq_true (by omega)
      have dp2 : decide (pk < N) = true := decide_eq_true (by omega)
      have e1 : IntKind.i64.wrap ((pk : Int) - 98) = (k : Int) := by rw [IntWalk.i64_in _ (by omega)]; omega
      have e2 : (pk : Int) - 98 = (k : Int) := by omega
      have e3 : IntKind.u32.wrap (k : Int) = (k : Int) := by rw [IntKind.wrap_u32]; omega
      have C1 := Lib.hid (vRRead14 (QU.out.up hB).2 (pk : Int) (by omega))
      rw [dkAsk_in D HOK.out pk (by rw [HNN.out]; omega)] at C1
      obtain ⟨RD, hRD⟩ : ∃ q, dkRead D (pk : Int) = q := ⟨_, rfl⟩
      rw [hRD] at C1
      have hstep : jnRecs D SU.g (T - k) k P = if rcFolE P SU.g k RD = 0 then rcGet RD :: jnRecs D SU.g (T - (k + 1)) (k + 1) (rcGet RD).D else [] := by
       rw [show T - k = (T - (k + 1)) + 1 by omega]
       show (if rcFolE P SU.g k (dkRead D (98 + (k : Int))) = 0 then _ else _) = _
       rw [show (98 : Int) + (k : Int) = (pk : Int) by omega, hRD]
      rw [hstep] at hrest
      have QB := Lib.hid (QU.out.up hB)
      have HRE := Lib.hid hrest
      have HBX := Lib.hid hbox
      have HPL := Lib.hid hPl
      have HOW := Lib.hid hown
      have hk256 : k < 256 := by omega
      have HPK := Lib.hid hpk
      clear hrest hbox hPl hown hpk hTT hstep hRD
      have g0 : wr.cell? ⟨w4.heap.size, 0, none⟩ = some (.int .u32 (SU.g : Int)) := (cell_of_row wr _ 0 _ _ _ (drw_up s8.out hB)).trans (suV0 ..)
      go_wp2_with (refine dk_load rfl _ rfl rfl QB.out ?_)
      refine C1.out.mono ?_
      rintro e u3 ⟨A3, n3, c3, rfl, o3, b3⟩
      have O3 := Lib.hid o3
      have g3 : u3.cell? ⟨w4.heap.size, 0, none⟩ = some (.int .u32 (SU.g : Int)) := (cell_of_row u3 _ 0 _ _ _ (drw_up (drw_up s8.out hB) b3)).trans (suV0 ..)
      have BX3 := Lib.hid (drw_up HBX.out b3)
      clear g0 o3 hc0
      go_wp2_with (refine dig_load rfl _ rfl wA.heap.size rfl P 30 BX3.out HPL.out ?_)
      refine (refFollow12_any refGet12_any P HPL.out SU.g k A3 n3 c3 RD u3 O3.out).mono ?_
      rintro e u4 ⟨A4, n4, c4, rfl, r4_, z4, b4⟩
      obtain ⟨R, hR⟩ : ∃ q, rcFol P SU.g k RD = q := ⟨_, rfl⟩
      obtain ⟨E, hE⟩ : ∃ q, rcFolE P SU.g k RD = q := ⟨_, rfl⟩
      rw [hR] at r4_ ⊢
      rw [hE] at HRE ⊢
      have hRok : R.ok := by
       rw [← hR]; unfold rcFol; split
       ·exact (rcGet_okk RD).1
       ·exact rcZ_ok
      have HRO := Lib.hid hRok
      have B4 := Lib.hid (below_then hB (below_then b3 b4))
      have R4 := Lib.hid r4_
      have Z4 := Lib.hid z4
      have OW4 := Lib.hid ((HOW.out.below b3).below b4)
      have BX4 := Lib.hid (drw_up BX3.out b4)
      by_cases hE0 : E = 0
      ·subst hE0
       have hRg : R = rcGet RD := by rw [← hR]; unfold rcFol; rw [if_pos hE]
       rw [if_pos rfl, ← hRg] at HRE
       have hw34 : u3.heap.size ≤ u4.heap.size := b4.size
       have hVw3 : wA.heap.size + 1 ≤ u3.heap.size := drw_lt BX3.out
       clear hR hE hRok r4_ z4 hRg g3
       have hub : wA.heap.size + 1 ≤ u4.heap.size := by omega
       obtain ⟨us, u1, u2⟩ := OW4.out
       have U := Lib.hid (And.intro u1 u2)
       have HW3 := Lib.hid (And.intro hw34 hVw3)
       obtain ⟨K1, hK1⟩ : ∃ q, q = k + 1 := ⟨_, rfl⟩
       obtain ⟨pk1, hpk1⟩ : ∃ q, q = 98 + (k + 1) := ⟨_, rfl⟩
       have e6 : IntKind.i64.wrap ((pk : Int) + 1) = (pk1 : Int) := by have := HPK.out; rw [IntWalk.i64_in _ (by omega)]; omega
       have hmu : 98 + T - pk1 < 98 + T - pk := by have := HPK.out; omega
       have HMU := Lib.hid hmu
       have HPK1 := Lib.hid hpk1
       have HK1 := Lib.hid hK1
       clear u1 u2 hw34 hVw3 hK1 hpk1 hmu
       go_wp2_with (first
        | (refine rc_fresh rfl _ _ rfl rfl rfl u4 rfl rfl HRO.out.2.2.2.2.2.2 ?_; intro X5 q5 x5)
        | (refine rc_load rfl _ rfl rfl q5.out HRO.out.2.2.2.2.2.2 ?_)
        | (refine wp_litR rfl _ rfl rfl HRO.out.2.2.2.2.2.2 ?_; intro X6 r6_ b6)
        | (at_builtin; refine wp_appR rfl _ _ rfl (wA.heap.size + 1) _ k us rfl (own_up (own_up U.out.1 x5) b6) _ 1 1 (rcV R A4 n4 c4) rfl (.inr ⟨_, 0, rfl, drw_lt r6_, fun i v hv => by rw [cell_of_row X6 _ (0 + i) _ _ _ r6_]; simpa using hv⟩) (by rw [rcV_len _ _ _ _ HRO.out.2.2.2.2.2.2]) (rcV_one _ _ _ _) (by omega) (by have := x5.size; have := b6.size; omega) K1 _ HK1.out.symm rfl ?_; intro A7_ c7_ w7_ ho7 hg7 hn7_
           have hg7' : X6.grownBy w7_ (Value.slice A k c).ownBlock := hg7
           have Q7 : Hid (RcAt w7_ u4.heap.size R A4 n4 c4) := Lib.hid ((hg7'.block _ (by have := drw_lt q5.out; have := b6.size; omega) (fun e => by have := (U.out.1.lt _ e.symm).2; omega)).trans (drw_up q5.out b6))
           have X7 : Hid (w7_.heap[wA.heap.size]? = some (.cells (dgA P) 30 (0, 0))) := Lib.hid ((hg7'.block _ (by have := x5.size; have := b6.size; omega) (fun e => by have := (U.out.1.lt _ e.symm).1; omega)).trans (drw_up (drw_up BX4.out x5) b6)))
        | (refine wpList_load_mid rfl 30 _ rfl u4.heap.size 7 rfl (R.D.map vB) _ (rd_range (Q7.out.dig HRO.out.2.2.2.2.2.2)) Tryz.underlying30 rfl (by rw [List.length_map, HRO.out.2.2.2.2.2.2]; kernel_rfl) ?_)
        | (refine dig_store rfl _ _ rfl wA.heap.size rfl R.D (dgA P) rfl 30 X7.out HRO.out.2.2.2.2.2.2 (by rw [dgA_size, HPL.out]) ?_))
       go_roundw
       case rel =>
        have hn7' : (Value.slice A7_ K1 c7_).ownBlock = (Value.slice A k c).ownBlock ∨ (Value.slice A7_ K1 c7_).ownBlock = some X6.heap.size := hn7_
        have hk1 := HK1.out
        subst hk1
        have h56 := below_then x5 b6
        obtain ⟨us', v1, _⟩ := HOW.out
        have hz6 : 0 < n4 → ∀ a, A4 = some a → wA.heap.size + 1 ≤ a.block ∧ (Value.slice A k c).ownBlock ≠ some a.block := fun hm a ha => by
         have h1 := Z4.out hm a ha
         have h2 := HW3.out
         refine ⟨by omega, fun e => ?_⟩
         have h3 := (v1.lt _ e).2
         have h4 := b3.size
         omega
        have hJ7 := OwR.app (U.out.2.keep (w' := X6) (Z' := (Value.slice A k c).ownBlock) (fun B m d xs hx hz => ⟨hx.below h56, hz⟩)) ho7 hg7' HRO.out (R4.out.below h56) hz6 hn7'
        have hb7 : Below wA.heap.size wA w7_ := (below_then B4.out h56).grown hg7' (below_then B4.out h56).size (fun q hq => by have := (U.out.1.lt _ hq).1; omega)
        refine ⟨k + 1, A7_, c7_, done ++ [R], R.D, by omega, rfl, by rw [HPK1.out], ?_, setRow_heap _ _ _ _ _ _ X7.out, HRO.out.2.2.2.2.2.2, by rw [HRE.out]; simp, below_setRow hb7 (Nat.le_refl _) _⟩
        exact hJ7.agr (P := fun j => j = wA.heap.size) ⟨by simp, fun j _ hn => setRow_other _ _ _ _ hn⟩ (fun j hj => by omega)
       case measure => have := HMU.out; simp [intOf, e6]; omega
      ·have e5 : (E != 0) = true := by simpa using hE0
       rw [if_neg hE0, List.append_nil] at HRE
       clear hR hE hRok r4_ z4 g3 hE0
       have HREX : Hid (jnRecs D SU.g (D.s.length - 98) 0 SU.D = done) := Lib.hid (by rw [HLL.out]; exact HRE.out)
       go_wp2_with (first
        | (refine rc_fresh rfl _ _ rfl rfl rfl u4 rfl rfl HRO.out.2.2.2.2.2.2 ?_; intro YT q5 x5; have BT := Lib.hid (below_then (below_then (below_then B7.out BA.out) B4.out) x5); have ST := Lib.hid (drw_up (drw_up s8.out B4.out) x5); have RT := Lib.hid (drw_up (drw_up r8.out B4.out) x5); have OT := Lib.hid ((O8.out.upB B4.out).upB x5); have RWT := Lib.hid (OW4.out.below x5))
        | (refine su_load rfl _ rfl w4.heap.size rfl SU ST.out HSL.out.1 ?_)
        | (refine su_store rfl _ _ rfl (w.heap.size + 1) rfl SU suZ rfl RT.out HSL.out.1 suZ_32 ?_))
       refine bodyPost_ret (dresults1333 Tryz.results32 _ _ (w.heap.size + 1) 33 SU.v (0, 0) _ rfl (setRow_heap _ _ _ SU.v _ _ RT.out) Tryz.underlying33 rfl (SU.info HSL.out.1)) rfl ?_
       have hag : AgrP (fun j => j = w.heap.size + 1) YT (YT.setRow (w.heap.size + 1) SU.v) := ⟨by simp, fun j _ hn => setRow_other _ _ _ _ hn⟩
       refine ⟨fun h => absurd (by rw [HHA.out, HBD.out]; exact HD.out) h, fun _ => ⟨A7, n7, c7, A, k, c, rfl, ?_, ?_, below_setRow BT.out (by omega) _⟩⟩
       ·rw [HHA.out]
        exact own_mono (own_agr0 OT.out hag (fun j hj => by have := hb0.out; omega)) (by have := hb0.out; omega)
       ·unfold jnLoadR
        rw [HSU.out, HREX.out]
        exact (OwR.agr RWT.out hag (fun j hj => by have := hgd0.out; omega)).mono (by have := hgd0.out; omega)
     ·obtain rfl : k = T := by omega
      have dp : decide ((pk : Int) < (N : Int)) = false := decide_eq_false (by omega)
      have dp2 : decide (pk < N) = false := decide_eq_false (by omega)
      have e0 : jnRecs D SU.g (k - k) k P = [] := by rw [Nat.sub_self]; rfl
      rw [e0, List.append_nil] at hrest
      have HREX : Hid (jnRecs D SU.g (D.s.length - 98) 0 SU.D = done) := Lib.hid (by rw [HLL.out]; exact hrest)
      obtain ⟨YT, rfl⟩ : ∃ z, z = wr := ⟨wr, rfl⟩
      have BT := Lib.hid (below_then (below_then B7.out BA.out) hB)
      have ST := Lib.hid (drw_up s8.out hB)
      have RT := Lib.hid (drw_up r8.out hB)
      have OT := Lib.hid (O8.out.upB hB)
      have RWT := Lib.hid hown
      clear hrest hown e0 hbox hB hTT hpk
      go_wp2_with (first
       | (refine su_load rfl _ rfl w4.heap.size rfl SU ST.out HSL.out.1 ?_)
       | (refine su_store rfl _ _ rfl (w.heap.size + 1) rfl SU suZ rfl RT.out HSL.out.1 suZ_32 ?_))
      refine bodyPost_ret (dresults1333 Tryz.results32 _ _ (w.heap.size + 1) 33 SU.v (0, 0) _ rfl (setRow_heap _ _ _ SU.v _ _ RT.out) Tryz.underlying33 rfl (SU.info HSL.out.1)) rfl ?_
      have hag : AgrP (fun j => j = w.heap.size + 1) YT (YT.setRow (w.heap.size + 1) SU.v) := ⟨by simp, fun j _ hn => setRow_other _ _ _ _ hn⟩
      refine ⟨fun h => absurd (by rw [HHA.out, HBD.out]; exact HD.out) h, fun _ => ⟨A7, n7, c7, A, k, c, rfl, ?_, ?_, below_setRow BT.out (by omega) _⟩⟩
      ·rw [HHA.out]
       exact own_mono (own_agr0 OT.out hag (fun j hj => by have := hb0.out; omega)) (by have := hb0.out; omega)
      ·unfold jnLoadR
       rw [HSU.out, HREX.out]
       exact (OwR.agr RWT.out hag (fun j hj => by have := hgd0.out; omega)).mono (by have := hgd0.out; omega)
   ·have HD := Lib.hid hd
    have eq1 : ∀ W : World, (Op.equalIn 10000 30 (.agg (dgA BD)) (.agg (dgA SU.D))).run Tryz.prog W = .ok false W := fun W => by have := dgs_eq BD SU.D HBL.out HSL.out.1 W; rw [decide_eq_false hd] at this; exact this
    have EQ := Lib.hid eq1
    clear eq1 hd
    refine wp_region_seg (S := fun w' => Below w7.heap.size w7 w') 0 #[true, true, true, true, true] [(0, true), (2, true), (3, true), (1, false), (4, true)] (by kernel_rfl) (by kernel_rfl) (fun _ _ d _ _ h => by first | (cases d <;> exact h) | cases h.1) ((Below.refl w7.heap.size w7).drew) ?_
    have HB := (Below.refl w7.heap.size w7).drew
    iterate 2 (refine seg_take (v := ?_) rfl (Or.inl ⟨by rfl, ?_⟩) ?_; rotate_left; (focus (intro w' hw'; go_simp <;> with_reducible rfl)); try simp only [Act.put, pst3])
    refine seg_take (v := .agg (dgA SU.D)) rfl (Or.inl ⟨by rfl, fun w' hw' => ?_⟩) ?_
    focus (exact rex_load rfl rfl (run_loadVar_mid w' w4.heap.size 3 30 (SU.D.map vB) _ (sup_dig (drw_up s7.out hw')) Tryz.underlying30 rfl (by rw [List.length_map, HSL.out.1]; kernel_rfl)))
    try simp only [Act.put, pst3]
    refine seg_run rfl (fun K hK => ?_)
    go_simp
    refine (C8.out _ (O7.out.rd.below HB)).mono ?_
    rintro e_ wA ⟨rfl, hbA⟩
    have HB := below_then HB hbA
    refine hK.out _ _ (HB) ?_
    clear hK
    try simp only [Act.put, pst3]
    refine seg_take (v := .bool true) rfl (Or.inl ⟨by rfl, fun w' hw' => ?_⟩) ?_
    focus (have hq := EQ.out w'; go_simp)
    try simp only [Act.put, pst3]
    refine seg_done (fun _ => ?_)
    refine wpAnyH_done (by kernel_rfl) ?_ _
    skip
    have BA := Lib.hid HB
    have r8 := Lib.hid (drw_up r7.out HB)
    go_wp2_with (first | (refine wpList_of_exec rfl (rex_build rfl #[] rfl (NB.out _)) ?_) | (refine su_store rfl _ _ rfl (w.heap.size + 1) rfl suZ suZ (congrArg Value.agg HNV.out) r8.out suZ_32 suZ_32 ?_))
    refine bodyPost_ret (dresults1333 Tryz.results32 _ _ (w.heap.size + 1) 33 suZ.v (0, 0) _ rfl (setRow_heap _ _ _ suZ.v _ _ r8.out) Tryz.underlying33 rfl (suZ.info suZ_32)) rfl ?_
    refine ⟨fun _ => retLd_none _ (below_setRow (below_then B7.out BA.out) (by omega) _), fun h => absurd (by rw [← HBD.out, ← HHA.out]; exact h) HD.out⟩
 ·have e5 : (E != 0) = true := by simpa using hE0
  have HE0 := Lib.hid hE0
  clear hE0
  go_wp2_with (first | (rw [HZ0.out, ← HV5.out]; refine su_store rfl _ _ rfl w4.heap.size rfl SU suZ rfl r5.out HSL.out.1 suZ_32 ?_; rw [← HV6.out]) | (refine wpList_of_exec rfl (rex_build rfl #[] rfl (NB.out _)) ?_) | (refine su_store rfl _ _ rfl (w.heap.size + 1) rfl suZ suZ (congrArg Value.agg HNV.out) r6.out suZ_32 suZ_32 ?_))
  refine bodyPost_ret (dresults1333 Tryz.results32 _ _ (w.heap.size + 1) 33 suZ.v (0, 0) _ rfl (setRow_heap _ _ _ suZ.v _ _ r6.out) Tryz.underlying33 rfl (suZ.info suZ_32)) rfl ?_
  exact ⟨fun _ => retLd_none _ (below_setRow B6.out (by omega) _), fun h => absurd h HE0.out, fun h => absurd h HE0.out⟩
theorem refLoad14_any (AV : Array Value) (D : Dk) (w : World) (v : DkVal AV w D) :
  Calls Tryz.prog 32 #[.agg AV] w (fun e w' => (jnLoadE D = 0 → RetLd w (jnLoadS D) (jnHad D (jnLoadS D)) (jnLoadR D) 0 e w') ∧ (jnLoadE D ≠ 0 → RetLd w suZ [] [] (jnLoadE D) e w')) := by
 cases hok : dkOk D with
 | false =>
  have e : jnLoadE D = 3 := by unfold jnLoadE; rw [if_pos hok]
  rw [e]
  exact (refLoad14_form AV D w v 3 (.inl ⟨hok, rfl⟩)).mono fun _ _ h => ⟨fun h3 => absurd h3 (by decide), fun _ => h⟩
 | true =>
  by_cases hl : D.s.length < 98
  ·have e : jnLoadE D = 5 := by unfold jnLoadE; rw [if_neg (by simp [hok]), if_pos hl]
   rw [e]
   exact (refLoad14_form AV D w v 5 (.inr ⟨hok, hl, rfl⟩)).mono fun _ _ h => ⟨fun h3 => absurd h3 (by decide), fun _ => h⟩
  ·refine (refLoad14_go AV D w v hok (by omega)).mono fun e w' ⟨h1, h2, h3⟩ => ?_
   by_cases hE : suChE (dkRead D 0) (dkRead D 1) = 0
   ·by_cases hB : jnBase (jnHad D (jnLoadS D)) = (jnLoadS D).D
    ·have e : jnLoadE D = 0 := by unfold jnLoadE; rw [if_neg (by simp [hok]), if_neg hl, if_neg (fun h => h hE), if_neg (fun h => h hB)]
     rw [e]
     exact ⟨fun _ => h3 hE hB, fun h => absurd rfl h⟩
    ·have e : jnLoadE D = 6 := by unfold jnLoadE; rw [if_neg (by simp [hok]), if_neg hl, if_neg (fun h => h hE), if_pos hB]
     rw [e]
     exact ⟨fun h => absurd h (by decide), fun _ => h2 hE hB⟩
   ·have e : jnLoadE D = suChE (dkRead D 0) (dkRead D 1) := by unfold jnLoadE; rw [if_neg (by simp [hok]), if_neg hl, if_pos hE]
    rw [e]
    exact ⟨fun h => absurd h hE, fun _ => h1 hE⟩
end Go.Proofs.YtpahicfnhhhifaaGreat
namespace Go.Proofs.YtpahicfnhhhifaaGreat
set_option maxRecDepth 20000
set_option maxHeartbeats 1000000
def stWr (s : List (List UInt8)) (l : List Jb) : List (List UInt8) := l.foldl (fun s j => s.set j.1.toNat j.2) s
theorem stWr_snoc (s : List (List UInt8)) (l : List Jb) (x : Jb) : stWr s (l ++ [x]) = (stWr s l).set x.1.toNat x.2 := by simp [stWr]
theorem stWr_len (s : List (List UInt8)) : ∀ (l : List Jb), (stWr s l).length = s.length := by
 intro l
 unfold stWr
 induction l generalizing s with
 | nil => rfl
 | cons x l ih => rw [List.foldl_cons, ih]; simp
theorem stWr_at (s : List (List UInt8)) (i : Nat) (hi : i < s.length) : ∀ (n : Nat) (l : List Jb), l.length = n → (∀ j ∈ l, 0 ≤ j.1) → (stWr s l).getD i [] = dkAt ⟨s, l⟩ (fun _ => true) i := by
 intro n
 induction n with
 | zero =>
  intro l hl _
  obtain rfl : l = [] := List.length_eq_zero_iff.1 hl
  rfl
 | succ n ih =>
  intro l hl h0
  rcases List.eq_nil_or_concat l with rfl | ⟨m, x, rfl⟩
  ·simp at hl
  rw [List.concat_eq_append] at hl h0 ⊢
  have hm := ih m (by simpa using hl) (fun j hj => h0 j (List.mem_append_left _ hj))
  have hx := h0 x (by simp)
  rw [stWr_snoc, dkAt_snoc]
  by_cases e : x.1 = (i : Int)
  ·rw [if_pos ⟨rfl, e⟩, show x.1.toNat = i by omega, List.getD_eq_getElem?_getD, List.getElem?_set_self (by rw [stWr_len]; exact hi)]; rfl
  ·rw [if_neg (fun h => e h.2), ← hm, List.getD_eq_getElem?_getD, List.getD_eq_getElem?_getD, List.getElem?_set_ne (by omega)]
theorem fmt_flat (s : List (List UInt8)) (l : List Jb) (hok : dkOk ⟨s, []⟩ = true) (hl : l.length ≤ 512) (h : ∀ j ∈ l, 0 ≤ j.1 ∧ j.1 < (s.length : Int) ∧ j.2.length = 256) : dkFlush (jnWrites ⟨s, []⟩ l) = ⟨stWr s l, []⟩ := by
 obtain ⟨e1, e2⟩ := jnWrites_in l ⟨s, []⟩ hok (by simpa using hl) h
 rw [List.nil_append] at e1
 rw [dkFlush_eq _ e2, e1]
 unfold dkLeft
 congr 1
 apply List.ext_getElem
 ·simp [stWr_len]
 ·intro i h1 h2
  have hi : i < s.length := by simpa using h1
  have := stWr_at s i hi _ l rfl (fun j hj => (h j hj).1)
  rw [List.getD_eq_getElem?_getD, List.getElem?_eq_getElem (by rw [stWr_len]; exact hi)] at this
  simp only [List.getElem_map, List.getElem_range]
  exact this.symm
theorem jnFmt_flat (state : List UInt8) (n : Nat) (hn : 98 ≤ n ∧ n ≤ 256) (hs : state.length ≤ 12288) : jnFmt state (n : Int) = ⟨stWr (List.replicate n (List.replicate 256 0)) (jnFmtJobs state), []⟩ := by
 have e : jnFmtE state (n : Int) = 0 := by unfold jnFmtE; rw [if_neg (by omega), if_neg (by omega)]
 unfold jnFmt
 rw [if_pos e]
 have hd : dkNew (n : Int) = ⟨List.replicate n (List.replicate 256 0), []⟩ := by
  have e2 : dkNewE (n : Int) = 0 := by unfold dkNewE; rw [if_neg (by omega)]
  unfold dkNew; rw [if_pos e2]; simp
 rw [hd]
 have hM : (state.length + 255) / 256 ≤ 48 := by omega
 refine fmt_flat _ _ ?_ ?_ ?_
 ·refine (dkOk_iff _).2 ⟨by simp; omega, by simp, ?_, by simp⟩
  intro s hs
  rw [(List.mem_replicate.1 hs).2]; simp
 ·unfold jnFmtJobs jnSplit; rw [List.length_append, jnSplitK_len]; simp; omega
 ·intro j hj
  unfold jnFmtJobs jnSplit at hj
  rcases List.mem_append.1 hj with hj | hj
  ·obtain ⟨i, h1, rfl⟩ := jnSplitK_mem _ _ _ j hj
   rw [if_pos rfl]
   refine ⟨?_, ?_, jnSec_len _ _⟩
   ·show (0 : Int) ≤ 2 + (i : Int); omega
   ·show (2 : Int) + (i : Int) < _; simp; omega
  ·obtain rfl : j = _ := List.mem_singleton.1 hj
   refine ⟨by show (0 : Int) ≤ 1; decide, ?_, ?_⟩
   ·show (1 : Int) < _; simp; omega
   ·show (suPutL 1 0 (state.length : Int) (jnBase state)).length = 256
    have hc : suCheck 0 (state.length : Int) = true := by unfold suCheck; exact decide_eq_true ⟨.inl rfl, by omega, by omega⟩
    unfold suPutL; rw [if_pos hc]; exact suL_len _ _ _ _ (shOf_len _)
end Go.Proofs.YtpahicfnhhhifaaGreat
namespace Go.Proofs.YtpahicfnhhhifaaGreat
set_option maxRecDepth 20000
open Go.RowKit
set_option maxHeartbeats 4000000
def OwS (w : World) (b : Nat) (A : Option Addr) (n c : Nat) (ss : List (List UInt8)) : Prop := ss.length = n ∧ ∃ vs, w.ownsRow b 47 1 (.slice A n c) n vs ∧ ∀ j, j < n → ∃ B m d, vs[j]? = some (.slice B m d) ∧ OwnB w b B m d (ss.getD j [])
theorem RnR.own {V wr : World} {A : Option Addr} {c k b : Nat} (h : RnR V A c k wr) (hb : b ≤ V.heap.size) : OwS wr b A k c (List.replicate k (List.replicate 256 0)) := by
 obtain ⟨vs, h1, h2⟩ := h
 refine ⟨by simp, vs, own_mono h1 hb, fun j hj => ?_⟩
 obtain ⟨B, m, d, h3, h4⟩ := h2 j hj
 refine ⟨B, m, d, h3, ?_⟩
 have : (List.replicate k (List.replicate 256 (0 : UInt8))).getD j [] = List.replicate 256 0 := by
  rw [List.getD, List.getElem?_replicate, if_pos (by omega)]; rfl
 rw [this]; exact OwnB.mono h4 hb
def RetNw (w : World) (n : Nat) (e : Ending) (w' : World) : Prop := ∃ A c, e = .returned (.tuple #[.agg #[.slice A n c, .slice none 0 0], .int .i64 0]) ∧ OwS w' w.heap.size A n c (List.replicate n (List.replicate 256 0)) ∧ Below w.heap.size w w'
theorem ref_NewO_any (k9 : Nat) (hk9 : k9 ≤ 256) (w : World) :
  Calls Tryz.prog 81 #[.int .i64 (k9 : Int)] w (RetNw w k9) := by
 have d1 : decide ((k9 : Int) < 0) = false := decide_eq_false (by omega)
 have d2 : decide ((256 : Int) < (k9 : Int)) = false := decide_eq_false (by omega)
 obtain ⟨V, hV⟩ : ∃ V, V = (w.alloc (.cells #[.slice none 0 0, .slice none 0 0] 40)).alloc (.cells #[.slice none 0 0, .slice none 0 0] 40) := ⟨_, rfl⟩
 have bV : Below w.heap.size w V := by rw [hV]; exact ((below_self w).alloc (Nat.le_refl _) _).alloc (by simp) _
 have rV : Hid (DkAt V w.heap.size none 0 0 none 0 0) := by rw [hV]; exact Lib.hid (drw_old _ (drw_at _ rfl))
 have qV : Hid (DkAt V (w.heap.size + 1) none 0 0 none 0 0) := by rw [hV]; exact Lib.hid (drw_at _ (by simp))
 have zV : V.heap.size = w.heap.size + 1 + 1 := by rw [hV]; simp
 have HV := Lib.hid hV
 have ZV := Lib.hid zV
 clear hV zV
 go_enter Tryz.func81, Tryz.ntmps81
 go_wp2_with (rw [← HV.out])
 go_loopw [5] (RnI w V k9) (fun i _ => k9 - (intOf i).toNat)
 case atStart => exact ⟨0, none, 0, by omega, rfl, Lib.hid ⟨[], World.ownsRow_nil _ _ _ _, fun j hj => by omega⟩, rV, qV, bV, Nat.le_refl _⟩
 case round =>
 obtain ⟨k, A, c, hk, rfl, hS, hR, hQ, hB, hz⟩ := hrel
 by_cases hlt : k < k9
 ·have c0 := hQ.out.c0
  have c1 := hQ.out.c1
  have lq := hQ.out.lt
  have l1 : (k : Int) < (k9 : Int) := by omega
  have lV : w.heap.size + 1 < V.heap.size := by have := ZV.out; omega
  obtain ⟨vs, hO, hP⟩ := hS.out
  have HO := Lib.hid hO
  have HP := Lib.hid hP
  clear hO hP hS
  go_wp2_with fail
  refine wp_region_last (S := fun w' => Below (V.heap.size) wr w') 6 (brw9 7 63) [(0, true), (1, true), (2, false), (3, false), (4, false), (5, true)] (by kernel_rfl) (by kernel_rfl) (fun _ _ d _ _ h => by cases d <;> exact h) ((Below.refl _ wr).drew) ?_
  iterate 2 (refine seg_take (v := ?_) rfl (Or.inl ⟨by rfl, ?_⟩) ?_; rotate_left; (focus (intro w' hw'; have j0 := (hw'.cell (p := ⟨w.heap.size + 1, 0, none⟩) lV).trans c0; go_simp <;> with_reducible rfl)); try simp only [Act.put, pst3])
  refine seg_run rfl (fun K hK => ?_)
  rw [if_pos (by rfl)]
  refine op_makeB _ _ rfl .i64 .i64 256 rfl rfl (by omega) ?_
  intro w4 ho4 hb4
  refine hK.out _ _ (((undrew hb4).mono hz)) ?_
  clear hK
  try simp only [Act.put, pst3]
  refine seg_run rfl (fun K hK => ?_)
  rw [if_pos (by rfl)]
  refine op_lit #[.slice (some ⟨wr.drew.heap.size, 0, none⟩) 256 256] 47 1 rfl (fun w => by go_simp) ?_
  intro g5 w5 e5 hr5 hb5 hz5
  refine hK.out _ _ ((((undrew hb4).mono hz).trans (hb5.mono (Nat.le_trans hz (undrew hb4).size)))) ?_
  clear hK
  try simp only [Act.put, pst3]
  refine seg_run rfl (fun K hK => ?_)
  rw [if_pos (by rfl)]
  have hb45 := below_then (undrew hb4) hb5
  have O5 := down_keep HO.out hb45
  refine op_appSS _ _ rfl V.heap.size _ k vs rfl O5 (some ⟨g5, 0, none⟩) 1 1 [.slice (some ⟨wr.drew.heap.size, 0, none⟩) 256 256] rfl (.inr ⟨g5, 0, rfl, drw_lt hr5, fun i v hv => by rw [Nat.zero_add, cell_of_row w5 g5 i _ _ _ hr5]; simpa using hv⟩) rfl (by intro u hu; simp at hu; subst hu; rfl) (by omega) (by have := hb45.size; omega) (k + 1) _ rfl rfl ?_
  intro A7 c7 w7 ho7 hg7
  have hb7 : Below V.heap.size wr w7 := (hb45.mono hz).grown hg7 (by have := hb45.size; omega) (fun q hq => (O5.lt q hq).1)
  refine hK.out _ _ (hb7) ?_
  clear hK
  try simp only [Act.put, pst3]
  iterate 1 (refine seg_take (v := ?_) rfl (Or.inl ⟨by rfl, ?_⟩) ?_; rotate_left; (focus (intro w' hw'; have j0 := (hw'.cell (p := ⟨w.heap.size + 1, 0, none⟩) lV).trans c0; go_simp <;> with_reducible rfl)); try simp only [Act.put, pst3])
  refine seg_done ?_
  refine last_run rfl (fun K hK => ?_)
  go_simp
  have z0 := (hb7.cell (p := ⟨w.heap.size + 1, 0, none⟩) lV).trans c0
  have z1 := (hb7.frozen (p := ⟨w.heap.size + 1, 0, none⟩) lV).trans (hQ.out.fr 0)
  go_simp
  refine hK.out _ _ ?_
  clear hK
  try simp only [Act.put, pst3]
  have RN : RnR V A7 c7 (k + 1) w7 := ⟨_, ho7, fun j hj => by
   have hl : vs.length = k := by have := HO.out.1; omega
   rcases Nat.lt_or_ge j k with hjk | hjk
   ·obtain ⟨B, m, d, h3, h4⟩ := HP.out j hjk
    exact ⟨B, m, d, by rw [List.getElem?_append_left (by omega)]; exact h3, own_grown O5 (OwnB.below h4 hb45) (by decide) hg7⟩
   ·obtain rfl : j = k := by omega
    refine ⟨_, 256, 256, by rw [List.getElem?_append_right (by omega), hl, Nat.sub_self]; rfl, ?_⟩
    have h4 : OwnB w5 V.heap.size _ 256 256 _ := (OwnB.below ho4 hb5).mono hz
    exact own_grown O5 h4 (by decide) hg7⟩
  have Q7 : DkAt w7 (w.heap.size + 1) A k c none 0 0 := (hb7.block _ lV).trans hQ.out
  have R7 : DkAt w7 w.heap.size none 0 0 none 0 0 := (hb7.block _ (by omega)).trans hR.out
  have RN9 := Lib.hid (RN.far Q7 (by decide) (by decide) 0 (.slice A7 (k + 1) c7))
  have Q9 := Lib.hid (Q7.s0 A7 (k + 1) c7)
  have R9 : Hid (DkAt (w7.setCell ⟨w.heap.size + 1, 0, none⟩ (.slice A7 (k + 1) c7)) w.heap.size none 0 0 none 0 0) := Lib.hid ((heap_setCell_other _ _ _ _ (by show w.heap.size ≠ w.heap.size + 1; omega)).trans R7)
  have B9 : Below w.heap.size w (w7.setCell ⟨w.heap.size + 1, 0, none⟩ (.slice A7 (k + 1) c7)) := (hB.trans (hb7.mono (by omega))).setCell (p := ⟨w.heap.size + 1, 0, none⟩) (by show w.heap.size ≤ w.heap.size + 1; omega) _
  have z9 : V.heap.size ≤ (w7.setCell ⟨w.heap.size + 1, 0, none⟩ (.slice A7 (k + 1) c7)).heap.size := by have := hb7.size; simp; omega
  clear RN Q7 R7
  go_wp2_with fail
  go_roundw
  case rel => exact ⟨k + 1, A7, c7, by omega, by go_num, RN9, R9, Q9, B9, z9⟩
  case measure => simp [intOf]; omega
 ·obtain rfl : k9 = k := by omega
  have x0 := hQ.out.c0
  have x1 := hQ.out.c1
  have y0 := hR.out.c0
  have y1 := hR.out.c1
  have f0 := hR.out.fr 0
  have f1 := hR.out.fr 1
  have QS := Lib.hid (hR.out.s01 A k9 c none 0 0)
  have BF := below2 hB (q := w.heap.size) (Nat.le_refl _) (.slice A k9 c) (.slice none 0 0)
  have RF := ((hS.out.far hR.out (by decide) (by decide) 0 (.slice A k9 c)).far (hR.out.s0 A k9 c) (by decide) (by decide) 1 (.slice none 0 0)).own (b := w.heap.size) (by have := ZV.out; omega)
  go_wp2_with fail
  refine bodyPost_ret (dresults_cell_tmp Tryz.results81 _ _ (w.heap.size) 40 _ (0, 0) _ rfl QS.out Tryz.underlying40 rfl (dkInfo ..)) rfl ?_
  exact ⟨A, c, rfl, RF, BF⟩
end Go.Proofs.YtpahicfnhhhifaaGreat
