/-
 Proved here, for the statement JournalTells:
 Layer 14: journal: jobs, counts, Check.
 Layer 14: journal: Check, going.
-/
import Derived.Test.YtpahicfnhhhifaaGreatGt07
set_option linter.unusedVariables false
set_option linter.unusedSimpArgs false
namespace Go.Proofs.YtpahicfnhhhifaaGreat
set_option maxRecDepth 20000
open Go.RowKit
set_option maxHeartbeats 8000000
theorem jb1_any (a : Int) (A : Option Addr) (n c : Nat) (w : World) (hn : n ≤ 9223372036854775807) (ha : -9223372036854775808 ≤ a ∧ a ≤ 9223372036854775807) :
  Calls Tryz.prog 101 #[.agg #[.int .i64 a, .slice A n c]] w (RetV w (.bool (!(decide (0 ≤ a) && (decide (a < 256) && decide (n = 256)))))) := by
 by_cases h1 : 0 ≤ a
 ·have d1 : decide (a < 0) = false := decide_eq_false (by omega)
  by_cases h2 : a < 256
  ·have d2 : decide ((256 : Int) ≤ a) = false := decide_eq_false (by omega)
   by_cases h3 : n = 256
   ·have d3 : ((n : Int) != 256) = false := by simp; omega
    have e : (!(decide (0 ≤ a) && (decide (a < 256) && decide (n = 256)))) = false := by simp [h1, h2, h3]
    rw [e]
    clear e h3
    go_enter Tryz.func101, Tryz.ntmps101
    go_wp2_with fail
    go_ret
    exact ⟨rfl, (below_self w).alloc (Nat.le_refl _) _⟩
   ·have d3 : ((n : Int) != 256) = true := by simp; omega
    have e : (!(decide (0 ≤ a) && (decide (a < 256) && decide (n = 256)))) = true := by simp [h3]
    rw [e]
    clear e h3
    go_enter Tryz.func101, Tryz.ntmps101
    go_wp2_with fail
    go_ret
    exact ⟨rfl, (below_self w).alloc (Nat.le_refl _) _⟩
  ·have d2 : decide ((256 : Int) ≤ a) = true := decide_eq_true (by omega)
   have e : (!(decide (0 ≤ a) && (decide (a < 256) && decide (n = 256)))) = true := by simp [h2]
   rw [e]
   clear e
   go_enter Tryz.func101, Tryz.ntmps101
   go_wp2_with fail
   go_ret
   exact ⟨rfl, (below_self w).alloc (Nat.le_refl _) _⟩
 ·have d1 : decide (a < 0) = true := decide_eq_true (by omega)
  have e : (!(decide (0 ≤ a) && (decide (a < 256) && decide (n = 256)))) = true := by simp [h1]
  rw [e]
  clear e
  go_enter Tryz.func101, Tryz.ntmps101
  go_wp2_with fail
  go_ret
  exact ⟨rfl, (below_self w).alloc (Nat.le_refl _) _⟩
theorem jobsIdx_any (A : Option Addr) (kn kc : Nat) (us : List Value) (l : List Jb) (w : World) (hr : RdWs w A kn kc us l) (hn : kn ≤ 1000000) :
  Calls Tryz.prog 137 #[.slice A kn kc, .func (.func 101) #[] #[]] w (RetIx w kn (fun j => !jb1 (l.getD j (0, [])))) := by
 go_enter Tryz.func137, Tryz.ntmps137
 go_wp2_with fail
 go_loopw [8] (IxI w kn (fun j => !jb1 (l.getD j (0, [])))) (fun i _ => kn - (intOf i).toNat)
 case atStart => exact ⟨0, by omega, rfl, fun j hj => by omega, Below.refl _ _⟩
 case round =>
  obtain ⟨k, hk, rfl, hp, hB⟩ := hrel
  have HPp := Lib.hid hp
  clear hp
  by_cases hlt : k < kn
  ·obtain ⟨b, o, B, m, d, rfl, hb, hc0, hc1, hy, hrg⟩ := (hr.below hB).at_ k hlt
   have hm := hy.n63
   have hEq : jb1 (l.getD k (0, [])) = (decide (0 ≤ (l.getD k (0, [])).1) && (decide ((l.getD k (0, [])).1 < 256) && decide (m = 256))) := by unfold jb1; rw [hy.2.1]
   obtain ⟨a, ha⟩ : ∃ a, (l.getD k (0, [])).1 = a := ⟨_, rfl⟩
   rw [ha] at hc0 hrg hEq
   have H := Lib.hid (jb1_any a B m d wr hm hrg)
   rw [← hEq] at H
   obtain ⟨q, hq⟩ : ∃ q, jb1 (l.getD k (0, [])) = q := ⟨_, rfl⟩
   rw [hq] at H
   have HQ := Lib.hid hq
   clear hEq ha hq hy
   cases q with
   | true =>
    go_wp2_with fail
    refine H.out.mono ?_
    rintro e w2 ⟨rfl, hb2⟩
    go_wp2_with fail
    go_roundw
    case rel => exact ⟨k + 1, by omega, by go_num, fun j hj => by
     rcases Nat.lt_or_ge j k with h | h
     ·exact HPp.out j h
     ·obtain rfl : j = k := by omega
      show (!jb1 (l.getD j (0, []))) = false
      rw [HQ.out]; rfl, below_then hB hb2⟩
    case measure => simp [intOf]; omega
   | false =>
    go_wp2_with fail
    refine H.out.mono ?_
    rintro e w2 ⟨rfl, hb2⟩
    go_wp2_with fail
    go_ret
    exact ⟨_, rfl, .inl ⟨by omega, k, hlt, by show (!jb1 (l.getD k (0, []))) = true; rw [HQ.out]; rfl⟩, below_then hB hb2⟩
  ·obtain rfl : k = kn := by omega
   go_wp2_with fail
   go_ret
   exact ⟨_, rfl, .inr ⟨rfl, HPp.out⟩, hB⟩
theorem jobsHas_any (A : Option Addr) (kn kc : Nat) (us : List Value) (l : List Jb) (w : World) (hr : RdWs w A kn kc us l) (hn : kn ≤ 1000000) :
  Calls Tryz.prog 102 #[.slice A kn kc, .func (.func 101) #[] #[]] w (RetV w (.bool (!jbOk l))) := by
 have H := Lib.hid (jobsIdx_any A kn kc us l w hr hn)
 have HP := Lib.hid (nall_getD l jb1 (0, []))
 have HL := Lib.hid hr.len
 obtain ⟨P, hP⟩ : ∃ P, P = (!(l.all jb1)) := ⟨_, rfl⟩
 have e : (!jbOk l) = P := by rw [hP]; rfl
 rw [← hP] at HP
 rw [e]
 clear hP e
 go_enter Tryz.func102, Tryz.ntmps102
 go_wp2_with fail
 refine H.out.mono ?_
 rintro e w2 ⟨r, rfl, hrr, hb2⟩
 have hR : decide (0 ≤ r) = P := by
  rcases hrr with ⟨h1, j, h2, h3⟩ | ⟨h1, h2⟩
  ·rw [decide_eq_true h1, HP.out.2 ⟨j, by rw [HL.out]; exact h2, h3⟩]
  ·rw [decide_eq_false (by omega)]
   cases P with
   | false => rfl
   | true =>
    obtain ⟨j, h3, h4⟩ := HP.out.1 rfl
    exact absurd (h4.symm.trans (h2 j (by rw [← HL.out]; exact h3))) (by decide)
 clear hrr
 go_wp2_with fail
 go_ret
 exact ⟨rfl, hb2⟩
theorem jobs_any (A : Option Addr) (kn kc : Nat) (us : List Value) (l : List Jb) (w : World) (hr : RdWs w A kn kc us l) (hn : kn ≤ 1000000) :
  Calls Tryz.prog 62 #[.slice A kn kc] w (RetV w (.bool (jbOk l))) := by
 have H := Lib.hid (jobsHas_any A kn kc us l w hr hn)
 have e : jbOk l = !(!jbOk l) := by simp
 obtain ⟨q, hq⟩ : ∃ q, (!jbOk l) = q := ⟨_, rfl⟩
 rw [e]
 rw [hq] at H ⊢
 clear hr e hq
 go_enter Tryz.func62, Tryz.ntmps62
 go_wp2_with fail
 refine H.out.mono ?_
 rintro e w2 ⟨rfl, hb2⟩
 go_wp2_with fail
 go_ret
 exact ⟨rfl, hb2⟩
set_option maxRecDepth 100000 in
theorem counts_any (m : Jm) (J : Jn) (w : World) (hz : m.z) (hJ : J.ok) (hm : m.of J.wait J.jobs = J) (hwl : J.wait.length = m.wn) (hwn : m.wn ≤ 9223372036854775807) :
  Calls Tryz.prog 61 #[.agg (jmV m).toArray] w (RetV w (.bool (jnCnt J))) := by
 obtain ⟨V, hV⟩ : ∃ V, V = w.alloc (.cells (jmV m).toArray 36) := ⟨_, rfl⟩
 have bV : Below w.heap.size w V := by rw [hV]; exact (below_self w).alloc (Nat.le_refl _) _
 have q : JmAt V w.heap.size m := by rw [hV]; exact drw_at _ rfl
 obtain ⟨⟨_, _, c2, c3, c4⟩, ⟨c37, _, _, _, _, c76, _⟩, _⟩ := q.cells hz
 have e1 : J.room = m.room := by rw [← hm]; rfl
 have e2 : J.done = m.done := by rw [← hm]; rfl
 have e3 : J.will = m.will := by rw [← hm]; rfl
 have e4 : J.next = m.next := by rw [← hm]; rfl
 have hok := hJ
 have hcnt : jnCnt J = decide ((0 ≤ m.room ∧ m.room ≤ 158) ∧ (m.done ≤ m.will ∧ m.will ≤ m.next) ∧ (m.next : Int) ≤ m.room ∧ m.wn = m.next - m.will) := by unfold jnCnt; rw [e1, e2, e3, e4, hwl]
 have hn1 := hJ.next
 have hn2 := hJ.will
 rw [e4] at hn1
 rw [e3] at hn2
 rw [hcnt]
 obtain ⟨room, hroom⟩ : ∃ r, m.room = r := ⟨_, rfl⟩
 obtain ⟨dn, hdn⟩ : ∃ r, m.done = r := ⟨_, rfl⟩
 obtain ⟨wi, hwi⟩ : ∃ r, m.will = r := ⟨_, rfl⟩
 obtain ⟨nx, hnx⟩ : ∃ r, m.next = r := ⟨_, rfl⟩
 obtain ⟨wn, hwnn⟩ : ∃ r, m.wn = r := ⟨_, rfl⟩
 rw [hroom] at c76 ⊢
 rw [hdn] at c3 ⊢
 rw [hwi] at c4 hn2 ⊢
 rw [hnx] at c2 hn1 ⊢
 rw [hwnn] at c37 hwn ⊢
 have HV := Lib.hid hV
 clear hV q e1 e2 e3 e4 hcnt hok hJ hm hwl hz hroom hdn hwi hnx hwnn
 by_cases g1 : 0 ≤ room ∧ room ≤ 158 ∧ dn ≤ wi ∧ wi ≤ nx
 ·have d1 : decide (room < 0) = false := decide_eq_false (by omega)
  have d2 : decide ((158 : Int) < room) = false := decide_eq_false (by omega)
  have d3 : decide ((wi : Int) < (dn : Int)) = false := decide_eq_false (by omega)
  have d4 : decide ((nx : Int) < (wi : Int)) = false := decide_eq_false (by omega)
  have d3n : decide (wi < dn) = false := decide_eq_false (by omega)
  have d4n : decide (nx < wi) = false := decide_eq_false (by omega)
  by_cases g2 : (nx : Int) ≤ room
  ·have d5 : decide ((nx : Int) ≤ room) = true := decide_eq_true g2
   have e1 : (nx : Int) - (wi : Int) = ((nx - wi : Nat) : Int) := by omega
   obtain ⟨T, hT⟩ : ∃ T, T = nx - wi := ⟨_, rfl⟩
   have e2 : IntKind.u32.wrap ((nx : Int) - (wi : Int)) = (T : Int) := by rw [hT, e1, IntKind.wrap_u32]; omega
   have e3 : IntKind.i64.wrap (T : Int) = (T : Int) := IntWalk.i64_in _ (by omega)
   have e4 : ((wn : Int) == (T : Int)) = decide (wn = T) := by rw [Bool.eq_iff_iff, beq_iff_eq, decide_eq_true_iff]; omega
   have ef : decide ((0 ≤ room ∧ room ≤ 158) ∧ (dn ≤ wi ∧ wi ≤ nx) ∧ (nx : Int) ≤ room ∧ wn = nx - wi) = decide (wn = T) := by rw [hT]; apply decide_eq_decide.2; constructor <;> intro h <;> omega
   rw [ef]
   obtain ⟨R, hR⟩ : ∃ R, decide (wn = T) = R := ⟨_, rfl⟩
   rw [hR] at e4 ⊢
   clear hT ef hR e1
   go_enter Tryz.func61, Tryz.ntmps61
   go_wp2_with (rw [← HV.out])
   go_ret
   exact ⟨rfl, bV⟩
  ·have d5 : decide ((nx : Int) ≤ room) = false := decide_eq_false g2
   rw [decide_eq_false (by omega)]
   go_enter Tryz.func61, Tryz.ntmps61
   go_wp2_with (rw [← HV.out])
   go_ret
   exact ⟨rfl, bV⟩
 ·rw [decide_eq_false (by omega)]
  have hh : decide (room < 0) = true ∨ (decide (room < 0) = false ∧ decide ((158 : Int) < room) = true) ∨ (decide (room < 0) = false ∧ decide ((158 : Int) < room) = false ∧ decide ((wi : Int) < (dn : Int)) = true ∧ decide (wi < dn) = true) ∨ (decide (room < 0) = false ∧ decide ((158 : Int) < room) = false ∧ decide ((wi : Int) < (dn : Int)) = false ∧ decide (wi < dn) = false ∧ decide ((nx : Int) < (wi : Int)) = true ∧ decide (nx < wi) = true) := by
   simp only [decide_eq_true_eq, decide_eq_false_iff_not]
   omega
  clear g1
  rcases hh with d1 | ⟨d1, d2⟩ | ⟨d1, d2, d3, d3n⟩ | ⟨d1, d2, d3, d3n, d4, d4n⟩
  all_goals
   go_enter Tryz.func61, Tryz.ntmps61
   go_wp2_with (rw [← HV.out])
   go_ret
   exact ⟨rfl, bV⟩
set_option maxHeartbeats 8000000
section
variable {ops : Array Oper} {rest : List Oper} {o : Oper} {a : Act} {w : World} {Q : Exit → Act → World → Prop} {h : Nat} {m : Jm}
theorem jm_sup (hz : m.z) (hgd : o.guard = none) (z : Operand) (ho : o.op = .load 33 z) (hx : a.eval z = .pointer (some ⟨h, 41, none⟩)) (q : JmAt w h m)
  (hK : wpList Tryz.prog ops Q rest (a.put o.dst (.agg (suV m.su.g m.su.s m.su.l m.su.D))) w) : wpList Tryz.prog ops Q (o :: rest) a w :=
 wpList_load_mid hgd 33 z ho h 41 hx (suV m.su.g m.su.s m.su.l m.su.D).toList _ (q.sup hz) Tryz.underlying33 rfl (by rw [Array.length_toList]; exact suInfo _ _ _ _ hz.2) (by simpa using hK)
theorem jm_dig (hz : m.z) (hgd : o.guard = none) (z : Operand) (ho : o.op = .load 30 z) (hx : a.eval z = .pointer (some ⟨h, 5, none⟩)) (q : JmAt w h m)
  (hK : wpList Tryz.prog ops Q rest (a.put o.dst (.agg (m.ch.map vB).toArray)) w) : wpList Tryz.prog ops Q (o :: rest) a w :=
 wpList_load_mid hgd 30 z ho h 5 hx (m.ch.map vB) _ (q.dig hz) Tryz.underlying30 rfl (by rw [List.length_map, hz.1]; kernel_rfl) hK
end
set_option maxRecDepth 100000 in
theorem jrnCheck_any (P : Nat → Prop) (m : Jm) (J : Jn) (w : World) (hv : JIn P w m J) :
  Calls Tryz.prog 26 #[.agg (jmV m).toArray] w (RetV w (.bool (jnChk J))) := by
 obtain ⟨V, hV⟩ : ∃ V, V = w.alloc (.cells (jmV m).toArray 36) := ⟨_, rfl⟩
 have bV : Below w.heap.size w V := by rw [hV]; exact (below_self w).alloc (Nat.le_refl _) _
 have q : JmAt V w.heap.size m := by rw [hV]; exact drw_at _ rfl
 have hz := hv.z
 obtain ⟨hok, hm, hws, hjs⟩ := hv
 obtain ⟨us, hw⟩ := hws.now
 obtain ⟨ts, hj⟩ := hjs.now
 have hwl := hw.len
 have hjl := hj.len
 have hwn : m.wn ≤ 9223372036854775807 := by have := hw.2.2; unfold maxLen at this; omega
 have hjn : m.jn ≤ 9223372036854775807 := by have := hj.2.2; unfold maxLen at this; omega
 have C1 := Lib.hid (fun W => counts_any m J W hz hok hm hwl hwn)
 have e1 : J.slot = m.slot := by rw [← hm]; rfl
 have e2 : J.ph = m.ph := by rw [← hm]; rfl
 have e3 : J.err = m.err := by rw [← hm]; rfl
 have e4 : J.out = m.out := by rw [← hm]; rfl
 have e5 : J.su = m.su := by rw [← hm]; rfl
 have C4 := Lib.hid (fun W => suCheck_any m.su.g m.su.s m.su.l m.su.D W (by rw [← e5]; exact hok.ss) (by rw [← e5]; exact hok.sD))
 have hcnt : jnCnt J = true → m.wn ≤ 158 := fun h => by
  have h := of_decide_eq_true h
  have := h.2.2.2
  rw [hwl] at this
  have := h.1.2
  have := h.2.2.1
  omega
 have C2 := Lib.hid (fun W (hb : Below w.heap.size w W) (hn : m.jn ≤ 200) => jobs_any m.ja m.jn m.jc ts J.jobs W (hj.below hb) (by omega))
 have C3 := Lib.hid (fun W (hb : Below w.heap.size w W) (hn : m.wn ≤ 158) => jobs_any m.wa m.wn m.wc us J.wait W (hw.below hb) (by omega))
 have hchk : jnChk J = (decide (m.slot = 0 ∨ m.slot = 1) && (jnCnt J && (decide ((0 ≤ m.ph ∧ m.ph ≤ 7) ∧ (m.ph = 7 ↔ m.err ≠ 0)) && (decide ((0 ≤ m.out ∧ m.out ≤ 200) ∧ m.jn ≤ 200) && (jbOk J.jobs && (jbOk J.wait && suCheck m.su.s m.su.l)))))) := by unfold jnChk; rw [e1, e2, e3, e4, e5, hjl]
 obtain ⟨⟨_, c1, _, _, _⟩, ⟨c37, c38, c39, c40, _, _, c77⟩, _⟩ := q.cells hz
 obtain ⟨sl, hsl⟩ : ∃ r, m.slot = r := ⟨_, rfl⟩
 obtain ⟨ph, hph⟩ : ∃ r, m.ph = r := ⟨_, rfl⟩
 obtain ⟨er, her⟩ : ∃ r, m.err = r := ⟨_, rfl⟩
 obtain ⟨ou, hou⟩ : ∃ r, m.out = r := ⟨_, rfl⟩
 have hslr := hok.slot
 rw [e1, hsl] at hslr
 rw [hsl] at c1 hchk
 rw [hph] at c38 hchk
 rw [her] at c77 hchk
 rw [hou] at c40 hchk
 rw [hchk]
 obtain ⟨B2, hB2⟩ : ∃ b, jnCnt J = b := ⟨_, rfl⟩
 obtain ⟨B5, hB5⟩ : ∃ b, jbOk J.jobs = b := ⟨_, rfl⟩
 obtain ⟨B6, hB6⟩ : ∃ b, jbOk J.wait = b := ⟨_, rfl⟩
 obtain ⟨B7, hB7⟩ : ∃ b, suCheck m.su.s m.su.l = b := ⟨_, rfl⟩
 rw [hB2] at C1 hcnt ⊢
 rw [hB5] at C2 ⊢
 rw [hB6] at C3 ⊢
 rw [hB7] at C4 ⊢
 obtain ⟨R, hR⟩ : ∃ R, R = (decide (sl = 0 ∨ sl = 1) && (B2 && (decide ((0 ≤ ph ∧ ph ≤ 7) ∧ (ph = 7 ↔ er ≠ 0)) && (decide ((0 ≤ ou ∧ ou ≤ 200) ∧ m.jn ≤ 200) && (B5 && (B6 && B7)))))) := ⟨_, rfl⟩
 rw [← hR]
 have HR := Lib.hid hR
 clear hR
 have HV := Lib.hid hV
 have HQ := Lib.hid q
 have HZ := Lib.hid hz
 have HC := Lib.hid hcnt
 have HP := Lib.hid (And.intro hph (And.intro her hou))
 clear hV q hz hok hm hws hjs hw hj hwl hjl e1 e2 e3 e4 e5 hcnt hchk hsl hph her hou hB2 hB5 hB6 hB7
 by_cases g1 : sl = 0 ∨ sl = 1
 ·have e1 : sl / 2 = 0 := by rcases g1 with rfl | rfl <;> decide
  rw [decide_eq_true g1, Bool.true_and] at HR
  clear g1
  go_enter Tryz.func26, Tryz.ntmps26
  go_wp2_with (first | (rw [← HV.out]) | (refine wpList_unguard (by rfl) ?_; refine jm_load HZ.out rfl _ rfl rfl HQ.out ?_))
  refine (C1.out V).mono ?_
  rintro e w2 ⟨rfl, hb2⟩
  have Q2 := HQ.out.up hb2
  have b2 := below_then bV hb2
  obtain ⟨_, ⟨c37, c38, c39, c40, _, _, c77⟩, _⟩ := Q2.cells HZ.out
  rw [show m.ph = ph from HP.out.1] at c38
  rw [show m.err = er from HP.out.2.1] at c77
  rw [show m.out = ou from HP.out.2.2] at c40
  have q2 := Lib.hid Q2
  clear Q2
  cases B2 with
  | false =>
   go_wp2_with fail
   go_ret
   exact ⟨by rw [HR.out]; try rfl, b2⟩
  | true =>
   have hw158 := HC.out rfl
   simp only [Bool.true_and] at HR
   by_cases g2 : (0 ≤ ph ∧ ph ≤ 7) ∧ (ph = 7 ↔ er ≠ 0)
   ·rw [decide_eq_true g2, Bool.true_and] at HR
    have d1 : decide (ph < 0) = false := decide_eq_false (by omega)
    have d2 : decide (7 < ph) = false := decide_eq_false (by omega)
    by_cases g3 : (0 ≤ ou ∧ ou ≤ 200) ∧ m.jn ≤ 200
    ·rw [decide_eq_true g3, Bool.true_and] at HR
     have d3 : decide (ou < 0) = false := decide_eq_false (by omega)
     have d4 : decide (200 < ou) = false := decide_eq_false (by omega)
     have d5 : decide (200 < (m.jn : Int)) = false := decide_eq_false (by omega)
     have g5 := g3.2
     have g6 : (ph = 7 ∧ ¬ er = 0) ∨ (¬ ph = 7 ∧ er = 0) := by by_cases e : ph = 7 <;> simp_all
     clear g2 g3
     rcases g6 with ⟨p7, p0⟩ | ⟨p7, p0⟩
     all_goals
      have p7b := p7
      have p0b := p0
      clear p7b p0b
      go_wp2_with fail
      refine (C2.out w2 b2 g5).mono ?_
      rintro e w3 ⟨rfl, hb3⟩
      have b3 := below_then b2 hb3
      have Q3 := q2.out.up hb3
      obtain ⟨_, ⟨c37, c38, c39, c40, _, _, c77⟩, _⟩ := Q3.cells HZ.out
      clear Q3
      have q3 := Lib.hid (q2.out.up hb3)
      cases B5 with
      | false =>
       go_wp2_with fail
       go_ret
       exact ⟨by rw [HR.out]; try rfl, b3⟩
      | true =>
       simp only [Bool.true_and] at HR
       go_wp2_with fail
       refine (C3.out w3 b3 hw158).mono ?_
       rintro e w4 ⟨rfl, hb4⟩
       have b4 := below_then b3 hb4
       have q4 := Lib.hid (q3.out.up hb4)
       cases B6 with
       | false =>
        go_wp2_with fail
        go_ret
        exact ⟨by rw [HR.out]; try rfl, b4⟩
       | true =>
        simp only [Bool.true_and] at HR
        go_wp2_with (refine wpList_unguard (by rfl) ?_; refine jm_sup HZ.out rfl _ rfl rfl q4.out ?_)
        refine (C4.out w4).mono ?_
        rintro e w5 ⟨rfl, hb5⟩
        go_wp2_with fail
        go_ret
        exact ⟨by rw [HR.out]; try rfl, below_then b4 hb5⟩
    ·rw [decide_eq_false g3, Bool.false_and] at HR
     have g6 : (ph = 7 ∧ ¬ er = 0) ∨ (¬ ph = 7 ∧ er = 0) := by by_cases e : ph = 7 <;> simp_all
     have g7 : decide (ou < 0) = true ∨ (decide (ou < 0) = false ∧ decide (200 < ou) = true) ∨ (decide (ou < 0) = false ∧ decide (200 < ou) = false ∧ decide (200 < (m.jn : Int)) = true) := by
      simp only [decide_eq_true_eq, decide_eq_false_iff_not]
      omega
     clear g2 g3
     rcases g6 with ⟨p7, p0⟩ | ⟨p7, p0⟩
     all_goals
      rcases g7 with d3 | ⟨d3, d4⟩ | ⟨d3, d4, d5⟩
      all_goals
       go_wp2_with fail
       go_ret
       exact ⟨by rw [HR.out]; try rfl, b2⟩
   ·rw [decide_eq_false g2, Bool.false_and] at HR
    have g7 : decide (ph < 0) = true ∨ (decide (ph < 0) = false ∧ decide (7 < ph) = true) ∨ (decide (ph < 0) = false ∧ decide (7 < ph) = false ∧ ph = 7 ∧ er = 0) ∨ (decide (ph < 0) = false ∧ decide (7 < ph) = false ∧ ¬ ph = 7 ∧ ¬ er = 0) := by
     simp only [decide_eq_true_eq, decide_eq_false_iff_not]
     by_cases e : er = 0 <;> by_cases e2 : ph = 7 <;> simp_all <;> omega
    clear g2
    rcases g7 with d1 | ⟨d1, d2⟩ | ⟨d1, d2, p7, p0⟩ | ⟨d1, d2, p7, p0⟩
    rotate_left 3
    ·have pb : ((ph == 7) == (er == 0)) = true := by rw [beq_eq_false_iff_ne.2 p7, beq_eq_false_iff_ne.2 p0]; rfl
     go_wp2_with fail
     go_ret
     exact ⟨by rw [HR.out]; try rfl, b2⟩
    all_goals
     go_wp2_with fail
     go_ret
     exact ⟨by rw [HR.out]; try rfl, b2⟩
 ·have e1 : ¬ sl / 2 = 0 := by omega
  rw [decide_eq_false g1, Bool.false_and] at HR
  go_enter Tryz.func26, Tryz.ntmps26
  go_wp2_with (rw [← HV.out])
  go_ret
  exact ⟨by rw [HR.out]; try rfl, bV⟩
theorem jrnGoing_any (P : Nat → Prop) (m : Jm) (J : Jn) (w : World) (hv : JIn P w m J) :
  Calls Tryz.prog 48 #[.agg (jmV m).toArray] w (RetV w (.int .i64 (jnGoing J))) := by
 obtain ⟨V, hV⟩ : ∃ V, V = w.alloc (.cells (jmV m).toArray 36) := ⟨_, rfl⟩
 have bV : Below w.heap.size w V := by rw [hV]; exact (below_self w).alloc (Nat.le_refl _) _
 have q : JmAt V w.heap.size m := by rw [hV]; exact drw_at _ rfl
 have hz := hv.z
 have C := Lib.hid (jrnCheck_any P m J V (hv.below bV))
 have e3 : J.err = m.err := by rw [← hv.2.1]; rfl
 have hE : jnGoing J = if jnChk J = true then m.err else 3 := by unfold jnGoing; rw [e3]
 rw [hE]
 obtain ⟨B, hB⟩ : ∃ b, jnChk J = b := ⟨_, rfl⟩
 rw [hB] at C ⊢
 have HV := Lib.hid hV
 have HQ := Lib.hid q
 have HZ := Lib.hid hz
 clear hV q hz hv e3 hE hB
 cases B with
 | true =>
  go_enter Tryz.func48, Tryz.ntmps48
  go_wp2_with (first | (rw [← HV.out]) | (refine jm_load HZ.out rfl _ rfl rfl HQ.out ?_))
  refine C.out.mono ?_
  rintro e w2 ⟨rfl, hb2⟩
  have c77 := (HQ.out.up hb2).c77 HZ.out
  go_wp2_with fail
  go_ret
  exact ⟨rfl, below_then bV hb2⟩
 | false =>
  go_enter Tryz.func48, Tryz.ntmps48
  go_wp2_with (first | (rw [← HV.out]) | (refine jm_load HZ.out rfl _ rfl rfl HQ.out ?_))
  refine C.out.mono ?_
  rintro e w2 ⟨rfl, hb2⟩
  go_wp2_with fail
  go_ret
  exact ⟨rfl, below_then bV hb2⟩
set_option maxHeartbeats 4000000
theorem ws_at {w : World} {A : Option Addr} {n c : Nat} {us : List Value} {l : List Jb} (h : RdWs w A n c us l) (k : Nat) (hk : k < n) : ∃ b o B m d, A = some ⟨b, o, none⟩ ∧ b < w.heap.size ∧ w.cell? ⟨b, o + k * 2, none⟩ = some (.int .i64 (l.getD k (0, [])).1) ∧ w.cell? ⟨b, o + k * 2 + 1, none⟩ = some (.slice B m d) ∧ RdB w B m d (l.getD k (0, [])).2 ∧ (-9223372036854775808 ≤ (l.getD k (0, [])).1 ∧ (l.getD k (0, [])).1 ≤ 9223372036854775807) := by
 obtain ⟨b, o, B, m, d, h1, h2, h3, h4, h5, h6⟩ := h.at_ k hk
 exact ⟨b, o, B, m, d, h1, h2, h3, h4, h5, h6⟩
def JkI (w : World) (n : Nat) (l : List Jb) (i : Value) (wr : World) : Prop := ∃ k : Nat, k ≤ n ∧ i = .int .i64 (k : Int) ∧ (∀ j, j < k → jb1 (l.getD j (0, [])) = true) ∧ Below w.heap.size w wr
theorem jbOk_at {l : List Jb} : jbOk l = true ↔ ∀ j, j < l.length → jb1 (l.getD j (0, [])) = true := by
 unfold jbOk
 rw [List.all_eq_true]
 constructor
 ·intro h j hj
  rw [List.getD_eq_getElem?_getD, List.getElem?_eq_getElem hj]
  exact h _ (List.getElem_mem _)
 ·intro h x hx
  obtain ⟨j, hj, rfl⟩ := List.getElem_of_mem hx
  have := h j hj
  rwa [List.getD_eq_getElem?_getD, List.getElem?_eq_getElem hj] at this
theorem refJobs14_any (A : Option Addr) (n c : Nat) (us : List Value) (l : List Jb) (w : World) (hr : RdWs w A n c us l) :
  Calls Tryz.prog 64 #[.slice A n c] w (RetV w (.bool (jbOk l))) := by
 have hn63 : n ≤ 9223372036854775807 := by have := hr.2.2.1; have := hr.2.2.2.1; unfold maxLen at this; omega
 have hll : l.length = n := hr.len
 obtain ⟨R, hR⟩ : ∃ R, R = jbOk l := ⟨_, rfl⟩
 rw [← hR]
 have HRR := Lib.hid hR
 have HLL := Lib.hid hll
 have HR := Lib.hid hr
 clear hR hr hll
 go_enter Tryz.func64, Tryz.ntmps64
 go_wp2_with fail
 go_loopw [3] (JkI w n l) (fun i _ => n - (intOf i).toNat)
 case atStart => exact ⟨0, by omega, rfl, fun j hj => absurd hj (Nat.not_lt_zero j), Below.refl _ _⟩
 case round =>
 obtain ⟨k, hk, rfl, hA, hB⟩ := hrel
 have HA := Lib.hid hA
 clear hA
 by_cases hlt : k < n
 ·have i1 : (k : Int) < (n : Int) := by omega
  have d1 : decide ((k : Int) < (n : Int)) = true := decide_eq_true i1
  have wk2 : IntKind.i64.wrap ((k : Int) + 1) = (k : Int) + 1 := IntWalk.i64_in _ (by omega)
  obtain ⟨b, o, B, m, d, rfl, hb, c0, c1, r1, hx⟩ := ws_at (HR.out.below hB) k hlt
  have hj : jb1 (l.getD k (0, [])) = (decide (0 ≤ (l.getD k (0, [])).1) && (decide ((l.getD k (0, [])).1 < 256) && decide ((l.getD k (0, [])).2.length = 256))) := rfl
  have hm : (l.getD k (0, [])).2.length = m := r1.2.1
  have hm63 := r1.n63
  rw [hm] at hj
  obtain ⟨x, hxe⟩ : ∃ x, x = (l.getD k (0, [])).1 := ⟨_, rfl⟩
  rw [← hxe] at c0 hj hx
  have HJ := Lib.hid hj
  have no : jb1 (l.getD k (0, [])) = false → R = false := fun h => by
   rw [HRR.out]
   cases hb : jbOk l with
   | false => rfl
   | true => rw [jbOk_at.1 hb k (by rw [HLL.out]; exact hlt)] at h; cases h
  have NO := Lib.hid no
  clear hj hm r1 hxe no
  by_cases h1 : x < 0
  ·have q1 : decide (x < 0) = true := decide_eq_true h1
   obtain rfl : R = false := NO.out (by rw [HJ.out, decide_eq_false (by omega)]; rfl)
   go_wp2_with fail
   go_ret
   exact ⟨rfl, hB⟩
  have q1 : decide (x < 0) = false := decide_eq_false h1
  by_cases h2 : 255 < x
  ·have q2 : decide (255 < x) = true := decide_eq_true h2
   obtain rfl : R = false := NO.out (by rw [HJ.out, decide_eq_true (show 0 ≤ x by omega), decide_eq_false (show ¬ x < 256 by omega)]; rfl)
   go_wp2_with fail
   go_ret
   exact ⟨rfl, hB⟩
  have q2 : decide (255 < x) = false := decide_eq_false h2
  by_cases h3 : m = 256
  ·subst h3
   go_wp2_with fail
   go_roundw
   case rel => exact ⟨k + 1, by omega, by rw [Int.natCast_add]; rfl, fun j hj => by
    by_cases e : j = k
    ·rw [e, HJ.out, decide_eq_true (show 0 ≤ x by omega), decide_eq_true (show x < 256 by omega)]; rfl
    ·exact HA.out j (by omega), hB⟩
   case measure => simp [intOf]; omega
  ·have q3 : ((m : Int) == 256) = false := beq_eq_false_iff_ne.2 (by omega)
   have q3' : ¬ (m : Int) = 256 := by omega
   obtain rfl : R = false := NO.out (by rw [HJ.out, decide_eq_false h3]; simp)
   go_wp2_with fail
   go_ret
   exact ⟨rfl, hB⟩
 ·obtain rfl : k = n := by omega
  have i1 : ¬ (k : Int) < (k : Int) := by omega
  have d1 : decide ((k : Int) < (k : Int)) = false := decide_eq_false i1
  have d1' : decide (k < k) = false := decide_eq_false hlt
  have hR1 : R = true := by rw [HRR.out]; exact jbOk_at.2 (fun j hj => HA.out j (by have := HLL.out; omega))
  subst hR1
  go_wp2_with fail
  go_ret
  exact ⟨rfl, hB⟩
theorem refCheck14_any (P : Nat → Prop) (m : Jm) (J : Jn) (w : World) (hv : JIn P w m J) :
  Calls Tryz.prog 27 #[.agg (jmV m).toArray] w (RetV w (.bool (jnChk J))) := by
 obtain ⟨V, hV⟩ : ∃ V, V = w.alloc (.cells (jmV m).toArray 36) := ⟨_, rfl⟩
 have bV : Below w.heap.size w V := by rw [hV]; exact (below_self w).alloc (Nat.le_refl _) _
 have q : JmAt V w.heap.size m := by rw [hV]; exact drw_at _ rfl
 have hz := hv.z
 obtain ⟨hok, hm, hws, hjs⟩ := hv
 obtain ⟨us, hw⟩ := hws.now
 obtain ⟨ts, hj⟩ := hjs.now
 have hwl := hw.len
 have hjl := hj.len
 have hwn : m.wn ≤ 9223372036854775807 := by have := hw.2.2; unfold maxLen at this; omega
 have hjn : m.jn ≤ 9223372036854775807 := by have := hj.2.2; unfold maxLen at this; omega
 have e1 : J.slot = m.slot := by rw [← hm]; rfl
 have e2 : J.ph = m.ph := by rw [← hm]; rfl
 have e3 : J.err = m.err := by rw [← hm]; rfl
 have e4 : J.out = m.out := by rw [← hm]; rfl
 have e5 : J.su = m.su := by rw [← hm]; rfl
 have e6 : J.room = m.room := by rw [← hm]; rfl
 have e7 : J.done = m.done := by rw [← hm]; rfl
 have e8 : J.will = m.will := by rw [← hm]; rfl
 have e9 : J.next = m.next := by rw [← hm]; rfl
 have hn1 := hok.next
 have hn2 := hok.will
 have hn3 := hok.done
 have hrr := hok.room
 rw [e9] at hn1
 rw [e8] at hn2
 rw [e7] at hn3
 rw [e6] at hrr
 have C4 := Lib.hid (fun W => refsuCheck_any m.su.g m.su.s m.su.l m.su.D W (by rw [← e5]; exact hok.ss) (by rw [← e5]; exact hok.sD))
 have C2 := Lib.hid (fun W (hb : Below w.heap.size w W) => refJobs14_any m.ja m.jn m.jc ts J.jobs W (hj.below hb))
 have C3 := Lib.hid (fun W (hb : Below w.heap.size w W) => refJobs14_any m.wa m.wn m.wc us J.wait W (hw.below hb))
 have hchk : jnChk J = (decide (m.slot = 0 ∨ m.slot = 1) && (decide ((0 ≤ m.room ∧ m.room ≤ 158) ∧ (m.done ≤ m.will ∧ m.will ≤ m.next) ∧ (m.next : Int) ≤ m.room ∧ m.wn = m.next - m.will) && (decide ((0 ≤ m.ph ∧ m.ph ≤ 7) ∧ (m.ph = 7 ↔ m.err ≠ 0)) && (decide ((0 ≤ m.out ∧ m.out ≤ 200) ∧ m.jn ≤ 200) && (jbOk J.jobs && (jbOk J.wait && suCheck m.su.s m.su.l)))))) := by unfold jnChk jnCnt; rw [e1, e2, e3, e4, e5, e6, e7, e8, e9, hwl, hjl]
 obtain ⟨⟨_, c1, c2, c3, c4⟩, ⟨c37, c38, c39, c40, _, c76, c77⟩, _⟩ := q.cells hz
 obtain ⟨sl, hsl⟩ : ∃ r, m.slot = r := ⟨_, rfl⟩
 obtain ⟨ph, hph⟩ : ∃ r, m.ph = r := ⟨_, rfl⟩
 obtain ⟨er, her⟩ : ∃ r, m.err = r := ⟨_, rfl⟩
 obtain ⟨ou, hou⟩ : ∃ r, m.out = r := ⟨_, rfl⟩
 obtain ⟨room, hroom⟩ : ∃ r, m.room = r := ⟨_, rfl⟩
 obtain ⟨dn, hdn⟩ : ∃ r, m.done = r := ⟨_, rfl⟩
 obtain ⟨wi, hwi⟩ : ∃ r, m.will = r := ⟨_, rfl⟩
 obtain ⟨nx, hnx⟩ : ∃ r, m.next = r := ⟨_, rfl⟩
 obtain ⟨wn, hwnn⟩ : ∃ r, m.wn = r := ⟨_, rfl⟩
 obtain ⟨jn, hjnn⟩ : ∃ r, m.jn = r := ⟨_, rfl⟩
 rw [hsl] at c1 hchk
 rw [hph] at c38 hchk
 rw [her] at c77 hchk
 rw [hou] at c40 hchk
 rw [hroom] at c76 hchk hrr
 rw [hdn] at c3 hchk hn3
 rw [hwi] at c4 hchk hn2
 rw [hnx] at c2 hchk hn1
 rw [hwnn] at c37 hchk hwn C3
 rw [hjnn] at c39 hchk hjn C2
 rw [hchk]
 obtain ⟨B5, hB5⟩ : ∃ b, jbOk J.jobs = b := ⟨_, rfl⟩
 obtain ⟨B6, hB6⟩ : ∃ b, jbOk J.wait = b := ⟨_, rfl⟩
 obtain ⟨B7, hB7⟩ : ∃ b, suCheck m.su.s m.su.l = b := ⟨_, rfl⟩
 rw [hB5] at C2 ⊢
 rw [hB6] at C3 ⊢
 rw [hB7] at C4 ⊢
 obtain ⟨R, hR⟩ : ∃ R, R = (decide (sl = 0 ∨ sl = 1) && (decide ((0 ≤ room ∧ room ≤ 158) ∧ (dn ≤ wi ∧ wi ≤ nx) ∧ (nx : Int) ≤ room ∧ wn = nx - wi) && (decide ((0 ≤ ph ∧ ph ≤ 7) ∧ (ph = 7 ↔ er ≠ 0)) && (decide ((0 ≤ ou ∧ ou ≤ 200) ∧ jn ≤ 200) && (B5 && (B6 && B7)))))) := ⟨_, rfl⟩
 rw [← hR]
 have HR := Lib.hid hR
 have HV := Lib.hid hV
 have Q := Lib.hid q
 have HZ := Lib.hid hz
 have HM := Lib.hid hm
 clear hR hV q e1 e2 e3 e4 e5 e6 e7 e8 e9 hok hws hjs hw hj hwl hjl hchk hsl hph her hou hroom hdn hwi hnx hwnn hjnn hB5 hB6 hB7 hz hm
 have s0 : (sl != 0) = !decide (sl = 0) := by cases h : decide (sl = 0) <;> simp_all
 have s1 : (sl != 1) = !decide (sl = 1) := by cases h : decide (sl = 1) <;> simp_all
 by_cases hs : sl = 0 ∨ sl = 1
 case neg =>
  have d0 : (sl != 0) = true := by simp; omega
  have d1 : (sl != 1) = true := by simp; omega
  clear s0 s1
  obtain rfl : R = false := by rw [HR.out]; rw [decide_eq_false hs]; rfl
  go_enter Tryz.func27, Tryz.ntmps27
  go_wp2_with (rw [← HV.out])
  go_ret
  exact ⟨rfl, bV⟩
 have hs' : (sl = 0) ∨ (sl = 1) := hs
 have key : ∀ (hsl0 : (sl != 0) = false ∨ ((sl != 0) = true ∧ (sl != 1) = false)), Calls Tryz.prog 27 #[.agg (jmV m).toArray] w (RetV w (.bool R)) := by
  intro hsl0
  clear s0 s1 hs'
  have HSL := Lib.hid hs
  clear hs
  rcases hsl0 with d0 | ⟨d0, d1⟩
  all_goals
   by_cases h2 : room < 0
   case pos =>
    have f2 : decide (room < 0) = true := decide_eq_true h2
    obtain rfl : R = false := by rw [HR.out]; rw [show decide ((0 ≤ room ∧ room ≤ 158) ∧ (dn ≤ wi ∧ wi ≤ nx) ∧ (nx : Int) ≤ room ∧ wn = nx - wi) = false from decide_eq_false (by omega)]; simp
    go_enter Tryz.func27, Tryz.ntmps27
    go_wp2_with (rw [← HV.out])
    go_ret
    exact ⟨rfl, bV⟩
   have f2 : decide (room < 0) = false := decide_eq_false h2
   by_cases h3 : 158 < room
   case pos =>
    have f3 : decide (158 < room) = true := decide_eq_true h3
    obtain rfl : R = false := by rw [HR.out]; rw [show decide ((0 ≤ room ∧ room ≤ 158) ∧ (dn ≤ wi ∧ wi ≤ nx) ∧ (nx : Int) ≤ room ∧ wn = nx - wi) = false from decide_eq_false (by omega)]; simp
    go_enter Tryz.func27, Tryz.ntmps27
    go_wp2_with (rw [← HV.out])
    go_ret
    exact ⟨rfl, bV⟩
   have f3 : decide (158 < room) = false := decide_eq_false h3
   by_cases h4 : wi < dn
   case pos =>
    have f4 : decide ((wi : Int) < (dn : Int)) = true := decide_eq_true (by omega)
    have f4' : decide (wi < dn) = true := decide_eq_true h4
    obtain rfl : R = false := by rw [HR.out]; rw [show decide ((0 ≤ room ∧ room ≤ 158) ∧ (dn ≤ wi ∧ wi ≤ nx) ∧ (nx : Int) ≤ room ∧ wn = nx - wi) = false from decide_eq_false (by omega)]; simp
    go_enter Tryz.func27, Tryz.ntmps27
    go_wp2_with (rw [← HV.out])
    go_ret
    exact ⟨rfl, bV⟩
   have f4 : decide ((wi : Int) < (dn : Int)) = false := decide_eq_false (by omega)
   have f4' : decide (wi < dn) = false := decide_eq_false h4
   by_cases h5 : nx < wi
   case pos =>
    have f5 : decide ((nx : Int) < (wi : Int)) = true := decide_eq_true (by omega)
    have f5' : decide (nx < wi) = true := decide_eq_true h5
    obtain rfl : R = false := by rw [HR.out]; rw [show decide ((0 ≤ room ∧ room ≤ 158) ∧ (dn ≤ wi ∧ wi ≤ nx) ∧ (nx : Int) ≤ room ∧ wn = nx - wi) = false from decide_eq_false (by omega)]; simp
    go_enter Tryz.func27, Tryz.ntmps27
    go_wp2_with (rw [← HV.out])
    go_ret
    exact ⟨rfl, bV⟩
   have f5 : decide ((nx : Int) < (wi : Int)) = false := decide_eq_false (by omega)
   have f5' : decide (nx < wi) = false := decide_eq_false h5
   obtain ⟨r, rfl⟩ : ∃ r : Nat, room = (r : Int) := ⟨room.toNat, by omega⟩
   have u1 := w64n (k := nx) (by omega)
   have u2 := w64n (k := r) (by omega)
   have u3 := w64n (k := wn) (by omega)
   by_cases h6 : r < nx
   case pos =>
    have f6 : decide ((r : Int) < (nx : Int)) = true := decide_eq_true (by omega)
    have f6' : decide (r < nx) = true := decide_eq_true h6
    obtain rfl : R = false := by rw [HR.out]; rw [show decide ((0 ≤ (r : Int) ∧ (r : Int) ≤ 158) ∧ (dn ≤ wi ∧ wi ≤ nx) ∧ (nx : Int) ≤ (r : Int) ∧ wn = nx - wi) = false from decide_eq_false (by omega)]; simp
    go_enter Tryz.func27, Tryz.ntmps27
    go_wp2_with (rw [← HV.out])
    go_ret
    exact ⟨rfl, bV⟩
   have f6 : decide ((r : Int) < (nx : Int)) = false := decide_eq_false (by omega)
   have f6' : decide (r < nx) = false := decide_eq_false h6
   have g1 : (nx : Int) - (wi : Int) = ((nx - wi : Nat) : Int) := by omega
   obtain ⟨T, hT⟩ : ∃ T, T = nx - wi := ⟨_, rfl⟩
   have u4 : IntKind.u32.wrap ((nx : Int) - (wi : Int)) = (T : Int) := by rw [hT, g1, IntKind.wrap_u32]; omega
   have u5 := w64n (k := T) (by omega)
   have HT := Lib.hid hT
   clear g1 hT
   by_cases h7 : wn = T
   case neg =>
    have f7 : ((wn : Int) != (T : Int)) = true := by simp; omega
    have f7' : (wn != T) = true := by simpa using h7
    obtain rfl : R = false := by rw [HR.out]; have hT := HT.out; rw [show decide ((0 ≤ (r : Int) ∧ (r : Int) ≤ 158) ∧ (dn ≤ wi ∧ wi ≤ nx) ∧ (nx : Int) ≤ (r : Int) ∧ wn = nx - wi) = false from decide_eq_false (by omega)]; simp
    go_enter Tryz.func27, Tryz.ntmps27
    go_wp2_with (rw [← HV.out])
    go_ret
    exact ⟨rfl, bV⟩
   have f7 : ((wn : Int) != (T : Int)) = false := by simp; omega
   have f7' : (wn != T) = false := by simpa using h7
   have HC : Hid (decide ((0 ≤ (r : Int) ∧ (r : Int) ≤ 158) ∧ (dn ≤ wi ∧ wi ≤ nx) ∧ (nx : Int) ≤ (r : Int) ∧ wn = nx - wi) = true) := Lib.hid (decide_eq_true (by have hT := HT.out; omega))
   have HW7 := Lib.hid h7
   clear h7
   by_cases p1 : ph < 0
   case pos =>
    have y1 : decide (ph < 0) = true := decide_eq_true p1
    obtain rfl : R = false := by rw [HR.out]; rw [show decide ((0 ≤ ph ∧ ph ≤ 7) ∧ (ph = 7 ↔ er ≠ 0)) = false from decide_eq_false (by omega)]; simp
    go_enter Tryz.func27, Tryz.ntmps27
    go_wp2_with (rw [← HV.out])
    go_ret
    exact ⟨rfl, bV⟩
   have y1 : decide (ph < 0) = false := decide_eq_false p1
   by_cases p2 : 7 < ph
   case pos =>
    have y2 : decide (7 < ph) = true := decide_eq_true p2
    obtain rfl : R = false := by rw [HR.out]; rw [show decide ((0 ≤ ph ∧ ph ≤ 7) ∧ (ph = 7 ↔ er ≠ 0)) = false from decide_eq_false (by omega)]; simp
    go_enter Tryz.func27, Tryz.ntmps27
    go_wp2_with (rw [← HV.out])
    go_ret
    exact ⟨rfl, bV⟩
   have y2 : decide (7 < ph) = false := decide_eq_false p2
   by_cases p3 : ou < 0
   case pos =>
    have y3 : decide (ou < 0) = true := decide_eq_true p3
    obtain rfl : R = false := by rw [HR.out]; rw [show decide ((0 ≤ ou ∧ ou ≤ 200) ∧ jn ≤ 200) = false from decide_eq_false (by omega)]; simp
    go_enter Tryz.func27, Tryz.ntmps27
    go_wp2_with (rw [← HV.out])
    go_ret
    exact ⟨rfl, bV⟩
   have y3 : decide (ou < 0) = false := decide_eq_false p3
   by_cases p4 : 200 < ou
   case pos =>
    have y4 : decide (200 < ou) = true := decide_eq_true p4
    obtain rfl : R = false := by rw [HR.out]; rw [show decide ((0 ≤ ou ∧ ou ≤ 200) ∧ jn ≤ 200) = false from decide_eq_false (by omega)]; simp
    go_enter Tryz.func27, Tryz.ntmps27
    go_wp2_with (rw [← HV.out])
    go_ret
    exact ⟨rfl, bV⟩
   have y4 : decide (200 < ou) = false := decide_eq_false p4
   by_cases p5 : 200 < jn
   case pos =>
    have y5 : decide ((200 : Int) < (jn : Int)) = true := decide_eq_true (by omega)
    have y5' : decide (200 < jn) = true := decide_eq_true p5
    obtain rfl : R = false := by rw [HR.out]; rw [show decide ((0 ≤ ou ∧ ou ≤ 200) ∧ jn ≤ 200) = false from decide_eq_false (by omega)]; simp
    go_enter Tryz.func27, Tryz.ntmps27
    go_wp2_with (rw [← HV.out])
    go_ret
    exact ⟨rfl, bV⟩
   have y5 : decide ((200 : Int) < (jn : Int)) = false := decide_eq_false (by omega)
   have y5' : decide (200 < jn) = false := decide_eq_false p5
   have HO : Hid (decide ((0 ≤ ou ∧ ou ≤ 200) ∧ jn ≤ 200) = true) := Lib.hid (decide_eq_true (by omega))
   have HR2 : Hid (R = (decide (ph = 7 ↔ er ≠ 0) && (B5 && (B6 && B7)))) := Lib.hid (by
    rw [HR.out, HC.out, HO.out, decide_eq_true HSL.out]
    have : decide ((0 ≤ ph ∧ ph ≤ 7) ∧ (ph = 7 ↔ er ≠ 0)) = decide (ph = 7 ↔ er ≠ 0) := decide_eq_decide.2 ⟨fun h => h.2, fun h => ⟨⟨by omega, by omega⟩, h⟩⟩
    rw [this]; simp)
   clear HR HC HO HSL
   go_enter Tryz.func27, Tryz.ntmps27
   go_wp2_with (rw [← HV.out])
   refine (C2.out V bV).mono ?_
   rintro e w2 ⟨rfl, b2⟩
   have B2 := Lib.hid (below_then bV b2)
   have Q2 := Lib.hid (Q.out.up b2)
   have hlq := Q.out.lt
   have z37 := (World.cell?_of_block (b2.block _ hlq)).trans c37
   have z38 := (World.cell?_of_block (b2.block _ hlq)).trans c38
   have z77 := (World.cell?_of_block (b2.block _ hlq)).trans c77
   have hlq2 := Q2.out.lt
   cases B5 with
   | false =>
    obtain rfl : R = false := by rw [HR2.out]; simp
    go_wp2_with fail
    go_ret
    exact ⟨rfl, B2.out⟩
   | true =>
    go_wp2_with fail
    refine (C3.out w2 B2.out).mono ?_
    rintro e w3 ⟨rfl, b3⟩
    have B3 := Lib.hid (below_then B2.out b3)
    have Q3 := Lib.hid (Q2.out.up b3)
    have y38 := (World.cell?_of_block (b3.block _ hlq2)).trans z38
    have y77 := (World.cell?_of_block (b3.block _ hlq2)).trans z77
    have hlq3 := Q3.out.lt
    cases B6 with
    | false =>
     obtain rfl : R = false := by rw [HR2.out]; simp
     go_wp2_with fail
     go_ret
     exact ⟨rfl, B3.out⟩
    | true =>
     go_wp2_with (refine wpList_unguard (by rfl) (jm_sup HZ.out rfl _ rfl rfl Q3.out ?_))
     refine (C4.out w3).mono ?_
     rintro e w4 ⟨rfl, b4⟩
     have B4 := Lib.hid (below_then B3.out b4)
     have x38 := (World.cell?_of_block (b4.block _ hlq3)).trans y38
     have x77 := (World.cell?_of_block (b4.block _ hlq3)).trans y77
     cases B7 with
     | false =>
      obtain rfl : R = false := by rw [HR2.out]; simp
      go_wp2_with fail
      go_ret
      exact ⟨rfl, B4.out⟩
     | true =>
      have hR3 : R = ((er == 0) == (ph != 7)) := by
       rw [HR2.out]
       rw [show (er == 0) = decide (er = 0) by rw [Bool.eq_iff_iff]; simp, show (ph != 7) = !decide (ph = 7) by rw [Bool.eq_iff_iff]; simp]
       by_cases a : er = 0 <;> by_cases b : ph = 7 <;> simp [a, b]
      have HR3 := Lib.hid hR3
      clear hR3
      obtain ⟨k1, hk1⟩ : ∃ z, z = (er == 0) := ⟨_, rfl⟩
      obtain ⟨k2, hk2⟩ : ∃ z, z = (ph != 7) := ⟨_, rfl⟩
      have HK := Lib.hid (show R = (k1 == k2) by rw [HR3.out, hk1, hk2])
      cases k1 <;> cases k2
      all_goals
       obtain rfl := HK.out
       have hk1' := hk1.symm
       have hk2' := hk2.symm
       clear hk1 hk2 HR3 HK
       go_wp2_with fail
       go_ret
       exact ⟨rfl, B4.out⟩
 rcases hs' with h0 | h0
 ·exact key (.inl (by simp [h0]))
 ·exact key (.inr ⟨by simp [h0], by simp [h0]⟩)
set_option maxHeartbeats 4000000
def WkI (w : World) (n : Nat) (i : Value) (wr : World) : Prop := ∃ k : Nat, k ≤ n ∧ i = .int .i64 (k : Int) ∧ Below w.heap.size w wr
theorem refWorks14_self (A : Option Addr) (n c : Nat) (us : List Value) (B : Option Addr) (m d : Nat) (ts : List Value) (l : List Jb) (w : World) (h1 : RdWs w A n c us l) (h2 : RdWs w B m d ts l) :
  Calls Tryz.prog 19 #[.slice A n c, .slice B m d] w (RetV w (.bool true)) := by
 obtain rfl : n = m := h1.len.symm.trans h2.len
 have hn63 : n ≤ 9223372036854775807 := by have := h1.2.2.1; have := h1.2.2.2.1; unfold maxLen at this; omega
 have H1 := Lib.hid h1
 have H2 := Lib.hid h2
 clear h1 h2
 go_enter Tryz.func19, Tryz.ntmps19
 go_wp2_with fail
 go_loopw [5] (WkI w n) (fun i _ => n - (intOf i).toNat)
 case atStart => exact ⟨0, by omega, rfl, Below.refl _ _⟩
 case round =>
 obtain ⟨k, hk, rfl, hB⟩ := hrel
 have HBo := Lib.hid hB
 by_cases hlt : k < n
 ·have i1 : (k : Int) < (n : Int) := by omega
  have d1 : decide ((k : Int) < (n : Int)) = true := decide_eq_true i1
  have wk2 : IntKind.i64.wrap ((k : Int) + 1) = (k : Int) + 1 := IntWalk.i64_in _ (by omega)
  obtain ⟨b1, o1, B1, m1, q1, rfl, hb1, c10, c11, r1, hx⟩ := ws_at (H1.out.below hB) k hlt
  obtain ⟨b2, o2, B2, m2, q2, rfl, hb2, c20, c21, r2, -⟩ := ws_at (H2.out.below hB) k hlt
  obtain ⟨x, hxe⟩ : ∃ x, x = (l.getD k (0, [])).1 := ⟨_, rfl⟩
  obtain ⟨y, hye⟩ : ∃ x, x = (l.getD k (0, [])).2 := ⟨_, rfl⟩
  rw [← hxe] at c10 c20
  rw [← hye] at r1 r2
  have R1 := Lib.hid r1
  have R2 := Lib.hid r2
  clear r1 r2 hxe hye hx hB
  go_wp2_with fail
  refine wp_region_seg (S := fun w' => Below wr.heap.size wr w') 0 (brw9 25 33554431) [(0, true), (1, true), (2, true), (3, true), (4, true), (5, true), (6, true), (7, true), (8, true), (9, true), (10, true), (11, true), (12, true), (13, true), (14, true), (15, true), (16, true), (17, true), (18, true), (19, true), (20, true), (21, true), (22, false), (23, true), (24, true)] (by kernel_rfl) (by kernel_rfl) (fun _ _ d _ _ h => by first | (cases d <;> exact h) | cases h.1) ((Below.refl wr.heap.size wr).drew) ?_
  have HB := (Below.refl wr.heap.size wr).drew
  iterate 12 (refine seg_take (v := ?_) rfl (Or.inl ⟨by rfl, ?_⟩) ?_; rotate_left; (focus (intro w' hw'; have j1 := (hw'.cell (p := ⟨b1, o1 + k * 2, none⟩) hb1).trans c10; have j2 := (hw'.cell (p := ⟨b1, o1 + k * 2 + 1, none⟩) hb1).trans c11; have j3 := (hw'.cell (p := ⟨b2, o2 + k * 2, none⟩) hb2).trans c20; have j4 := (hw'.cell (p := ⟨b2, o2 + k * 2 + 1, none⟩) hb2).trans c21; go_simp <;> with_reducible rfl)); try simp only [Act.put, pst3])
  iterate 10 ((first | refine seg_take (v := undef) rfl (Or.inr ⟨by rfl, rfl⟩) ?_ | (refine seg_take (v := ?_) rfl (Or.inl ⟨by rfl, ?_⟩) ?_; rotate_left; (focus (intro w' hw'; have j1 := (hw'.cell (p := ⟨b1, o1 + k * 2, none⟩) hb1).trans c10; have j2 := (hw'.cell (p := ⟨b1, o1 + k * 2 + 1, none⟩) hb1).trans c11; have j3 := (hw'.cell (p := ⟨b2, o2 + k * 2, none⟩) hb2).trans c20; have j4 := (hw'.cell (p := ⟨b2, o2 + k * 2 + 1, none⟩) hb2).trans c21; go_simp <;> with_reducible rfl)))); try simp only [Act.put, pst3])
  refine seg_run rfl (fun K hK => ?_)
  go_simp
  have hh := bytes_any _ _ _ _ _ _ y y _ (R1.out.below HB) (R2.out.below HB)
  rw [decide_eq_true rfl] at hh
  refine hh.mono ?_
  rintro e_ w9 ⟨rfl, rfl⟩
  refine hK.out _ _ (HB) ?_
  clear hK
  try simp only [Act.put, pst3]
  iterate 1 ((first | refine seg_take (v := undef) rfl (Or.inr ⟨by rfl, rfl⟩) ?_ | (refine seg_take (v := ?_) rfl (Or.inl ⟨by rfl, ?_⟩) ?_; rotate_left; (focus (intro w' hw'; have j1 := (hw'.cell (p := ⟨b1, o1 + k * 2, none⟩) hb1).trans c10; have j2 := (hw'.cell (p := ⟨b1, o1 + k * 2 + 1, none⟩) hb1).trans c11; have j3 := (hw'.cell (p := ⟨b2, o2 + k * 2, none⟩) hb2).trans c20; have j4 := (hw'.cell (p := ⟨b2, o2 + k * 2 + 1, none⟩) hb2).trans c21; go_simp <;> with_reducible rfl)))); try simp only [Act.put, pst3])
  iterate 1 (refine seg_take (v := ?_) rfl (Or.inl ⟨by rfl, ?_⟩) ?_; rotate_left; (focus (intro w' hw'; have j1 := (hw'.cell (p := ⟨b1, o1 + k * 2, none⟩) hb1).trans c10; have j2 := (hw'.cell (p := ⟨b1, o1 + k * 2 + 1, none⟩) hb1).trans c11; have j3 := (hw'.cell (p := ⟨b2, o2 + k * 2, none⟩) hb2).trans c20; have j4 := (hw'.cell (p := ⟨b2, o2 + k * 2 + 1, none⟩) hb2).trans c21; go_simp <;> with_reducible rfl)); try simp only [Act.put, pst3])
  refine seg_done (fun _ => ?_)
  refine wpAnyH_done (by kernel_rfl) ?_ _
  have HBl := Lib.hid HB
  go_wp2_with fail
  go_roundw
  case rel => exact ⟨k + 1, by omega, by rw [Int.natCast_add]; rfl, HBo.out.trans (HBl.out.mono HBo.out.size)⟩
  case measure => simp [intOf]; omega
 ·obtain rfl : k = n := by omega
  have d1 : decide ((k : Int) < (k : Int)) = false := decide_eq_false (by omega)
  have d1' : decide (k < k) = false := decide_eq_false hlt
  clear hB
  go_wp2_with fail
  go_ret
  exact ⟨rfl, HBo.out⟩
theorem refSame14_self (P P' : Nat → Prop) (m m' : Jm) (J : Jn) (w : World) (h1 : JIn P w m J) (h2 : JIn P' w m' J) :
  Calls Tryz.prog 16 #[.agg (jmV m).toArray, .agg (jmV m').toArray] w (RetV w (.bool true)) := by
 obtain ⟨V, hV⟩ : ∃ V, V = (w.alloc (.cells (jmV m).toArray 36)).alloc (.cells (jmV m').toArray 36) := ⟨_, rfl⟩
 have bV : Below w.heap.size w V := by rw [hV]; exact ((below_self w).alloc (Nat.le_refl _) _).alloc (by simp) _
 have q : JmAt V w.heap.size m := by rw [hV]; exact drw_old _ (drw_at _ rfl)
 have q' : JmAt V (w.heap.size + 1) m' := by rw [hV]; exact drw_at _ (by simp)
 have hz := h1.z
 have hz' := h2.z
 obtain ⟨hok, hm, hws, hjs⟩ := h1
 obtain ⟨hok', hm', hws', hjs'⟩ := h2
 obtain ⟨us, hw⟩ := hws.now
 obtain ⟨ts, hj⟩ := hjs.now
 obtain ⟨us', hw'⟩ := hws'.now
 obtain ⟨ts', hj'⟩ := hjs'.now
 have CW := Lib.hid (fun W (hb : Below w.heap.size w W) => refWorks14_self m.wa m.wn m.wc us m'.wa m'.wn m'.wc us' J.wait W (hw.below hb) (hw'.below hb))
 have CJ := Lib.hid (fun W (hb : Below w.heap.size w W) => refWorks14_self m.ja m.jn m.jc ts m'.ja m'.jn m'.jc ts' J.jobs W (hj.below hb) (hj'.below hb))
 have hwn : m.wn ≤ 9223372036854775807 := by have := hw.2.2; unfold maxLen at this; omega
 have hjn : m.jn ≤ 9223372036854775807 := by have := hj.2.2; unfold maxLen at this; omega
 have hwn' : m'.wn ≤ 9223372036854775807 := by have := hw'.2.2; unfold maxLen at this; omega
 have hjn' : m'.jn ≤ 9223372036854775807 := by have := hj'.2.2; unfold maxLen at this; omega
 have e0 : m'.g = m.g := by have a := congrArg Jn.g hm; have b := congrArg Jn.g hm'; exact b.trans a.symm
 have e1 : m'.slot = m.slot := by have a := congrArg Jn.slot hm; have b := congrArg Jn.slot hm'; exact b.trans a.symm
 have e2 : m'.next = m.next := by have a := congrArg Jn.next hm; have b := congrArg Jn.next hm'; exact b.trans a.symm
 have e3 : m'.done = m.done := by have a := congrArg Jn.done hm; have b := congrArg Jn.done hm'; exact b.trans a.symm
 have e4 : m'.will = m.will := by have a := congrArg Jn.will hm; have b := congrArg Jn.will hm'; exact b.trans a.symm
 have e5 : m'.ch = m.ch := by have a := congrArg Jn.ch hm; have b := congrArg Jn.ch hm'; exact b.trans a.symm
 have e6 : m'.ph = m.ph := by have a := congrArg Jn.ph hm; have b := congrArg Jn.ph hm'; exact b.trans a.symm
 have e7 : m'.out = m.out := by have a := congrArg Jn.out hm; have b := congrArg Jn.out hm'; exact b.trans a.symm
 have e8 : m'.su = m.su := by have a := congrArg Jn.su hm; have b := congrArg Jn.su hm'; exact b.trans a.symm
 have e9 : m'.room = m.room := by have a := congrArg Jn.room hm; have b := congrArg Jn.room hm'; exact b.trans a.symm
 have e10 : m'.err = m.err := by have a := congrArg Jn.err hm; have b := congrArg Jn.err hm'; exact b.trans a.symm
 have hsu : m.su = J.su := congrArg Jn.su hm
 have hsok : m.su.ok := by rw [hsu]; exact ⟨hok.sg, hok.ss, hok.sl, hok.sD⟩
 have hsok' : m'.su.ok := by rw [e8]; exact hsok
 have kq1 : ∀ W : World, (Op.equalIn 10000 30 (.agg (m.ch.map vB).toArray) (.agg (m'.ch.map vB).toArray)).run Tryz.prog W = .ok true W := fun W => (run_eqIn_digest 9996 W m.ch m'.ch hz.1 hz'.1).trans (by rw [decide_eq_true e5.symm])
 have kq2 : ∀ W : World, (Op.equalIn 10000 33 (.agg (suV m.su.g m.su.s m.su.l m.su.D)) (.agg (suV m'.su.g m'.su.s m'.su.l m'.su.D))).run Tryz.prog W = .ok true W := fun W => (run_eqIn_su 9996 W m.su m'.su hsok hsok').trans (by rw [decide_eq_true e8.symm])
 obtain ⟨⟨a0, a1, a2, a3, a4⟩, ⟨a37, a38, a39, a40, -, a76, a77⟩, -⟩ := q.cells hz
 obtain ⟨⟨b0, b1, b2, b3, b4⟩, ⟨b37, b38, b39, b40, -, b76, b77⟩, -⟩ := q'.cells hz'
 rw [e0] at b0
 rw [e1] at b1
 rw [e2] at b2
 rw [e3] at b3
 rw [e4] at b4
 rw [e6] at b38
 rw [e7] at b40
 rw [e9] at b76
 rw [e10] at b77
 have HV := Lib.hid hV
 have BV := Lib.hid bV
 have Q := Lib.hid q
 have Q' := Lib.hid q'
 have AK := Lib.hid (show (V.cell? ⟨w.heap.size, 38, none⟩ = _ ∧ V.cell? ⟨w.heap.size, 39, none⟩ = _ ∧ V.cell? ⟨w.heap.size, 40, none⟩ = _ ∧ V.cell? ⟨w.heap.size, 76, none⟩ = _ ∧ V.cell? ⟨w.heap.size, 77, none⟩ = _) ∧ (V.cell? ⟨w.heap.size + 1, 38, none⟩ = _ ∧ V.cell? ⟨w.heap.size + 1, 39, none⟩ = _ ∧ V.cell? ⟨w.heap.size + 1, 40, none⟩ = _ ∧ V.cell? ⟨w.heap.size + 1, 76, none⟩ = _ ∧ V.cell? ⟨w.heap.size + 1, 77, none⟩ = _) from ⟨⟨a38, a39, a40, a76, a77⟩, b38, b39, b40, b76, b77⟩)
 rw [hV] at a0 a1 a2 a3 a4 a37 b0 b1 b2 b3 b4 b37
 clear a38 a39 a40 a76 a77 b38 b39 b40 b76 b77
 have HZ := Lib.hid hz
 have HZ' := Lib.hid hz'
 have DI := Lib.hid (show (Tryz.prog.info? 30).map (·.size) = some (m.ch.map vB).length by rw [List.length_map, hz.1]; kernel_rfl)
 have DI' := Lib.hid (show (Tryz.prog.info? 30).map (·.size) = some (m'.ch.map vB).length by rw [List.length_map, hz'.1]; kernel_rfl)
 have lq := q.lt
 have lq' := q'.lt
 clear hV bV q q' hz hz' hok hm hws hjs hok' hm' hws' hjs' hw hj hw' hj' e0 e1 e2 e3 e4 e5 e6 e7 e8 e9 e10 hsu hsok hsok'
 go_enter Tryz.func16, Tryz.ntmps16
 iterate 16 (first | go_values | go_skip | go_guarded | go_step | go_upon | go_back)
 simp only [List.append_eq, List.cons_append, List.nil_append]
 go_wp2_with (rw [← HV.out]; refine wpList_unguard (by rfl) ?_; first
  | (refine wpList_load_mid rfl 30 _ rfl w.heap.size 5 rfl (m.ch.map vB) _ (Q.out.dig HZ.out) Tryz.underlying30 rfl DI.out ?_; rw [HV.out])
  | (refine wpList_load_mid rfl 30 _ rfl (w.heap.size + 1) 5 rfl (m'.ch.map vB) _ (Q'.out.dig HZ'.out) Tryz.underlying30 rfl DI'.out ?_; rw [HV.out]))
 rw [← HV.out]
 obtain ⟨⟨a38, a39, a40, a76, a77⟩, b38, b39, b40, b76, b77⟩ := AK.out
 refine (CW.out V BV.out).mono ?_
 rintro e w2 ⟨rfl, x2⟩
 have B2 := Lib.hid (below_then BV.out x2)
 have Q2 := Lib.hid (Q.out.up x2)
 have Q2' := Lib.hid (Q'.out.up x2)
 have t : ∀ (i : Nat), w2.cell? ⟨w.heap.size, i, none⟩ = V.cell? ⟨w.heap.size, i, none⟩ := fun i => World.cell?_of_block (x2.block _ lq)
 have t' : ∀ (i : Nat), w2.cell? ⟨w.heap.size + 1, i, none⟩ = V.cell? ⟨w.heap.size + 1, i, none⟩ := fun i => World.cell?_of_block (x2.block _ lq')
 have a38_ := (t 38).trans a38
 have a39_ := (t 39).trans a39
 have a40_ := (t 40).trans a40
 have a76_ := (t 76).trans a76
 have a77_ := (t 77).trans a77
 have b38_ := (t' 38).trans b38
 have b39_ := (t' 39).trans b39
 have b40_ := (t' 40).trans b40
 have b76_ := (t' 76).trans b76
 have b77_ := (t' 77).trans b77
 clear a0 a1 a2 a3 a4 a37 a38 a39 a40 a76 a77 b0 b1 b2 b3 b4 b37 b38 b39 b40 b76 b77 t t' x2
 have l2 := Q2.out.lt
 have l2' := Q2'.out.lt
 go_wp2_with fail
 refine (CJ.out w2 B2.out).mono ?_
 rintro e w3 ⟨rfl, x3⟩
 have B3 := Lib.hid (below_then B2.out x3)
 have Q3 := Lib.hid (Q2.out.up x3)
 have Q3' := Lib.hid (Q2'.out.up x3)
 have t : ∀ (i : Nat), w3.cell? ⟨w.heap.size, i, none⟩ = w2.cell? ⟨w.heap.size, i, none⟩ := fun i => World.cell?_of_block (x3.block _ l2)
 have t' : ∀ (i : Nat), w3.cell? ⟨w.heap.size + 1, i, none⟩ = w2.cell? ⟨w.heap.size + 1, i, none⟩ := fun i => World.cell?_of_block (x3.block _ l2')
 have a40 := (t 40).trans a40_
 have a76 := (t 76).trans a76_
 have a77 := (t 77).trans a77_
 have b40 := (t' 40).trans b40_
 have b76 := (t' 76).trans b76_
 have b77 := (t' 77).trans b77_
 clear a38_ a39_ a40_ a76_ a77_ b38_ b39_ b40_ b76_ b77_ t t' x3
 go_wp2_with (first
  | (refine wpList_unguard (by rfl) (jm_sup HZ.out rfl _ rfl rfl Q3.out ?_))
  | (refine wpList_unguard (by rfl) (jm_sup HZ'.out rfl _ rfl rfl Q3'.out ?_)))
 go_ret
 exact ⟨rfl, B3.out⟩
end Go.Proofs.YtpahicfnhhhifaaGreat
