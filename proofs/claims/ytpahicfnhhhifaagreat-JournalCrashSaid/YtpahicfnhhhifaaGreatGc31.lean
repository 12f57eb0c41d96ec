/-
 Proved here, for the statement JournalCrash:
 Layer 14: a journal over a disk (plain): what is loaded behind a crash.
 Layer 14: JournalCrash.
-/
import Derived.Test.YtpahicfnhhhifaaGreatGc30
set_option linter.unusedVariables false
set_option linter.unusedSimpArgs false
namespace Go.Proofs.YtpahicfnhhhifaaGreat
set_option maxRecDepth 20000
set_option maxHeartbeats 1000000
structure PyLd (p : Py) (C : Dk) (g d : Nat) : Prop where
 e : jnLoadE C = 0
 s : jnLoadS C = headSu g (pySt p g)
 h : jnHad C (jnLoadS C) = pySt p g
 r : jnLoadR C = (pyRs p g).take d
 d : d ≤ (pyEv p g).length
 g : 1 ≤ g
theorem pyLd_of {n : Nat} {p : Py} (hb : PyB n p) (C : Dk) (f : Nat → List UInt8) (g d : Nat) (hg : GenAt f g (pySt p g) (pyRs p g) d) (hC : dkOk C = true) (hl : C.s.length = n) (hf : ∀ i : Nat, i < n → dkRead C (i : Int) = f i) (hg2 : 1 ≤ g ∧ g < 4294967296) (hd : d ≤ (pyEv p g).length) (hdn : d ≤ n - 98) (hl2 : (pyEv p g).length ≤ 4294967296) (hend : d < n - 98 → NoRec g (f (98 + d))) : PyLd p C g d := by
 have hst := hb.st g
 obtain ⟨h1, h2, h3, h4⟩ := gen_load C f g (pySt p g) (pyRs p g) d hg hC (by rw [hl]; exact hb.n98.1) (fun i hi => hf i (by rw [← hl]; exact hi)) hg2.2 (by omega) (rcsChain hb g hg2.2 hl2) (by rw [pyRs_len]; exact hd) (by rw [hl]; exact hdn) (fun h => hend (by rw [← hl]; exact h))
 exact ⟨h1, h2, h3, h4, hd, hg2.1⟩
theorem firsts (R : List Rc) (f : Nat → List UInt8) (lo : Nat) : ∀ m, ∃ d, lo ≤ d ∧ d ≤ lo + m ∧ (∀ i, lo ≤ i → i < d → f (98 + i) = rcPutL (R.getD i rcZ)) ∧ (d < lo + m → f (98 + d) ≠ rcPutL (R.getD d rcZ))
 | 0 => ⟨lo, Nat.le_refl _, Nat.le_refl _, fun i h1 h2 => by omega, fun h => by omega⟩
 | m + 1 => by
  obtain ⟨d, h1, h2, h3, h4⟩ := firsts R f lo m
  by_cases e : d < lo + m
  ·exact ⟨d, h1, by omega, h3, fun _ => h4 e⟩
  ·by_cases hf : f (98 + d) = rcPutL (R.getD d rcZ)
   ·refine ⟨d + 1, by omega, by omega, fun i a b => ?_, fun h => by omega⟩
    by_cases hi : i = d
    ·rw [hi]; exact hf
    ·exact h3 i a (by omega)
   ·exact ⟨d, h1, by omega, h3, fun _ => hf⟩
theorem pyCrash {n : Nat} {p : Py} (hI : PyI n p) (keep : List Bool) : ∃ g d, PyLd p (dkCrash p.D keep) g d ∧ (g = p.J.g ∧ p.J.done ≤ d ∨ g + 1 = p.J.g ∧ (3 ≤ p.J.ph ∧ p.J.ph ≤ 6) ∧ d = (pyEv p g).length) := by
 obtain ⟨hb, hp⟩ := hI
 have hC : dkCrash p.D keep = dkLeft p.D (dkKeep keep) := by unfold dkCrash; rw [if_pos hb.dk]
 rw [hC]
 have hok := dkLeft_ok p.D (dkKeep keep) hb.dk
 have hlen : (dkLeft p.D (dkKeep keep)).s.length = n := by rw [dkLeft_len]; exact hb.ds
 have hf : ∀ i : Nat, i < n → dkRead (dkLeft p.D (dkKeep keep)) (i : Int) = dkAt p.D (dkKeep keep) i := fun i hi => dkLeft_read p.D hb.dk _ i (by rw [hb.ds]; exact hi)
 have hn := hb.n98
 have hnr := hb.nr
 have hwl := hb.wl
 have hdl := hb.dl
 have hg1 := hb.g1
 have hg2 := hb.g2
 have hnx := hb.next
 have hpl := placeOf_ge
 have hss : ∀ g, secs (pySt p g) ≤ 12 := fun g => secs_le (hb.st g)
 have hlp : 2 ≤ p.J.g → Here p n (p.J.g - 1) (pyEv p (p.J.g - 1)).length → (pyEv p (p.J.g - 1)).length ≤ n - 98 := fun _ h => here_len hb h (Nat.le_refl _)
 rcases hp with ⟨a0, a1, a2, a3, a4, a5, a6⟩ | ⟨fz, a0, a1, a2⟩ | ⟨fz, a0, a1, a2, a3, a4⟩ | ⟨fz, a0, a1, a2, a3, a4, a5⟩
 ·have ef : ∀ a, dkAt p.D (dkKeep keep) a = secOf p.D a := fun a => by unfold dkAt secOf; rw [a4]; rfl
  refine ⟨p.J.g, p.J.will, pyLd_of hb _ (secOf p.D) _ _ a6.gen hok hlen (fun i hi => by rw [hf i hi, ef]) ⟨hg1, hg2⟩ (by omega) (by omega) (by omega) (fun h => a6.tail _ (Nat.le_refl _) (by omega)), .inl ⟨rfl, by omega⟩⟩
 ·obtain ⟨d, d1, d2, d3, d4⟩ := firsts (pyRs p p.J.g) (dkAt p.D (dkKeep keep)) p.J.done (p.J.will - p.J.done)
  have st : ∀ a, (∀ i, p.J.done ≤ i → i < p.J.will → 98 + i ≠ a) → dkAt p.D (dkKeep keep) a = secOf p.D a := fun a ha => und_stay a1 _ a (fun i h1 h2 e => ha i h1 h2 (by simp only [wrLog] at e; omega))
  obtain ⟨⟨h3, h4, h5, h6⟩, h7⟩ := a2
  refine ⟨p.J.g, d, pyLd_of hb _ (dkAt p.D (dkKeep keep)) _ _ ⟨?_, ?_, ?_, ?_⟩ hok hlen hf ⟨hg1, hg2⟩ (by omega) (by omega) (by omega) (fun h => ?_), .inl ⟨rfl, d1⟩⟩
  ·rw [st _ (fun i _ _ => by omega)]; exact h3
  ·rw [st _ (fun i _ _ => by omega)]; exact h4
  ·intro i hi
   have hi' : i < secs (pySt p p.J.g) := hi
   have := hss p.J.g
   have := hpl p.J.g
   rw [st _ (fun j _ _ => by omega)]; exact h5 i hi
  ·intro i hi
   by_cases hd : i < p.J.done
   ·rw [st _ (fun j _ _ => by omega)]; exact h6 i hd
   ·exact d3 i (by omega) hi
  ·have : dkAt p.D (dkKeep keep) (98 + d) = secOf p.D (98 + d) := by
    rcases und_at a1 (dkKeep keep) (98 + d) with e | ⟨i, i1, i2, i3, i4⟩
    ·exact e
    ·exfalso
     obtain rfl : i = d := by simp only [wrLog] at i3; omega
     exact d4 (by omega) i4
   rw [this]
   exact h7 d d1 (by omega)
 ·have hl := hlp a2 a4
  obtain ⟨g1, g2⟩ := here_slot hb a2 a3 a4 (dkKeep keep)
  refine ⟨p.J.g - 1, (pyEv p (p.J.g - 1)).length, pyLd_of hb _ (dkAt p.D (dkKeep keep)) _ _ g1 hok hlen hf ⟨by omega, by omega⟩ (Nat.le_refl _) hl (by omega) (fun h => g2 _ (Nat.le_refl _) (by omega)), .inr ⟨by omega, ?_, rfl⟩⟩
  rw [a0]; cases fz <;> decide
 ·have hl := hlp a2 a4
  obtain ⟨⟨h3, h4, h5, h6⟩, h7⟩ := a4
  have st : ∀ a, a ≠ p.J.g % 2 → dkAt p.D (dkKeep keep) a = secOf p.D a := fun a ha => und_stay a3 _ a (fun i h1 h2 e => ha (by simp only [wrHead] at e; omega))
  have hold : dkAt p.D (dkKeep keep) (p.J.g % 2) = secOf p.D (p.J.g % 2) ∨ dkAt p.D (dkKeep keep) (p.J.g % 2) = headB p.J.g (pySt p p.J.g) := by
   rcases und_at a3 (dkKeep keep) (p.J.g % 2) with e | ⟨i, i1, i2, i3, i4⟩
   ·exact .inl e
   ·exact .inr i4
  rcases hold with hold | hnew
  ·refine ⟨p.J.g - 1, (pyEv p (p.J.g - 1)).length, pyLd_of hb _ (dkAt p.D (dkKeep keep)) _ _ ⟨?_, ?_, ?_, ?_⟩ hok hlen hf ⟨by omega, by omega⟩ (Nat.le_refl _) hl (by omega) (fun h => ?_), .inr ⟨by omega, by rw [a0]; cases fz <;> decide, rfl⟩⟩
   ·rw [st _ (by omega)]; exact h3
   ·rw [show (p.J.g - 1 + 1) % 2 = p.J.g % 2 by omega, hold, show p.J.g % 2 = (p.J.g - 1 + 1) % 2 by omega]; exact h4
   ·intro i hi
    have := hpl (p.J.g - 1)
    rw [st _ (by omega)]; exact h5 i hi
   ·intro i hi
    rw [st _ (by omega)]; exact h6 i hi
   ·rw [st _ (by omega)]; exact h7 _ (Nat.le_refl _) (by omega)
  ·refine ⟨p.J.g, 0, pyLd_of hb _ (dkAt p.D (dkKeep keep)) _ _ ⟨hnew, ?_, ?_, fun i hi => absurd hi (Nat.not_lt_zero i)⟩ hok hlen hf ⟨hg1, hg2⟩ (Nat.zero_le _) (Nat.zero_le _) (by omega) (fun h => ?_), .inl ⟨rfl, by omega⟩⟩
   ·rw [st _ (by omega), show (p.J.g + 1) % 2 = (p.J.g - 1) % 2 by omega, h3]
    exact noHead_put (by omega) (by have := hb.st (p.J.g - 1); omega) (by omega)
   ·intro i hi
    have := hpl p.J.g
    rw [st _ (by omega)]; exact a5 i hi
   ·rw [st _ (by omega)]
    by_cases hi : 0 < (pyEv p (p.J.g - 1)).length
    ·rw [h6 0 hi]
     obtain ⟨r1, r2, r3, _⟩ := pyRs_at hb (p.J.g - 1) (by omega) 0 hi (by omega)
     exact noRec_put r1 r2 r3 (by omega)
    ·exact (h7 0 (by omega) (by omega)).up (by omega)
theorem pyRs_ev (p : Py) (g i : Nat) (hi : i < (pyEv p g).length) : ∃ Q, (pyRs p g).getD i rcZ = evRc g i Q ((pyEv p g).getD i ⟨0, 0, 0, []⟩) := by
 obtain ⟨Q, hQ⟩ := evRcs_get g (pyEv p g) 0 (jnBase (pySt p g)) i hi
 rw [Nat.zero_add] at hQ
 exact ⟨Q, hQ⟩
end Go.Proofs.YtpahicfnhhhifaaGreat
namespace Go.Proofs.YtpahicfnhhhifaaGreat
set_option maxRecDepth 20000
open Go.RowKit
set_option maxHeartbeats 8000000
def CrI (w : World) (g nn n : Nat) (i : Value) (wr : World) : Prop := ∃ (k : Nat) (p : Py) (f : Pf), k ≤ n ∧ i = .int .i64 (k : Int) ∧ PyI nn p ∧ Pl w.heap.size wr g p f ∧ Below w.heap.size w wr ∧ p.J.g ≤ k + 1
theorem su_fresh {ops : Array Oper} {rest : List Oper} {o : Oper} {a : Act} {w : World} {Q : Exit → Act → World → Prop} {h : Nat} (y : Su) (hgd : o.guard = none) (x z : Operand) (ho : o.op = .store 33 x z) (hx : a.eval x = .pointer (some ⟨h, 0, none⟩)) (hz : a.eval z = .agg y.v) (w0 : World) (hw : w = w0.alloc (.cells zz1 33)) (hh : w0.heap.size = h) (hl : y.D.length = 32)
  (hK : ∀ X, Hid (X.heap[h]? = some (.cells y.v 33 (0, 0))) → Below w0.heap.size w0 X → wpList Tryz.prog ops Q rest (a.put o.dst undef) X) : wpList Tryz.prog ops Q (o :: rest) a w := by
 subst hw
 have hrow : (w0.alloc (.cells zz1 33)).heap[h]? = some (.cells suZ.v 33 (0, 0)) := by rw [suZ_v]; exact drw_at _ hh
 exact su_store hgd x z ho h hx y suZ hz hrow hl suZ_len (hK _ (Lib.hid (setRow_heap _ _ _ y.v _ _ hrow)) (below_setRow ((below_self w0).alloc (Nat.le_refl _) _) (by omega) _))
theorem jrnCrash_out (n : Int) (A : Option Addr) (nl c : Nat) (us : List Value) (l : List Ac) (at_ : Int) (B : Option Addr) (m d : Nat) (w : World) (hr : RdAc w A nl c us l) (hm : m ≤ 9223372036854775807) (hn : n < 98 ∨ 256 < n) :
  Calls Tryz.prog 6 #[.int .i64 n, .slice A nl c, .int .i64 at_, .slice B m d] w (RetV w (.bool true)) := by
 rcases hn with hn | hn
 ·go_enter Tryz.func6, Tryz.ntmps6
  go_wp2_with fail
  refine (heads14 w).mono ?_
  rintro e w1 ⟨rfl, b1⟩
  go_wp2_with fail
  go_ret
  exact ⟨rfl, b1⟩
 ·have h2 : ¬ (n < 98) := by omega
  go_enter Tryz.func6, Tryz.ntmps6
  go_wp2_with fail
  refine (heads14 w).mono ?_
  rintro e w1 ⟨rfl, b1⟩
  go_wp2_with fail
  go_ret
  exact ⟨rfl, b1⟩
theorem jrnCrash_law (n : Int) (A : Option Addr) (nl c : Nat) (us : List Value) (l : List Ac) (at_ : Int) (B : Option Addr) (m d : Nat) (bs : List Bool) (w : World) (hn64 : -9223372036854775808 ≤ n ∧ n ≤ 9223372036854775807) (ha64 : -9223372036854775808 ≤ at_ ∧ at_ ≤ 9223372036854775807) (hr : RdAc w A nl c us l) (hb : RdBo w B m d bs) :
  Calls Tryz.prog 6 #[.int .i64 n, .slice A nl c, .int .i64 at_, .slice B m d] w (RetV w (.bool true)) := by
 have hm63 := hb.n63
 by_cases hn : n < 98 ∨ 256 < n
 ·exact jrnCrash_out n A nl c us l at_ B m d w hr hm63 hn
 obtain ⟨nn, rfl⟩ : ∃ m : Nat, n = (m : Int) := ⟨n.toNat, by omega⟩
 have h1 : ¬ ((nn : Int) < 98) := by omega
 have h2 : ¬ (256 < (nn : Int)) := by omega
 have h3 : 98 ≤ nn ∧ nn ≤ 256 := by omega
 have HR := Lib.hid hr
 have HBS := Lib.hid hb
 have HN3 := Lib.hid h3
 clear hn hn64 hr h3 hb
 go_enter Tryz.func6, Tryz.ntmps6
 go_wp2_with fail
 refine (small_any A nl c us l w HR.out).mono ?_
 rintro e w1 ⟨bs1, rfl, b1, hs⟩
 have B1 := Lib.hid b1
 cases bs1 with
 | false =>
  clear hs b1
  go_wp2_with fail
  refine (heads14 _).mono ?_
  rintro e w2 ⟨rfl, b2⟩
  go_wp2_with fail
  go_ret
  exact ⟨rfl, below_then B1.out b2⟩
 | true =>
  obtain ⟨h80, hst⟩ := hs rfl
  have HST := Lib.hid hst
  clear hs hst b1
  by_cases hm7 : 700 < m
  ·have m7 : (700 : Int) < (m : Int) := by omega
   have q7 : decide ((700 : Int) < (m : Int)) = true := decide_eq_true m7
   go_wp2_with fail
   refine (heads14 _).mono ?_
   rintro e w2 ⟨rfl, b2⟩
   go_wp2_with fail
   go_ret
   exact ⟨rfl, below_then B1.out b2⟩
  have m7 : ¬ (700 : Int) < (m : Int) := by omega
  have q7 : decide ((700 : Int) < (m : Int)) = false := decide_eq_false m7
  by_cases ha0 : at_ < 0
  ·have qa : decide (at_ < 0) = true := decide_eq_true ha0
   go_wp2_with fail
   refine (heads14 _).mono ?_
   rintro e w2 ⟨rfl, b2⟩
   go_wp2_with fail
   go_ret
   exact ⟨rfl, below_then B1.out b2⟩
  have qa : decide (at_ < 0) = false := decide_eq_false ha0
  go_wp2_with fail
  refine (begin_any nn HN3.out w1).mono ?_
  rintro e w2 ⟨g, f0, rfl, P0, b2⟩
  have PB := Lib.hid P0
  have BB := Lib.hid b2
  clear P0 b2
  have RW := Lib.hid (HR.out.below B1.out)
  go_wp2_with fail
  go_loopw [11] (CrI w1 g nn nl) (fun i _ => nl - (intOf i).toNat)
  case atStart => exact ⟨0, _, f0, by omega, rfl, pyBegin_I nn HN3.out, PB.out, BB.out, by unfold pyBegin jnBegin; split <;> simp [jnZ]⟩
  case round =>
  obtain ⟨k, p, f, hk, rfl, hI, hP, hB, hg⟩ := hrel
  by_cases hlt : k < nl ∧ (k : Int) ≤ at_
  ·obtain ⟨hlt, hat⟩ := hlt
   have i1 : (k : Int) < (nl : Int) := by omega
   have d1 : decide ((k : Int) < (nl : Int)) = true := decide_eq_true i1
   have d2 : decide ((k : Int) ≤ at_) = true := decide_eq_true hat
   have n1' : decide (k < nl) = true := decide_eq_true hlt
   have wk2 : IntKind.i64.wrap ((k : Int) + 1) = (k : Int) + 1 := IntWalk.i64_in _ (by omega)
   obtain ⟨bo, oo, A1, n1, c1, A2, n2, c2, rfl, hbo, c0, cc1, cc2, cc3, cc4, cc5, cc6, hok, r1, r2⟩ := RW.out.at_ k hlt
   have HP := Lib.hid hP
   have HBo := Lib.hid hB
   have HI := Lib.hid hI
   have RB1 := Lib.hid (r1.inn' (P := fun j => w1.heap.size ≤ j) hB (fun j hj => hj))
   have RB2 := Lib.hid (r2.inn' (P := fun j => w1.heap.size ≤ j) hB (fun j hj => hj))
   obtain ⟨a, ha⟩ : ∃ a : Ac, a = l.getD k ac0 := ⟨_, rfl⟩
   rw [← ha] at c0 cc1 cc2 cc3 cc4 RB1 RB2 hok
   have haok : a.ok := ⟨hok, by rw [ha]; exact HST.out k hlt⟩
   have hdo := (pyDo_I hI a haok).1
   have hdg := pyDo_g hI a
   obtain ⟨p1, hp1⟩ : ∃ p1, p1 = pyDo p a := ⟨_, rfl⟩
   have HDO : Hid (∀ W, Below wr.heap.size wr W → Calls Tryz.prog 12 #[.pointer (some ⟨g, 0, none⟩), .agg (acV a A1 n1 c1 A2 n2 c2)] W (RetPl w1.heap.size g W p1 true)) := Lib.hid (fun W hW => by
    rw [hp1]
    exact do_any nn w1.heap.size g p f a A1 n1 c1 A2 n2 c2 W hI (hP.below hW) haok (Nat.le_trans hB.size hW.size) (by omega) (RB1.out.below hW) (RB2.out.below hW))
   rw [← hp1] at hdo hdg
   have HDI := Lib.hid hdo
   clear hdo hp1
   have HC : Hid (∀ w', Below wr.heap.size wr w' → w'.cell? ⟨bo, oo + k * 7, none⟩ = some (.int .i64 a.k) ∧ w'.cell? ⟨bo, oo + k * 7 + 1, none⟩ = some (.int .i64 a.n) ∧ w'.cell? ⟨bo, oo + k * 7 + 2, none⟩ = some (.int .u64 (a.e.t : Int)) ∧ w'.cell? ⟨bo, oo + k * 7 + 3, none⟩ = some (.int .i64 a.e.k) ∧ w'.cell? ⟨bo, oo + k * 7 + 4, none⟩ = some (.int .u64 (a.e.c : Int)) ∧ w'.cell? ⟨bo, oo + k * 7 + 5, none⟩ = some (.slice A1 n1 c1) ∧ w'.cell? ⟨bo, oo + k * 7 + 6, none⟩ = some (.slice A2 n2 c2)) := Lib.hid (fun w' hw => by
    have u : ∀ i, w'.cell? ⟨bo, i, none⟩ = w1.cell? ⟨bo, i, none⟩ := fun i => (World.cell?_of_block (hw.block bo (Nat.lt_of_lt_of_le hbo hB.size))).trans (World.cell?_of_block (hB.block bo hbo))
    exact ⟨(u _).trans c0, (u _).trans cc1, (u _).trans cc2, (u _).trans cc3, (u _).trans cc4, (u _).trans cc5, (u _).trans cc6⟩)
   have HBz := hB.size
   clear c0 cc1 cc2 cc3 cc4 cc5 cc6 r1 r2 hok haok hI hP hB ha
   obtain ⟨c0, c1, c2, c3, c4, c5, c6⟩ := HC.out wr (Below.refl _ _)
   go_wp2_with fail
   refine (HDO.out _ (Below.refl _ _)).mono ?_
   rintro e_ w2 ⟨rfl, b2, f2, P2⟩
   have P2h := Lib.hid P2
   have hz2 := P2.z
   have B2 := Lib.hid (HBo.out.trans b2)
   have HCK := Lib.hid (jrnCheck_any (PlP g f2) f2.m p1.J w2 P2.j)
   rw [pyI_chk HDI.out] at HCK
   clear P2 b2 c0 c1 c2 c3 c4 c5 c6
   go_wp2_with (refine wpList_unguard (by rfl) (pl_loadJ rfl _ rfl rfl P2h.out.row hz2 ?_))
   refine HCK.out.mono ?_
   rintro e_ w3 ⟨rfl, b3⟩
   have P3 := Lib.hid (P2h.out.below b3)
   have B3 := Lib.hid (below_then B2.out b3)
   clear b3
   go_wp2_with fail
   go_roundw
   case rel => exact ⟨k + 1, p1, f2, by omega, by rw [Int.natCast_add]; rfl, HDI.out, P3.out, B3.out, by omega⟩
   case measure => simp [intOf]; omega
  ·obtain ⟨gn, dn, hld, hgd⟩ := pyCrash hI bs
   obtain ⟨C, hC⟩ : ∃ C, C = dkCrash p.D bs := ⟨_, rfl⟩
   rw [← hC] at hld
   have HP := Lib.hid hP
   have HBo := Lib.hid hB
   have HI := Lib.hid hI
   have HGD := Lib.hid hgd
   obtain ⟨S0, sn0, sc0, K0, kn0, kc0, hAV, hrd⟩ := hP.d.val
   obtain ⟨⟨rfl, rfl, rfl⟩, rfl, rfl, rfl⟩ : (f.dS = S0 ∧ f.dn = sn0 ∧ f.dc = sc0) ∧ f.dK = K0 ∧ f.kn = kn0 ∧ f.kc = kc0 := by simpa [Pf.AV] using hAV
   have hcr := ref_Crash_any f.dS f.dn f.dc f.dK f.kn f.kc p.D B m d bs wr hrd (HBS.out.below (below_then B1.out hB))
   rw [← hC] at hcr
   have HCr := Lib.hid hcr
   obtain ⟨st, hst⟩ : ∃ z, z = pySt p gn := ⟨_, rfl⟩
   obtain ⟨rs, hrs⟩ : ∃ z, z = (pyRs p gn).take dn := ⟨_, rfl⟩
   obtain ⟨S, hS⟩ : ∃ z, z = headSu gn st := ⟨_, rfl⟩
   have HLo : Hid (∀ AV W, DkVal AV W C → Calls Tryz.prog 31 #[.agg AV] W (RetLd W S st rs 0)) := Lib.hid (fun AV W v => (jrnLoad_any AV C W v).mono fun e w' h => by
    have h := h.1 hld.e
    rw [hld.h, hld.s, hld.r, ← hst, ← hrs, ← hS] at h; exact h)
   have hSg : S.g = gn := by rw [hS]; rfl
   have hSl : S.D.length = 32 := by rw [hS]; exact jnBase_len _
   have hSl := hSl
   have hgn : gn < 4294967296 ∧ 1 ≤ gn ∧ gn ≤ p.J.g := by have := hI.1.g2; have := hld.g; rcases hgd with ⟨h, -⟩ | ⟨h, -⟩ <;> omega
   have hst3 : st.length ≤ 3000 := by rw [hst]; exact hI.1.st gn
   have hSok : S.ok := by
    rw [hS]
    refine ⟨hgn.1, ?_, ?_, jnBase_len _⟩
    ·show -9223372036854775808 ≤ slotOf gn ∧ slotOf gn ≤ 9223372036854775807
     unfold slotOf; omega
    ·show -9223372036854775808 ≤ (st.length : Int) ∧ (st.length : Int) ≤ 9223372036854775807
     omega
   have KQ : Hid (∀ W, (Op.equalIn 10000 33 (.agg S.v) (.agg S.v)).run Tryz.prog W = .ok true W) := Lib.hid (fun W => (run_eqIn_su 9996 W S S hSok hSok).trans (by rw [decide_eq_true rfl]))
   have hS0 : S.v[0]? = some (.int .u32 (gn : Int)) := by rw [← hSg]; unfold Su.v suV; rw [Array.getElem?_append_left (by simp)]; rfl
   have hrl : rs.length = dn := by rw [hrs, List.length_take, pyRs_len]; have := hld.d; omega
   have hgl : gn < p.sts.length ∧ gn < p.evs.length := by have := hI.1.sl; have := hI.1.el; omega
   have HRL := Lib.hid hrl
   have HGL := Lib.hid hgl
   have HSl := Lib.hid hSl
   have HSg := Lib.hid hSg
   have HST' := Lib.hid hst
   have HRS := Lib.hid hrs
   have x78 := hP.row.c78 hP.z
   have x79 := hP.row.c79 hP.z
   have hdl := hld.d
   have hg1 := hld.g
   have HS0 := Lib.hid hS
   clear hcr hrd hAV hC hld hI hP hB hgd hst hrs hS hSl hSg hSok hrl hgl
   rcases (show (¬ (k : Int) < (nl : Int)) ∨ ((k : Int) < (nl : Int) ∧ ¬ (k : Int) ≤ at_) by omega) with hx1 | ⟨hx1, hx2⟩
   ·have d1 : decide ((k : Int) < (nl : Int)) = false := decide_eq_false hx1
    have d2 : decide (k < nl) = false := decide_eq_false (by omega)
    go_wp2_with fail
    refine HCr.out.mono ?_
    rintro e_ w3 ⟨S3, sn3, sc3, K3, kn3, kc3, rfl, v3, b3⟩
    have vC : DkVal #[.slice S3 sn3 sc3, .slice K3 kn3 kc3] w3 C := ⟨_, _, _, _, _, _, rfl, v3⟩
    have B3 := Lib.hid b3
    clear v3 b3 x78 x79
    obtain ⟨AV, hAV⟩ : ∃ z, z = (#[.slice S3 sn3 sc3, .slice K3 kn3 kc3] : Array Value) := ⟨_, rfl⟩
    rw [← hAV] at vC ⊢
    clear hAV
    go_wp2_with (first | (refine dk_fresh rfl _ _ rfl rfl rfl w3 rfl rfl vC ?_; intro X4 v4 b4; have B4 := Lib.hid (B3.out.trans (b4.mono B3.out.size)); clear b4) | (refine dk_load rfl _ rfl rfl v4.out ?_))
    refine (HLo.out AV _ v4.out.2).mono ?_
    rintro e_ w5 ⟨A5, n5, c5, R5, m5, q5, rfl, o5, r5, b5⟩
    have O5 := Lib.hid o5.rd
    have P5 := Lib.hid r5
    have v5 := Lib.hid (DkV.up v4.out b5)
    have B5 := Lib.hid (below_then B4.out b5)
    clear o5 r5 b5
    go_wp2_with (first | (refine su_fresh S rfl _ _ rfl rfl rfl w5 rfl rfl HSl.out ?_; intro X6 s6 b6; have B6 := Lib.hid (below_then B5.out b6); have v6 := Lib.hid (DkV.up v5.out b6)) | (refine dk_load rfl _ rfl rfl v6.out ?_))
    refine (HLo.out AV _ v6.out.2).mono ?_
    rintro e_ w7 ⟨A7, n7, c7, R7, m7', q7, rfl, o7, r7, b7⟩
    have O7 := Lib.hid o7.rd
    have P7 := Lib.hid r7
    have s7 := Lib.hid (drw_up s6.out b7)
    have B7 := Lib.hid (below_then B6.out b7)
    have O5' := Lib.hid (O5.out.below (below_then b6 b7))
    have P5' := Lib.hid (P5.out.below (below_then b6 b7))
    clear o7 r7 b7 b6
    go_wp2_with (first | (refine su_fresh S rfl _ _ rfl rfl rfl w7 rfl rfl HSl.out ?_; intro X8 s8 b8; have B8 := Lib.hid (below_then B7.out b8); have s9 := Lib.hid (drw_up s7.out b8); have g0 := (cell_of_row X8 w5.heap.size 0 _ _ _ s9.out).trans hS0; have kq := KQ.out) | (refine su_loadG (by rfl) _ rfl w5.heap.size rfl S s9.out HSl.out ?_) | (refine su_loadG (by rfl) _ rfl w7.heap.size rfl S s8.out HSl.out ?_))
    have hby := bytes_any A5 A7 n5 c5 n7 c7 st st X8 (O5'.out.below b8) (O7.out.below b8)
    rw [decide_eq_true rfl] at hby
    refine hby.mono ?_
    rintro e_ w9 ⟨rfl, rfl⟩
    obtain rfl : dn = m5 := HRL.out.symm.trans P5.out.len
    obtain rfl : dn = m7' := HRL.out.symm.trans P7.out.len
    clear hby
    go_wp2_with fail
    have P8 := Lib.hid (OwR.below P5'.out b8)
    refine (refRecs_self R5 dn q5 R7 q7 rs X8 P8.out.rds (OwR.rds (OwR.below P7.out b8))).mono ?_
    rintro e_ w10 ⟨rfl, b10⟩
    have B10 := Lib.hid (below_then B8.out b10)
    have HP' := Lib.hid (HP.out.below B10.out)
    obtain ⟨hsn, bs_, As, ns, ds, hsa, hbs, hcs, hrs_⟩ := HP'.out.st_at gn HGL.out.1
    obtain ⟨hen, be_, Ae, ne, de, hea, hbe, hce, hle, hne63, hev⟩ := HP'.out.ev_at gn HGL.out.2
    have x82 := HP'.out.row.c82 HP'.out.z
    have x83 := HP'.out.row.c83 HP'.out.z
    rw [hsa, hsn] at x82
    rw [hea, hen] at x83
    have hl1 : (gn : Int) < (p.sts.length : Int) := by have := HGL.out.1; omega
    have hl2 : (gn : Int) < (p.evs.length : Int) := by have := HGL.out.2; omega
    have hl3 : ¬ ((gn : Int) < 1) := by have := HGL.out.2; omega
    have dl1 : decide ((p.sts.length : Int) ≤ (gn : Int)) = false := decide_eq_false (by omega)
    have dl2 : decide (p.sts.length ≤ gn) = false := decide_eq_false (by omega)
    have hdn : dn ≤ ne := by rw [← hle]; exact hdl
    have dl3 : decide ((ne : Int) < (dn : Int)) = false := decide_eq_false (by omega)
    have dl4 : decide (ne < dn) = false := decide_eq_false (by omega)
    have HEV := Lib.hid hev
    have HRS_ := Lib.hid hrs_
    have HLE := Lib.hid hle
    clear hev hrs_ hle
    go_wp2_with fail
    have hby := bytes_any A5 As n5 c5 ns ds st (p.sts.getD gn []) w10 ((O5'.out.below b8).below b10) HRS_.out
    rw [decide_eq_true (show st = p.sts.getD gn [] from HST'.out)] at hby
    refine hby.mono ?_
    rintro e_ w11 ⟨rfl, rfl⟩
    have R10 := Lib.hid (P8.out.rds.below b10)
    clear hby x82 b8 b10
    go_wp2_with fail
    go_loopw [23] (RrI14 dn w10) (fun i _ => dn - (intOf i).toNat)
    case atStart => exact ⟨0, by omega, rfl, Below.refl _ _⟩
    case round =>
    clear x83
    obtain ⟨k2, hk2, rfl, hB2⟩ := hrel
    have HBq := Lib.hid hB2
    have x83 := HP'.out.row.c83 HP'.out.z
    rw [hea, hen] at x83
    by_cases hlt2 : k2 < dn
    ·have i2 : (k2 : Int) < (dn : Int) := by omega
     have i3 : (k2 : Int) < (ne : Int) := by omega
     have wk3 : IntKind.i64.wrap ((k2 : Int) + 1) = (k2 : Int) + 1 := IntWalk.i64_in _ (by omega)
     obtain ⟨b1_, o1_, B1_, m1_, d1_, rfl, hb1, f1, r1, ok1⟩ := R10.out.2.2 k2 hlt2
     obtain ⟨b2_, o2_, B2_, m2_, d2_, rfl, hb2, f2, r2⟩ := HEV.out k2 (by omega)
     have hevs : p.evs.getD gn [] = pyEv p gn := rfl
     rw [hevs] at f2 r2
     obtain ⟨ev, hev⟩ : ∃ z : Ev, z = (pyEv p gn).getD k2 ⟨0, 0, 0, []⟩ := ⟨_, rfl⟩
     obtain ⟨Qd, hQ⟩ := pyRs_ev p gn k2 (by omega)
     rw [← hev] at f2 r2 hQ
     have hrk : rs.getD k2 rcZ = evRc gn k2 Qd ev := by
      rw [HRS.out, ← hQ, List.getD_eq_getElem?_getD, List.getD_eq_getElem?_getD, List.getElem?_take, if_pos hlt2]
     rw [hrk] at f1 r1
     have HL1 : Hid (∀ w', Below w10.heap.size w10 w' → (loadVar 49 ⟨b1_, o1_ + k2 * 39 + 3, none⟩).run Tryz.prog w' = .ok (.agg #[.int .u64 (ev.t : Int), .int .i64 ev.k, .int .u64 (ev.c : Int), .slice B1_ m1_ d1_]) w') := Lib.hid (fun w' hw => run_loadVar_mid w' b1_ (o1_ + k2 * 39 + 3) 49 [.int .u64 (ev.t : Int), .int .i64 ev.k, .int .u64 (ev.c : Int), .slice B1_ m1_ d1_] _ (fun j v hv => by
      have hj : j < 4 := (List.getElem?_eq_some_iff.1 hv).1
      rw [World.cell?_of_block (hw.block b1_ hb1), Nat.add_assoc, f1 (3 + j) (by omega), ← hv]
      match j, hj with
      | 0, _ => rfl
      | 1, _ => rfl
      | 2, _ => rfl
      | 3, _ => rfl) Tryz.underlying49 rfl (by kernel_rfl))
     have HL2 : Hid (∀ w', Below w10.heap.size w10 w' → (loadVar 49 ⟨b2_, o2_ + k2 * 4, none⟩).run Tryz.prog w' = .ok (.agg #[.int .u64 (ev.t : Int), .int .i64 ev.k, .int .u64 (ev.c : Int), .slice B2_ m2_ d2_]) w') := Lib.hid (fun w' hw => run_loadVar_mid w' b2_ (o2_ + k2 * 4) 49 [.int .u64 (ev.t : Int), .int .i64 ev.k, .int .u64 (ev.c : Int), .slice B2_ m2_ d2_] _ (fun j v hv => by
      have hj : j < 4 := (List.getElem?_eq_some_iff.1 hv).1
      rw [World.cell?_of_block (hw.block b2_ hb2), f2 j hj, ← hv]) Tryz.underlying49 rfl (by kernel_rfl))
     have HS2 : Hid (∀ W, Below w10.heap.size w10 W → _) := Lib.hid (fun W (hW : Below w10.heap.size w10 W) => refEvents12_self ev.t ev.k ev.c B1_ m1_ d1_ B2_ m2_ d2_ ev.b W (r1.below hW) (r2.below hW))
     have HX : Hid (∀ w', Below w10.heap.size w10 w' → w'.cell? ⟨g, 83, none⟩ = some (.slice (some ⟨be_, 0, none⟩) p.evs.length f.ec) ∧ w'.cell? ⟨be_, gn, none⟩ = some (.slice (some ⟨b2_, o2_, none⟩) ne de)) := Lib.hid (fun w' hw => ⟨(World.cell?_of_block (hw.block g HP'.out.row.lt)).trans x83, (World.cell?_of_block (hw.block be_ hbe)).trans hce⟩)
     have tr : ∀ w', Below wr.heap.size wr w' → True := fun _ _ => trivial
     clear f1 f2 r1 r2 ok1 hb1 hb2 x83 hev hQ hrk tr hB2
     go_wp2_with fail
     have hBz2 := HBq.out.size
     have hle63 := hne63
     refine wp_region_seg (S := fun w' => Below wr.heap.size wr w') 0 (brw9 17 131071) [(0, true), (1, true), (2, true), (3, true), (4, true), (5, true), (6, true), (7, true), (8, true), (9, true), (10, true), (11, true), (12, true), (13, true), (14, true), (15, false), (16, true)] (by kernel_rfl) (by kernel_rfl) (fun _ _ d _ _ h => by first | (cases d <;> exact h) | cases h.1) ((Below.refl wr.heap.size wr).drew) ?_
     have HB := (Below.refl wr.heap.size wr).drew
     iterate 4 (refine seg_take (v := ?_) rfl (Or.inl ⟨by rfl, ?_⟩) ?_; rotate_left; (focus (intro w' hw'; obtain ⟨x83, xbe⟩ := HX.out w' (HBq.out.trans (hw'.mono hBz2)); go_simp <;> with_reducible rfl)); try simp only [Act.put, pst3])
     refine seg_take (v := (.agg #[.int .u64 (ev.t : Int), .int .i64 ev.k, .int .u64 (ev.c : Int), .slice B1_ m1_ d1_])) rfl (Or.inl ⟨by rfl, fun w' hw' => ?_⟩) ?_
     focus (exact ex_load rfl rfl (HL1.out w' (HBq.out.trans (hw'.mono hBz2))))
     try simp only [Act.put, pst3]
     iterate 9 (refine seg_take (v := ?_) rfl (Or.inl ⟨by rfl, ?_⟩) ?_; rotate_left; (focus (intro w' hw'; obtain ⟨x83, xbe⟩ := HX.out w' (HBq.out.trans (hw'.mono hBz2)); go_simp <;> with_reducible rfl)); try simp only [Act.put, pst3])
     refine seg_take (v := (.agg #[.int .u64 (ev.t : Int), .int .i64 ev.k, .int .u64 (ev.c : Int), .slice B2_ m2_ d2_])) rfl (Or.inl ⟨by rfl, fun w' hw' => ?_⟩) ?_
     focus (exact ex_load rfl rfl (HL2.out w' (HBq.out.trans (hw'.mono hBz2))))
     try simp only [Act.put, pst3]
     refine seg_run rfl (fun K hK => ?_)
     go_simp
     refine (HS2.out _ (HBq.out.trans (HB.mono hBz2))).mono ?_
     rintro e_ wE ⟨rfl, bE⟩
     have HB := below_then HB bE
     refine hK.out _ _ (HB) ?_
     clear hK
     try simp only [Act.put, pst3]
     iterate 1 (refine seg_take (v := ?_) rfl (Or.inl ⟨by rfl, ?_⟩) ?_; rotate_left; (focus (intro w' hw'; obtain ⟨x83, xbe⟩ := HX.out w' (HBq.out.trans (hw'.mono hBz2)); go_simp <;> with_reducible rfl)); try simp only [Act.put, pst3])
     refine seg_done (fun _ => ?_)
     refine wpAnyH_done (by kernel_rfl) ?_ _
     have HB' := Lib.hid HB
     go_wp2_with fail
     go_roundw
     case rel => exact ⟨k2 + 1, by omega, by rw [Int.natCast_add]; rfl, HBq.out.trans (HB'.out.mono hBz2)⟩
     case measure => simp [intOf]; omega
    ·obtain rfl : dn = k2 := by omega
     clear hB2
     have PW := Lib.hid (HP'.out.below HBq.out)
     obtain ⟨y0, y2, y3, y38, -, -⟩ := PW.out.nums
     have BA := Lib.hid (below_then (below_then (below_then B1.out HBo.out) B10.out) HBq.out)
     have xbe : wr.cell? ⟨be_, gn, none⟩ = _ := (World.cell?_of_block (HBq.out.block be_ hbe)).trans hce
     have x83 : wr.cell? ⟨g, 83, none⟩ = _ := (World.cell?_of_block (HBq.out.block g HP'.out.row.lt)).trans x83
     have hJg := HI.out.1.g2
     clear y2
     rcases HGD.out with ⟨hg1, hg2⟩ | ⟨hg1, ⟨hp1, hp2⟩, hg3⟩
     ·rw [← hg1] at y0
      have e1 : decide ((p.J.done : Int) ≤ (dn : Int)) = true := decide_eq_true (by omega)
      have e2 : decide (p.J.done ≤ dn) = true := decide_eq_true hg2
      go_wp2_with fail
      refine (heads14 _).mono ?_
      rintro e_ w12 ⟨rfl, b12⟩
      go_wp2_with fail
      go_ret
      exact ⟨rfl, below_then BA.out b12⟩
     ·rw [← hg1] at y0
      have e1 : (((gn : Int)) == ((gn + 1 : Nat) : Int)) = false := beq_eq_false_iff_ne.2 (by omega)
      have e2 : (gn == gn + 1) = false := beq_eq_false_iff_ne.2 (by omega)
      have hne : dn = ne := hg3.trans HLE.out
      subst hne
      clear hg1 hg3 hJg
      obtain ⟨ph, hph⟩ : ∃ z, z = p.J.ph := ⟨_, rfl⟩
      rw [← hph] at y38 hp1 hp2
      obtain rfl | rfl | rfl | rfl : ph = 3 ∨ ph = 4 ∨ ph = 5 ∨ ph = 6 := by omega
      all_goals
       go_wp2_with fail
       refine (heads14 _).mono ?_
       rintro e_ w12 ⟨rfl, b12⟩
       go_wp2_with fail
       go_ret
       exact ⟨rfl, below_then BA.out b12⟩
   ·have d1 : decide ((k : Int) < (nl : Int)) = true := decide_eq_true hx1
    have d2 : decide (k < nl) = true := decide_eq_true (by omega)
    have d3 : decide ((k : Int) ≤ at_) = false := decide_eq_false hx2
    go_wp2_with fail
    refine HCr.out.mono ?_
    rintro e_ w3 ⟨S3, sn3, sc3, K3, kn3, kc3, rfl, v3, b3⟩
    have vC : DkVal #[.slice S3 sn3 sc3, .slice K3 kn3 kc3] w3 C := ⟨_, _, _, _, _, _, rfl, v3⟩
    have B3 := Lib.hid b3
    clear v3 b3 x78 x79
    obtain ⟨AV, hAV⟩ : ∃ z, z = (#[.slice S3 sn3 sc3, .slice K3 kn3 kc3] : Array Value) := ⟨_, rfl⟩
    rw [← hAV] at vC ⊢
    clear hAV
    go_wp2_with (first | (refine dk_fresh rfl _ _ rfl rfl rfl w3 rfl rfl vC ?_; intro X4 v4 b4; have B4 := Lib.hid (B3.out.trans (b4.mono B3.out.size)); clear b4) | (refine dk_load rfl _ rfl rfl v4.out ?_))
    refine (HLo.out AV _ v4.out.2).mono ?_
    rintro e_ w5 ⟨A5, n5, c5, R5, m5, q5, rfl, o5, r5, b5⟩
    have O5 := Lib.hid o5.rd
    have P5 := Lib.hid r5
    have v5 := Lib.hid (DkV.up v4.out b5)
    have B5 := Lib.hid (below_then B4.out b5)
    clear o5 r5 b5
    go_wp2_with (first | (refine su_fresh S rfl _ _ rfl rfl rfl w5 rfl rfl HSl.out ?_; intro X6 s6 b6; have B6 := Lib.hid (below_then B5.out b6); have v6 := Lib.hid (DkV.up v5.out b6)) | (refine dk_load rfl _ rfl rfl v6.out ?_))
    refine (HLo.out AV _ v6.out.2).mono ?_
    rintro e_ w7 ⟨A7, n7, c7, R7, m7', q7, rfl, o7, r7, b7⟩
    have O7 := Lib.hid o7.rd
    have P7 := Lib.hid r7
    have s7 := Lib.hid (drw_up s6.out b7)
    have B7 := Lib.hid (below_then B6.out b7)
    have O5' := Lib.hid (O5.out.below (below_then b6 b7))
    have P5' := Lib.hid (P5.out.below (below_then b6 b7))
    clear o7 r7 b7 b6
    go_wp2_with (first | (refine su_fresh S rfl _ _ rfl rfl rfl w7 rfl rfl HSl.out ?_; intro X8 s8 b8; have B8 := Lib.hid (below_then B7.out b8); have s9 := Lib.hid (drw_up s7.out b8); have g0 := (cell_of_row X8 w5.heap.size 0 _ _ _ s9.out).trans hS0; have kq := KQ.out) | (refine su_loadG (by rfl) _ rfl w5.heap.size rfl S s9.out HSl.out ?_) | (refine su_loadG (by rfl) _ rfl w7.heap.size rfl S s8.out HSl.out ?_))
    have hby := bytes_any A5 A7 n5 c5 n7 c7 st st X8 (O5'.out.below b8) (O7.out.below b8)
    rw [decide_eq_true rfl] at hby
    refine hby.mono ?_
    rintro e_ w9 ⟨rfl, rfl⟩
    obtain rfl : dn = m5 := HRL.out.symm.trans P5.out.len
    obtain rfl : dn = m7' := HRL.out.symm.trans P7.out.len
    clear hby
    go_wp2_with fail
    have P8 := Lib.hid (OwR.below P5'.out b8)
    refine (refRecs_self R5 dn q5 R7 q7 rs X8 P8.out.rds (OwR.rds (OwR.below P7.out b8))).mono ?_
    rintro e_ w10 ⟨rfl, b10⟩
    have B10 := Lib.hid (below_then B8.out b10)
    have HP' := Lib.hid (HP.out.below B10.out)
    obtain ⟨hsn, bs_, As, ns, ds, hsa, hbs, hcs, hrs_⟩ := HP'.out.st_at gn HGL.out.1
    obtain ⟨hen, be_, Ae, ne, de, hea, hbe, hce, hle, hne63, hev⟩ := HP'.out.ev_at gn HGL.out.2
    have x82 := HP'.out.row.c82 HP'.out.z
    have x83 := HP'.out.row.c83 HP'.out.z
    rw [hsa, hsn] at x82
    rw [hea, hen] at x83
    have hl1 : (gn : Int) < (p.sts.length : Int) := by have := HGL.out.1; omega
    have hl2 : (gn : Int) < (p.evs.length : Int) := by have := HGL.out.2; omega
    have hl3 : ¬ ((gn : Int) < 1) := by have := HGL.out.2; omega
    have dl1 : decide ((p.sts.length : Int) ≤ (gn : Int)) = false := decide_eq_false (by omega)
    have dl2 : decide (p.sts.length ≤ gn) = false := decide_eq_false (by omega)
    have hdn : dn ≤ ne := by rw [← hle]; exact hdl
    have dl3 : decide ((ne : Int) < (dn : Int)) = false := decide_eq_false (by omega)
    have dl4 : decide (ne < dn) = false := decide_eq_false (by omega)
    have HEV := Lib.hid hev
    have HRS_ := Lib.hid hrs_
    have HLE := Lib.hid hle
    clear hev hrs_ hle
    go_wp2_with fail
    have hby := bytes_any A5 As n5 c5 ns ds st (p.sts.getD gn []) w10 ((O5'.out.below b8).below b10) HRS_.out
    rw [decide_eq_true (show st = p.sts.getD gn [] from HST'.out)] at hby
    refine hby.mono ?_
    rintro e_ w11 ⟨rfl, rfl⟩
    have R10 := Lib.hid (P8.out.rds.below b10)
    clear hby x82 b8 b10
    go_wp2_with fail
    go_loopw [23] (RrI14 dn w10) (fun i _ => dn - (intOf i).toNat)
    case atStart => exact ⟨0, by omega, rfl, Below.refl _ _⟩
    case round =>
    clear x83
    obtain ⟨k2, hk2, rfl, hB2⟩ := hrel
    have HBq := Lib.hid hB2
    have x83 := HP'.out.row.c83 HP'.out.z
    rw [hea, hen] at x83
    by_cases hlt2 : k2 < dn
    ·have i2 : (k2 : Int) < (dn : Int) := by omega
     have i3 : (k2 : Int) < (ne : Int) := by omega
     have wk3 : IntKind.i64.wrap ((k2 : Int) + 1) = (k2 : Int) + 1 := IntWalk.i64_in _ (by omega)
     obtain ⟨b1_, o1_, B1_, m1_, d1_, rfl, hb1, f1, r1, ok1⟩ := R10.out.2.2 k2 hlt2
     obtain ⟨b2_, o2_, B2_, m2_, d2_, rfl, hb2, f2, r2⟩ := HEV.out k2 (by omega)
     have hevs : p.evs.getD gn [] = pyEv p gn := rfl
     rw [hevs] at f2 r2
     obtain ⟨ev, hev⟩ : ∃ z : Ev, z = (pyEv p gn).getD k2 ⟨0, 0, 0, []⟩ := ⟨_, rfl⟩
     obtain ⟨Qd, hQ⟩ := pyRs_ev p gn k2 (by omega)
     rw [← hev] at f2 r2 hQ
     have hrk : rs.getD k2 rcZ = evRc gn k2 Qd ev := by
      rw [HRS.out, ← hQ, List.getD_eq_getElem?_getD, List.getD_eq_getElem?_getD, List.getElem?_take, if_pos hlt2]
     rw [hrk] at f1 r1
     have HL1 : Hid (∀ w', Below w10.heap.size w10 w' → (loadVar 49 ⟨b1_, o1_ + k2 * 39 + 3, none⟩).run Tryz.prog w' = .ok (.agg #[.int .u64 (ev.t : Int), .int .i64 ev.k, .int .u64 (ev.c : Int), .slice B1_ m1_ d1_]) w') := Lib.hid (fun w' hw => run_loadVar_mid w' b1_ (o1_ + k2 * 39 + 3) 49 [.int .u64 (ev.t : Int), .int .i64 ev.k, .int .u64 (ev.c : Int), .slice B1_ m1_ d1_] _ (fun j v hv => by
      have hj : j < 4 := (List.getElem?_eq_some_iff.1 hv).1
      rw [World.cell?_of_block (hw.block b1_ hb1), Nat.add_assoc, f1 (3 + j) (by omega), ← hv]
      match j, hj with
      | 0, _ => rfl
      | 1, _ => rfl
      | 2, _ => rfl
      | 3, _ => rfl) Tryz.underlying49 rfl (by kernel_rfl))
     have HL2 : Hid (∀ w', Below w10.heap.size w10 w' → (loadVar 49 ⟨b2_, o2_ + k2 * 4, none⟩).run Tryz.prog w' = .ok (.agg #[.int .u64 (ev.t : Int), .int .i64 ev.k, .int .u64 (ev.c : Int), .slice B2_ m2_ d2_]) w') := Lib.hid (fun w' hw => run_loadVar_mid w' b2_ (o2_ + k2 * 4) 49 [.int .u64 (ev.t : Int), .int .i64 ev.k, .int .u64 (ev.c : Int), .slice B2_ m2_ d2_] _ (fun j v hv => by
      have hj : j < 4 := (List.getElem?_eq_some_iff.1 hv).1
      rw [World.cell?_of_block (hw.block b2_ hb2), f2 j hj, ← hv]) Tryz.underlying49 rfl (by kernel_rfl))
     have HS2 : Hid (∀ W, Below w10.heap.size w10 W → _) := Lib.hid (fun W (hW : Below w10.heap.size w10 W) => refEvents12_self ev.t ev.k ev.c B1_ m1_ d1_ B2_ m2_ d2_ ev.b W (r1.below hW) (r2.below hW))
     have HX : Hid (∀ w', Below w10.heap.size w10 w' → w'.cell? ⟨g, 83, none⟩ = some (.slice (some ⟨be_, 0, none⟩) p.evs.length f.ec) ∧ w'.cell? ⟨be_, gn, none⟩ = some (.slice (some ⟨b2_, o2_, none⟩) ne de)) := Lib.hid (fun w' hw => ⟨(World.cell?_of_block (hw.block g HP'.out.row.lt)).trans x83, (World.cell?_of_block (hw.block be_ hbe)).trans hce⟩)
     have tr : ∀ w', Below wr.heap.size wr w' → True := fun _ _ => trivial
     clear f1 f2 r1 r2 ok1 hb1 hb2 x83 hev hQ hrk tr hB2
     go_wp2_with fail
     have hBz2 := HBq.out.size
     have hle63 := hne63
     refine wp_region_seg (S := fun w' => Below wr.heap.size wr w') 0 (brw9 17 131071) [(0, true), (1, true), (2, true), (3, true), (4, true), (5, true), (6, true), (7, true), (8, true), (9, true), (10, true), (11, true), (12, true), (13, true), (14, true), (15, false), (16, true)] (by kernel_rfl) (by kernel_rfl) (fun _ _ d _ _ h => by first | (cases d <;> exact h) | cases h.1) ((Below.refl wr.heap.size wr).drew) ?_
     have HB := (Below.refl wr.heap.size wr).drew
     iterate 4 (refine seg_take (v := ?_) rfl (Or.inl ⟨by rfl, ?_⟩) ?_; rotate_left; (focus (intro w' hw'; obtain ⟨x83, xbe⟩ := HX.out w' (HBq.out.trans (hw'.mono hBz2)); go_simp <;> with_reducible rfl)); try simp only [Act.put, pst3])
     refine seg_take (v := (.agg #[.int .u64 (ev.t : Int), .int .i64 ev.k, .int .u64 (ev.c : Int), .slice B1_ m1_ d1_])) rfl (Or.inl ⟨by rfl, fun w' hw' => ?_⟩) ?_
     focus (exact ex_load rfl rfl (HL1.out w' (HBq.out.trans (hw'.mono hBz2))))
     try simp only [Act.put, pst3]
     iterate 9 (refine seg_take (v := ?_) rfl (Or.inl ⟨by rfl, ?_⟩) ?_; rotate_left; (focus (intro w' hw'; obtain ⟨x83, xbe⟩ := HX.out w' (HBq.out.trans (hw'.mono hBz2)); go_simp <;> with_reducible rfl)); try simp only [Act.put, pst3])
     refine seg_take (v := (.agg #[.int .u64 (ev.t : Int), .int .i64 ev.k, .int .u64 (ev.c : Int), .slice B2_ m2_ d2_])) rfl (Or.inl ⟨by rfl, fun w' hw' => ?_⟩) ?_
     focus (exact ex_load rfl rfl (HL2.out w' (HBq.out.trans (hw'.mono hBz2))))
     try simp only [Act.put, pst3]
     refine seg_run rfl (fun K hK => ?_)
     go_simp
     refine (HS2.out _ (HBq.out.trans (HB.mono hBz2))).mono ?_
     rintro e_ wE ⟨rfl, bE⟩
     have HB := below_then HB bE
     refine hK.out _ _ (HB) ?_
     clear hK
     try simp only [Act.put, pst3]
     iterate 1 (refine seg_take (v := ?_) rfl (Or.inl ⟨by rfl, ?_⟩) ?_; rotate_left; (focus (intro w' hw'; obtain ⟨x83, xbe⟩ := HX.out w' (HBq.out.trans (hw'.mono hBz2)); go_simp <;> with_reducible rfl)); try simp only [Act.put, pst3])
     refine seg_done (fun _ => ?_)
     refine wpAnyH_done (by kernel_rfl) ?_ _
     have HB' := Lib.hid HB
     go_wp2_with fail
     go_roundw
     case rel => exact ⟨k2 + 1, by omega, by rw [Int.natCast_add]; rfl, HBq.out.trans (HB'.out.mono hBz2)⟩
     case measure => simp [intOf]; omega
    ·obtain rfl : dn = k2 := by omega
     clear hB2
     have PW := Lib.hid (HP'.out.below HBq.out)
     obtain ⟨y0, y2, y3, y38, -, -⟩ := PW.out.nums
     have BA := Lib.hid (below_then (below_then (below_then B1.out HBo.out) B10.out) HBq.out)
     have xbe : wr.cell? ⟨be_, gn, none⟩ = _ := (World.cell?_of_block (HBq.out.block be_ hbe)).trans hce
     have x83 : wr.cell? ⟨g, 83, none⟩ = _ := (World.cell?_of_block (HBq.out.block g HP'.out.row.lt)).trans x83
     have hJg := HI.out.1.g2
     clear y2
     rcases HGD.out with ⟨hg1, hg2⟩ | ⟨hg1, ⟨hp1, hp2⟩, hg3⟩
     ·rw [← hg1] at y0
      have e1 : decide ((p.J.done : Int) ≤ (dn : Int)) = true := decide_eq_true (by omega)
      have e2 : decide (p.J.done ≤ dn) = true := decide_eq_true hg2
      go_wp2_with fail
      refine (heads14 _).mono ?_
      rintro e_ w12 ⟨rfl, b12⟩
      go_wp2_with fail
      go_ret
      exact ⟨rfl, below_then BA.out b12⟩
     ·rw [← hg1] at y0
      have e1 : (((gn : Int)) == ((gn + 1 : Nat) : Int)) = false := beq_eq_false_iff_ne.2 (by omega)
      have e2 : (gn == gn + 1) = false := beq_eq_false_iff_ne.2 (by omega)
      have hne : dn = ne := hg3.trans HLE.out
      subst hne
      clear hg1 hg3 hJg
      obtain ⟨ph, hph⟩ : ∃ z, z = p.J.ph := ⟨_, rfl⟩
      rw [← hph] at y38 hp1 hp2
      obtain rfl | rfl | rfl | rfl : ph = 3 ∨ ph = 4 ∨ ph = 5 ∨ ph = 6 := by omega
      all_goals
       go_wp2_with fail
       refine (heads14 _).mono ?_
       rintro e_ w12 ⟨rfl, b12⟩
       go_wp2_with fail
       go_ret
       exact ⟨rfl, below_then BA.out b12⟩
end Go.Proofs.YtpahicfnhhhifaaGreat
