/-
 Proved here, for the statement JournalBurst:
 Layer 14: the law JournalBurst (plain): an event that is appended, written and f
 Layer 14: the law JournalBurst.
-/
import Derived.Test.YtpahicfnhhhifaaGreatGb30
set_option linter.unusedVariables false
set_option linter.unusedSimpArgs false
namespace Go.Proofs.YtpahicfnhhhifaaGreat
set_option maxRecDepth 20000
set_option maxHeartbeats 1000000
structure Still (n : Nat) (p : Py) (es : List Ev) : Prop where
 i : PyI n p
 ph : p.J.ph = 0
 w : p.J.will = p.J.next
 g : p.J.g = 1
 e : pyEv p 1 = es
theorem Still.at_ {n : Nat} {p : Py} {es : List Ev} (h : Still n p es) : p.todo = [] ∧ p.fl = [] ∧ p.J.jobs = [] ∧ p.D.k = [] ∧ p.J.done = p.J.will ∧ p.J.wait = [] ∧ p.J.out = 0 ∧ p.J.next = es.length ∧ Here p n 1 es.length := by
 have hb := h.i.b
 have hn : p.J.next = es.length := by rw [hb.next, h.g, h.e]
 rcases h.i.ph with ⟨a0, a1, a2, a3, a4, a5, a6⟩ | ⟨fz, a0, _⟩ | ⟨fz, a0, _⟩ | ⟨fz, a0, _⟩
 ·refine ⟨a1, a2, a3, a4, a5, ?_, ?_, hn, ?_⟩
  ·rw [hb.wait, h.w, Nat.sub_self]; rfl
  ·rw [hb.out, a1]; rfl
  ·rw [h.g, h.w, hn] at a6; exact a6
 ·rw [h.ph] at a0; cases fz <;> simp at a0
 ·rw [h.ph] at a0; cases fz <;> simp at a0
 ·rw [h.ph] at a0; cases fz <;> simp at a0
theorem still_begin (n : Nat) (hn : 98 ≤ n ∧ n ≤ 256) : Still n (pyBegin n) [] := by
 have h := pyBegin_I n hn
 have e : jnBeginE 0 ((n - 98 : Nat) : Int) = 0 := by unfold jnBeginE; rw [if_pos ⟨.inl rfl, by omega, by omega⟩]
 have eJ : (pyBegin n).J = { jnZ with g := 1, slot := 0, ch := jnBase pyFirst, room := ((n - 98 : Nat) : Int) } := by unfold pyBegin jnBegin; simp only [if_pos e]
 exact ⟨h, by rw [eJ]; rfl, by rw [eJ]; rfl, by rw [eJ], rfl⟩
theorem jnAsk_of {J : Jn} (h : jnChk J = true) : jnAsk J = jnAskK (jnWoke J) := by unfold jnAsk; rw [if_neg (by simp [h])]
theorem jnCame_of {J : Jn} {b : Bool} (h : jnChk J = true) (h7 : J.ph ≠ 7) (ho : J.out ≠ 0) : jnCameE J = 0 ∧ jnCame J b = jnCameK { J with out := J.out - 1 } b := by
 have e : jnCameE J = 0 := by unfold jnCameE; rw [if_neg (by simp [h]), if_neg (by simp [h7, ho])]
 exact ⟨e, by unfold jnCame; rw [if_pos e]⟩
def ac0_ (e : Ev) : Ac := ⟨0, 0, e, []⟩
def ac1_ : Ac := ⟨1, 0, ⟨0, 0, 0, []⟩, []⟩
def ac2_ : Ac := ⟨2, 0, ⟨0, 0, 0, []⟩, []⟩
theorem ac1_ok : ac1_.ok := ⟨⟨by decide, ⟨by decide, by decide⟩, by decide⟩, by decide⟩
theorem ac2_ok : ac2_.ok := ⟨⟨by decide, ⟨by decide, by decide⟩, by decide⟩, by decide⟩
def pyEvt (p : Py) (e : Ev) : Py := pyDo (pyDo (pyDo (pyDo (pyDo p (ac0_ e)) ac1_) ac2_) ac1_) ac2_
theorem pyEvt_still {n : Nat} {p : Py} {es : List Ev} (h : Still n p es) (e : Ev) (he : e.ok) (hc : e.chk = true) (hr : es.length < n - 98) : Still n (pyEvt p e) (es ++ [e]) := by
 obtain ⟨a1, a2, a3, a4, a5, a6, a7, a8, a9⟩ := h.at_
 have hb := h.i.b
 have hE : pyAppE p e = 0 := by
  unfold pyAppE jnAppE
  rw [pyI_going h.i, if_neg (by decide), show rcChk e.k e.c e.b.length = true from hc, if_neg (by simp), hb.room, if_neg (by omega)]
 have i1 := (pyDo_I h.i (ac0_ e) ⟨he, by simp [ac0_]⟩).1
 have i2 := (pyDo_I i1 ac1_ ac1_ok).1
 have i3 := (pyDo_I i2 ac2_ ac2_ok).1
 have i4 := (pyDo_I i3 ac1_ ac1_ok).1
 have i5 := (pyDo_I i4 ac2_ ac2_ok).1
 obtain ⟨r, hR⟩ : ∃ r, r = evRc p.J.g p.J.next p.J.ch e := ⟨_, rfl⟩
 obtain ⟨x, hx⟩ : ∃ x : Jb, x = (((98 + p.J.next : Nat) : Int), rcPutL r) := ⟨_, rfl⟩
 have hn98 := hb.n98
 have hok := evRc_ok p.J.g p.J.next p.J.ch e hb.g2 (by have := hb.nr; omega) he
 have e1 : pyDo p (ac0_ e) = { p with J := { p.J with wait := [x], next := p.J.next + 1, ch := r.D }, evs := (pyApp p e).evs } := by
  have : pyDo p (ac0_ e) = pyApp p e := rfl
  rw [this]
  have hJ := pyApp_J p e hE
  rw [a6, ← hR, ← hx] at hJ
  show Py.mk (pyApp p e).J p.D p.todo p.fl p.sts (pyApp p e).evs = _
  rw [hJ]; rfl
 have hev : ∀ g, pyEv (pyDo p (ac0_ e)) g = if g = p.J.g then pyEv p p.J.g ++ [e] else pyEv p g := pyApp_ev p e hE hb.el
 obtain ⟨J, D, todo, fl, sts, evs⟩ := p
 obtain ⟨g, slot, next, done, will, ch, wait, ph, jobs, out, su, room, err⟩ := J
 obtain ⟨Ds, Dk_⟩ := D
 obtain ⟨ep, ew, eg, ee⟩ := (show _ ∧ _ ∧ _ ∧ _ from ⟨h.ph, h.w, h.g, h.e⟩)
 simp only at a1 a2 a3 a4 a5 a6 a7 a8 ep ew eg
 subst a1 a2 a3 a4 a5 a6 a7 ep ew eg
 obtain ⟨evs', hevs'⟩ : ∃ z, z = (pyApp ⟨⟨1, slot, done, done, done, ch, [], 0, [], 0, su, room, err⟩, ⟨Ds, []⟩, [], [], sts, evs⟩ e).evs := ⟨_, rfl⟩
 rw [← hevs'] at e1
 have e1' : pyDo ⟨⟨1, slot, done, done, done, ch, [], 0, [], 0, su, room, err⟩, ⟨Ds, []⟩, [], [], sts, evs⟩ (ac0_ e) = ⟨⟨1, slot, done + 1, done, done, r.D, [x], 0, [], 0, su, room, err⟩, ⟨Ds, []⟩, [], [], sts, evs'⟩ := e1
 have hx1 : x = (((98 + done : Nat) : Int), rcPutL r) := hx
 have hds : Ds.length = n := hb.ds
 have hdk : dkOk ⟨Ds, []⟩ = true := hb.dk
 have hxl : x.1 = ((98 + done : Nat) : Int) ∧ x.2.length = 256 := by
  have hw := (pyI_wait i1.b).1
  rw [e1'] at hw
  have : jb1 x = true := by simpa [jbOk] using hw
  unfold jb1 at this
  simp at this
  exact ⟨by rw [hx1], this.2.2⟩
 rw [e1'] at i1
 have k2 : pyDo ⟨⟨1, slot, done + 1, done, done, r.D, [x], 0, [], 0, su, room, err⟩, ⟨Ds, []⟩, [], [], sts, evs'⟩ ac1_ = ⟨⟨1, slot, done + 1, done, done + 1, r.D, [], 1, [], 1, su, room, err⟩, ⟨Ds, []⟩, [x], [false], sts, evs'⟩ := by
  have k : jnAsk ⟨1, slot, done + 1, done, done, r.D, [x], 0, [], 0, su, room, err⟩ = (⟨1, slot, done + 1, done, done + 1, r.D, [], 1, [], 1, su, room, err⟩, x, false, true) := by
   rw [jnAsk_of (pyI_chk i1)]; rfl
  show pyAsk _ = _
  unfold pyAsk
  simp only [k]
  rfl
 rw [e1', k2] at i2 i3
 have k3 : pyDo ⟨⟨1, slot, done + 1, done, done + 1, r.D, [], 1, [], 1, su, room, err⟩, ⟨Ds, []⟩, [x], [false], sts, evs'⟩ ac2_ = ⟨⟨1, slot, done + 1, done, done + 1, r.D, [], 1, [], 0, su, room, err⟩, ⟨Ds, [x]⟩, [], [], sts, evs'⟩ := by
  have w := dkWrite_in ⟨Ds, []⟩ hdk (98 + done) (by show 98 + done < Ds.length; omega) x.2 hxl.2 (by simp)
  rw [← hxl.1] at w
  have k : jnCame ⟨1, slot, done + 1, done, done + 1, r.D, [], 1, [], 1, su, room, err⟩ true = ⟨1, slot, done + 1, done, done + 1, r.D, [], 1, [], 0, su, room, err⟩ := by
   rw [(jnCame_of (pyI_chk i2) (by show (1 : Int) ≠ 7; decide) (by show (1 : Int) ≠ 0; decide)).2]; rfl
  show pyOne _ 0 = _
  unfold pyOne
  rw [show pyHit ⟨⟨1, slot, done + 1, done, done + 1, r.D, [], 1, [], 1, su, room, err⟩, ⟨Ds, []⟩, [x], [false], sts, evs'⟩ 0 = dkWrite ⟨Ds, []⟩ x.1 x.2 from rfl, show pyHitE ⟨⟨1, slot, done + 1, done, done + 1, r.D, [], 1, [], 1, su, room, err⟩, ⟨Ds, []⟩, [x], [false], sts, evs'⟩ 0 = dkWriteE ⟨Ds, []⟩ x.1 x.2 from rfl, w.1, w.2.1]
  simp only [decide_true, k]
  rfl
 rw [k3] at i3
 rw [e1', k2, k3] at i4 i5
 have k4 : pyDo ⟨⟨1, slot, done + 1, done, done + 1, r.D, [], 1, [], 0, su, room, err⟩, ⟨Ds, [x]⟩, [], [], sts, evs'⟩ ac1_ = ⟨⟨1, slot, done + 1, done, done + 1, r.D, [], 2, [], 1, su, room, err⟩, ⟨Ds, [x]⟩, [(0, [])], [true], sts, evs'⟩ := by
  have k : jnAsk ⟨1, slot, done + 1, done, done + 1, r.D, [], 1, [], 0, su, room, err⟩ = (⟨1, slot, done + 1, done, done + 1, r.D, [], 2, [], 1, su, room, err⟩, (0, []), true, true) := by
   rw [jnAsk_of (pyI_chk i3)]; rfl
  show pyAsk _ = _
  unfold pyAsk
  simp only [k]
  rfl
 rw [k4] at i4 i5
 have k5 : pyDo ⟨⟨1, slot, done + 1, done, done + 1, r.D, [], 2, [], 1, su, room, err⟩, ⟨Ds, [x]⟩, [(0, [])], [true], sts, evs'⟩ ac2_ = ⟨⟨1, slot, done + 1, done + 1, done + 1, r.D, [], 0, [], 0, su, room, err⟩, dkFlush ⟨Ds, [x]⟩, [], [], sts, evs'⟩ := by
  have w : dkE ⟨Ds, [x]⟩ = 0 := by unfold dkE; rw [if_pos i4.b.dk]
  have k : jnCame ⟨1, slot, done + 1, done, done + 1, r.D, [], 2, [], 1, su, room, err⟩ true = ⟨1, slot, done + 1, done + 1, done + 1, r.D, [], 0, [], 0, su, room, err⟩ := by
   rw [(jnCame_of (pyI_chk i4) (by show (2 : Int) ≠ 7; decide) (by show (1 : Int) ≠ 0; decide)).2]; rfl
  show pyOne _ 0 = _
  unfold pyOne
  rw [show pyHit ⟨⟨1, slot, done + 1, done, done + 1, r.D, [], 2, [], 1, su, room, err⟩, ⟨Ds, [x]⟩, [(0, [])], [true], sts, evs'⟩ 0 = dkFlush ⟨Ds, [x]⟩ from rfl, show pyHitE ⟨⟨1, slot, done + 1, done, done + 1, r.D, [], 2, [], 1, su, room, err⟩, ⟨Ds, [x]⟩, [(0, [])], [true], sts, evs'⟩ 0 = dkE ⟨Ds, [x]⟩ from rfl, w]
  simp only [decide_true, k]
  rfl
 rw [k5] at i5
 have hE1 := hev 1
 rw [e1', if_pos rfl] at hE1
 unfold pyEvt
 rw [e1', k2, k3, k4, k5]
 exact ⟨i5, rfl, rfl, rfl, hE1.trans (by rw [show pyEv _ (1 : Nat) = es from h.e])⟩
theorem still_ok {n : Nat} {p : Py} {es : List Ev} (h : Still n p es) (a : Nat) (ts : List UInt8) (hl : ts.length = 256) : dkOk ⟨p.D.s.set a ts, []⟩ = true := by
 obtain ⟨d1, d2, d3, d4⟩ := (dkOk_iff p.D).1 h.i.b.dk
 refine (dkOk_iff _).2 ⟨by simpa using d1, by simp, ?_, by simp⟩
 intro s hs
 rcases List.mem_or_eq_of_mem_set hs with hs | rfl
 ·exact d3 s hs
 ·exact hl
theorem tamper_set (s : List (List UInt8)) (a q : Nat) (ts : List UInt8) (u v : UInt8) (hok : dkOk ⟨s.set a ts, []⟩ = true) (ha : a < s.length) (hq : q < 256) (hv : ts[q]? = some v) : dkTamper ⟨s.set a ts, []⟩ (a : Int) (q : Int) u = ⟨s.set a (ts.set q (v ^^^ u)), []⟩ ∧ dkTamperE ⟨s.set a ts, []⟩ (a : Int) (q : Int) = 0 := by
 have e : dkTamperE ⟨s.set a ts, []⟩ (a : Int) (q : Int) = 0 := by
  unfold dkTamperE
  rw [if_neg (by rw [dkAsk_in _ hok a (by simpa using ha)]; simp), if_neg (by omega)]
 refine ⟨?_, e⟩
 unfold dkTamper
 rw [if_pos e]
 have e1 : (s.set a ts).getD a [] = ts := by rw [List.getD, List.getElem?_set_self ha]; rfl
 show Dk.mk ((s.set a ts).set ((a : Int)).toNat (dkTampered ((s.set a ts).getD ((a : Int)).toNat []) ((q : Int)).toNat u)) [] = _
 rw [Int.toNat_natCast, Int.toNat_natCast, e1, List.set_set]
 unfold dkTampered
 rw [List.getD, hv]
 rfl
theorem set_same (s : List (List UInt8)) (a : Nat) (ha : a < s.length) : s.set a (s.getD a []) = s := by
 rw [List.getD, List.getElem?_eq_getElem ha]
 exact List.set_getElem_self ha
theorem still_burst {n : Nat} {p : Py} {es : List Ev} (h : Still n p es) (k : Nat) (hk : k < es.length) (ts : List UInt8) (hts : crcHolds ts = false) (hl : ts.length = 256) (D : Dk) (hD : D = ⟨p.D.s.set (98 + k) ts, []⟩) : dkOk D = true ∧ PyLd p D 1 k := by
 obtain ⟨a1, a2, a3, a4, a5, a6, a7, a8, a9⟩ := h.at_
 have hb := h.i.b
 have hn := hb.n98
 have hds := hb.ds
 have hnr := hb.nr
 have hok : dkOk D = true := by rw [hD]; exact still_ok h _ ts hl
 have hlen : D.s.length = n := by rw [hD]; simp [hds]
 have hf : ∀ i : Nat, i < n → dkRead D (i : Int) = (p.D.s.set (98 + k) ts).getD i [] := fun i hi => by
  rw [dkRead_eq D hok i (by rw [hlen]; exact hi), hD]; rfl
 have ho : ∀ i, i ≠ 98 + k → (p.D.s.set (98 + k) ts).getD i [] = secOf p.D i := fun i hi => by
  unfold secOf; rw [List.getD, List.getD, List.getElem?_set_ne (Ne.symm hi)]
 have hs : (p.D.s.set (98 + k) ts).getD (98 + k) [] = ts := by rw [List.getD, List.getElem?_set_self (by omega)]; rfl
 refine ⟨hok, ?_⟩
 have hev : (pyEv p 1).length = es.length := by rw [h.e]
 have hpl := placeOf_ge 1
 have hss := secs_le (hb.st 1)
 obtain ⟨⟨g1, g2, g3, g4⟩, g5⟩ := a9
 refine pyLd_of hb D (fun i => (p.D.s.set (98 + k) ts).getD i []) 1 k ⟨?_, ?_, ?_, ?_⟩ hok hlen hf ⟨by omega, by omega⟩ (by omega) (by omega) (by omega) (fun _ e => ?_)
 ·show (p.D.s.set (98 + k) ts).getD (1 % 2) [] = _
  rw [ho _ (by omega)]; exact g1
 ·show NoHead 1 ((p.D.s.set (98 + k) ts).getD ((1 + 1) % 2) []) _
  rw [ho _ (by omega)]; exact g2
 ·intro i hi
  show (p.D.s.set (98 + k) ts).getD (placeOf 1 + i) [] = _
  rw [ho _ (by omega)]; exact g3 i hi
 ·intro i hi
  show (p.D.s.set (98 + k) ts).getD (98 + i) [] = _
  rw [ho _ (by omega)]; exact g4 i (by omega)
 ·exfalso
  have e2 : rcGetE ((p.D.s.set (98 + k) ts).getD (98 + k) []) = 0 := e
  rw [hs] at e2
  unfold rcGetE at e2
  rw [if_neg (by simp [hl]), if_pos hts] at e2
  cases e2
theorem still_load {n : Nat} {p : Py} {es : List Ev} (h : Still n p es) : PyLd p p.D 1 es.length := by
 obtain ⟨a1, a2, a3, a4, a5, a6, a7, a8, a9⟩ := h.at_
 have hb := h.i.b
 have hnr := hb.nr
 have hn := hb.n98
 have hev : (pyEv p 1).length = es.length := by rw [h.e]
 refine pyLd_of hb p.D (secOf p.D) 1 es.length a9.gen hb.dk hb.ds (fun i hi => ?_) ⟨by omega, by omega⟩ (by omega) (by omega) (by omega) (fun _ => a9.tail _ (Nat.le_refl _) (by omega))
 rw [dkRead_eq p.D hb.dk i (by rw [hb.ds]; exact hi)]
 unfold dkAt secOf; rw [a4]; rfl
theorem still_sec {n : Nat} {p : Py} {es : List Ev} (h : Still n p es) (k : Nat) (hk : k < es.length) (ts : List UInt8) (bits F : Nat) (hb0 : bits ≠ 0) (hb : bits < 4294967296) (hF : F < 2017) (hl : ts.length = 256) (hv : lev ts = lev (secOf p.D (98 + k)) ^^^ (bits * 2 ^ F)) : crcHolds ts = false := by
 obtain ⟨a1, a2, a3, a4, a5, a6, a7, a8, a9⟩ := h.at_
 have hbb := h.i.b
 have hnr := hbb.nr
 have hn := hbb.n98
 have hev : (pyEv p 1).length = es.length := by rw [h.e]
 obtain ⟨q1, q2, q3, q4⟩ := pyRs_at hbb 1 (by omega) k (by omega) (by omega)
 have hs := a9.gen.recs k hk
 rw [hs] at hv
 obtain ⟨r, hr⟩ : ∃ r, r = (pyRs p 1).getD k rcZ := ⟨_, rfl⟩
 rw [← hr] at hv q1 q2 q4
 have e : rcPutL r = crcClosed (rcBody r ++ r.D) := by unfold rcPutL; rw [if_pos q2]; rfl
 have hX : (rcBody r ++ r.D).length = 252 := by rw [e] at q4; simp [crcClosed, le4_length] at q4; simp; omega
 rw [e] at hv
 rw [crc_burst (rcBody r ++ r.D) ts bits F hb (by rw [hl, hX]) (by rw [hl]; omega) hv]
 exact decide_eq_false hb0
end Go.Proofs.YtpahicfnhhhifaaGreat
namespace Go.Proofs.YtpahicfnhhhifaaGreat
set_option maxRecDepth 20000
open Go.RowKit
set_option maxHeartbeats 8000000
def ev0 : Ev := ⟨0, 0, 0, []⟩
theorem RdEv.at_ {w : World} {A : Option Addr} {n c : Nat} {us : List Value} {l : List Ev} (h : RdEv w A n c us l) (k : Nat) (hk : k < n) :
  ∃ b o A1 n1 d1, A = some ⟨b, o, none⟩ ∧ b < w.heap.size ∧ w.cell? ⟨b, o + k * 4, none⟩ = some (.int .u64 ((l.getD k ev0).t : Int)) ∧ w.cell? ⟨b, o + k * 4 + 1, none⟩ = some (.int .i64 (l.getD k ev0).k) ∧ w.cell? ⟨b, o + k * 4 + 2, none⟩ = some (.int .u64 ((l.getD k ev0).c : Int)) ∧ w.cell? ⟨b, o + k * 4 + 3, none⟩ = some (.slice A1 n1 d1) ∧ (l.getD k ev0).ok ∧ RdB w A1 n1 d1 (l.getD k ev0).b := by
 obtain ⟨h1, h2, h3, h4, h5⟩ := h
 obtain ⟨cc, c1, c2, A1, n1, d1, c3, c4, c5⟩ := Rows.at_ ev0 k h5 (by omega)
 have hl := h5.len
 obtain ⟨b, o, e1, hb, -⟩ := h1.at_ (k * 4) (by omega)
 have cell : ∀ i, i < 4 → w.cell? ⟨b, o + k * 4 + i, none⟩ = cc[i]? := fun i hi => by
  obtain ⟨b', o', e2, _, hc⟩ := h1.at_ (k * 4 + i) (by omega)
  rw [e1] at e2
  injection e2 with e2
  injection e2 with e2 e3
  subst e2 e3
  rw [← c2 i hi, Nat.add_assoc, hc, List.getElem?_eq_getElem (by omega)]
 refine ⟨b, o, A1, n1, d1, e1, hb, ?_, ?_, ?_, ?_, c4, c5⟩
 ·have := cell 0 (by omega); rw [Nat.add_zero] at this; rw [this, c3]; rfl
 ·rw [cell 1 (by omega), c3]; rfl
 ·rw [cell 2 (by omega), c3]; rfl
 ·rw [cell 3 (by omega), c3]; rfl
theorem RdEv.below {w w' : World} {A : Option Addr} {n c : Nat} {us : List Value} {l : List Ev} (h : RdEv w A n c us l) (hb : Below w.heap.size w w') : RdEv w' A n c us l := by
 obtain ⟨h1, h2, h3, h4, h5⟩ := h
 refine ⟨h1.below hb, h2, h3, h4, h5.imp (fun c a ha => ?_)⟩
 obtain ⟨A, n, d, e1, e2, e3⟩ := ha
 exact ⟨A, n, d, e1, e2, e3.below hb⟩
def FewI (w : World) (n : Nat) (i : Value) (wr : World) : Prop := ∃ k : Nat, k ≤ n ∧ i = .int .i64 (k : Int) ∧ Below w.heap.size w wr
def RetFw (w : World) (n : Nat) (e : Ending) (w' : World) : Prop := ∃ b, e = .returned (.bool b) ∧ Below w.heap.size w w' ∧ (b = true → n ≤ 60)
theorem few12_any (A : Option Addr) (n c : Nat) (us : List Value) (l : List Ev) (w : World) (hr : RdEv w A n c us l) :
  Calls Tryz.prog 40 #[.slice A n c] w (RetFw w n) := by
 have hn63 : n ≤ 9223372036854775807 := by have h1 := hr.2.2.1; have h2 := hr.2.2.2.1; unfold maxLen at h2; omega
 have HR := Lib.hid hr
 clear hr
 go_enter Tryz.func40, Tryz.ntmps40
 go_wp2_with fail
 go_loopw [3] (FewI w n) (fun i _ => n - (intOf i).toNat)
 case atStart => exact ⟨0, by omega, rfl, Below.refl _ _⟩
 case round =>
 obtain ⟨k, hk, rfl, hB⟩ := hrel
 by_cases hlt : k < n
 ·have i1 : (k : Int) < (n : Int) := by omega
  have d1 : decide ((k : Int) < (n : Int)) = true := decide_eq_true i1
  by_cases h60 : n ≤ 60
  ·have i2 : (n : Int) ≤ 60 := by omega
   have d2 : decide ((n : Int) ≤ 60) = true := decide_eq_true i2
   obtain ⟨b, o, A1, n1, d1', rfl, hb, -, -, -, c3, -, r1⟩ := (HR.out.below hB).at_ k hlt
   have m1 := r1.n63
   clear r1
   by_cases h4 : 400 < n1
   ·have i3 : (400 : Int) < (n1 : Int) := by omega
    go_wp2_with fail
    go_ret
    exact ⟨false, rfl, hB, fun h => by cases h⟩
   ·have i3 : ¬ ((400 : Int) < (n1 : Int)) := by omega
    have wk2 : IntKind.i64.wrap ((k : Int) + 1) = (k : Int) + 1 := IntWalk.i64_in _ (by omega)
    go_wp2_with fail
    exact ⟨⟨k + 1, by omega, by rw [Int.natCast_add]; rfl, hB⟩, by simp [intOf]; omega⟩
  ·have i2 : ¬ ((n : Int) ≤ 60) := by omega
   have d2 : decide ((n : Int) ≤ 60) = false := decide_eq_false i2
   go_wp2_with fail
   go_ret
   exact ⟨false, rfl, hB, fun h => by cases h⟩
 ·obtain rfl : k = n := by omega
  have i1 : ¬ ((k : Int) < (k : Int)) := by omega
  have d1 : decide ((k : Int) < (k : Int)) = false := decide_eq_false i1
  have d1' : decide (k < k) = false := decide_eq_false hlt
  go_wp2_with fail
  go_ret
  exact ⟨decide ((k : Int) ≤ 60), rfl, hB, fun h => by have := of_decide_eq_true h; omega⟩
theorem Rd.off {w W : World} {A : Option Addr} {xs : List Value} {g : Nat} {cs : Array Value} {T : TypeId} (h : Rd w A xs) (hg : w.heap[g]? = some (.cells cs T (0, 0))) (hs : cs.size < xs.length) (ha : Agr (fun j => j = g) w W) : Rd W A xs := by
 rcases h with rfl | ⟨b, o, rfl, hb, hc⟩
 ·exact .inl rfl
 ·have hne : b ≠ g := by
   rintro rfl
   have := hc (xs.length - 1) _ (List.getElem?_eq_getElem (by omega))
   rw [cell_of_row w b _ _ _ _ hg, Array.getElem?_eq_none (by omega)] at this
   cases this
  exact .inr ⟨b, o, rfl, Nat.lt_of_lt_of_le hb ha.2.2.2.1, fun i v hv => (World.cell?_of_block (ha.2.2.2.2 b hb hne)).trans (hc i v hv)⟩
theorem parts_off {w W : World} {g : Nat} {cs : Array Value} {T : TypeId} (hg : w.heap[g]? = some (.cells cs T (0, 0))) (hs : cs.size < 256) (ha : Agr (fun j => j = g) w W) : ∀ {vs : List Value} {yss : List (List UInt8)}, Parts w vs yss → (∀ y ∈ yss, y.length = 256) → Parts W vs yss
 | [], [], h, _ => h
 | v :: vs, y :: yss, ⟨⟨A, n, c, h1, h2⟩, h3⟩, hy => ⟨⟨A, n, c, h1, h2.1.off hg (by have := hy y (by simp); simp; omega) ha, h2.2⟩, parts_off hg hs ha h3 (fun z hz => hy z (by simp [hz]))⟩
 | [], _ :: _, h, _ => h.elim
 | _ :: _, [], h, _ => h.elim
theorem DkVal.off {w W : World} {AV : Array Value} {D : Dk} {g : Nat} {cs : Array Value} {T : TypeId} (v : DkVal AV w D) (hok : dkOk D = true) (hk : D.k = []) (hl : cs.size < D.s.length) (hs : cs.size < 256) (hg : w.heap[g]? = some (.cells cs T (0, 0))) (ha : Agr (fun j => j = g) w W) : DkVal AV W D := by
 obtain ⟨S, sn, sc, K, kn, kc, rfl, ⟨vs, r1, r2, r3, r4, r5⟩, us, k1, k2, k3, k4, k5⟩ := v
 obtain ⟨d1, d2, d3, d4⟩ := (dkOk_iff D).1 hok
 have hvl := r5.length
 refine ⟨S, sn, sc, K, kn, kc, rfl, ⟨vs, r1.off hg (by omega) ha, r2, r3, r4, parts_off hg hs ha r5 d3⟩, us, ?_, k2, k3, k4, ?_⟩
 ·rw [hk] at k5
  have := k5.length
  have e : us = [] := List.length_eq_zero_iff.1 (by simpa using this)
  rw [e]; exact .inl rfl
 ·rw [hk] at k5 ⊢
  have := k5.length
  have e : us = [] := List.length_eq_zero_iff.1 (by simpa using this)
  rw [e]; trivial
theorem su_freshB {ops : Array Oper} {rest : List Oper} {o : Oper} {a : Act} {w : World} {Q : Exit → Act → World → Prop} {h : Nat} (y : Su) (hgd : o.guard = none) (x z : Operand) (ho : o.op = .store 33 x z) (hx : a.eval x = .pointer (some ⟨h, 0, none⟩)) (hz : a.eval z = .agg y.v) (w0 : World) (hw : w = w0.alloc (.cells zz1 33)) (hh : w0.heap.size = h) (hl : y.D.length = 32)
  (hK : ∀ X, Hid (X.heap[h]? = some (.cells y.v 33 (0, 0))) → Below w0.heap.size w0 X → wpList Tryz.prog ops Q rest (a.put o.dst undef) X) : wpList Tryz.prog ops Q (o :: rest) a w := by
 subst hw
 have hrow : (w0.alloc (.cells zz1 33)).heap[h]? = some (.cells suZ.v 33 (0, 0)) := by rw [suZ_v]; exact drw_at _ hh
 exact su_store hgd x z ho h hx y suZ hz hrow hl suZ_len (hK _ (Lib.hid (setRow_heap _ _ _ y.v _ _ hrow)) (below_setRow ((below_self w0).alloc (Nat.le_refl _) _) (by omega) _))
theorem RdRs.take {w : World} {A : Option Addr} {n : Nat} {l : List Rc} (h : RdRs w A n l) (k : Nat) (hk : k ≤ n) : RdRs w A k (l.take k) := by
 refine ⟨by rw [List.length_take, h.1]; omega, by have := h.2.1; omega, fun i hi => ?_⟩
 obtain ⟨bo, oo, B, m, d, h1, h2, h3, h4⟩ := h.2.2 i (by omega)
 have e : (l.take k).getD i rcZ = l.getD i rcZ := by rw [List.getD_eq_getElem?_getD, List.getD_eq_getElem?_getD, List.getElem?_take, if_pos hi]
 rw [← e] at h3 h4
 exact ⟨bo, oo, B, m, d, h1, h2, h3, h4⟩
def Bu1I (w : World) (g n : Nat) (l : List Ev) (v i : Value) (wr : World) : Prop := ∃ (k : Nat) (p : Py) (f : Pf), k ≤ n ∧ v = .bool true ∧ i = .int .i64 (k : Int) ∧ Still 200 p (l.take k) ∧ Pl w.heap.size wr g p f ∧ Below w.heap.size w wr
def Bu2I (wL : World) (g F b k : Nat) (D : Dk) (x : List UInt8) (v i : Value) (wr : World) : Prop := ∃ (j : Nat) (ts : List UInt8) (f : Pf), j ≤ 32 ∧ v = .int .u32 ((b / 2 ^ j : Nat) : Int) ∧ i = .int .i64 ((F + j : Nat) : Int) ∧ ts.length = 256 ∧ lev ts = lev x ^^^ (b % 2 ^ j) * 2 ^ F ∧ f.m.z ∧ PlAt wr g f ∧ DkVal f.AV wr ⟨D.s.set (98 + k) ts, []⟩ ∧ Agr (fun q => q = g) wL wr
theorem jrnBurst_out (A : Option Addr) (n c : Nat) (us : List Value) (l : List Ev) (which at_ : Int) (b : Nat) (w : World) (hr : RdEv w A n c us l) (hb : b < 4294967296) (hn : which < 0 ∨ at_ < 0 ∨ b = 0 ∨ n = 0) :
  Calls Tryz.prog 7 #[.slice A n c, .int .i64 which, .int .i64 at_, .int .u32 (b : Int)] w (RetV w (.bool true)) := by
 have hn63 : n ≤ 9223372036854775807 := by have h1 := hr.2.2.1; have h2 := hr.2.2.2.1; unfold maxLen at h2; omega
 have HF := Lib.hid (few12_any A n c us l w hr)
 clear hr
 go_enter Tryz.func7, Tryz.ntmps7
 go_wp2_with fail
 refine HF.out.mono ?_
 rintro e w1 ⟨b1, rfl, B1, -⟩
 have B1 := Lib.hid B1
 cases b1 with
 | false =>
  go_wp2_with fail
  refine (heads14 w1).mono ?_
  rintro e w2 ⟨rfl, b2⟩
  go_wp2_with fail
  go_ret
  exact ⟨rfl, below_then B1.out b2⟩
 | true =>
  by_cases h1 : which < 0
  ·have d1 : decide (which < 0) = true := decide_eq_true h1
   clear hn
   go_wp2_with fail
   refine (heads14 w1).mono ?_
   rintro e w2 ⟨rfl, b2⟩
   go_wp2_with fail
   go_ret
   exact ⟨rfl, below_then B1.out b2⟩
  have d1 : decide (which < 0) = false := decide_eq_false h1
  by_cases h2 : at_ < 0
  ·have d2 : decide (at_ < 0) = true := decide_eq_true h2
   clear hn
   go_wp2_with fail
   refine (heads14 w1).mono ?_
   rintro e w2 ⟨rfl, b2⟩
   go_wp2_with fail
   go_ret
   exact ⟨rfl, below_then B1.out b2⟩
  have d2 : decide (at_ < 0) = false := decide_eq_false h2
  by_cases h3 : b = 0
  ·subst h3
   clear hn
   go_wp2_with fail
   refine (heads14 w1).mono ?_
   rintro e w2 ⟨rfl, b2⟩
   go_wp2_with fail
   go_ret
   exact ⟨rfl, below_then B1.out b2⟩
  have d3 : ((b : Int) == 0) = false := beq_eq_false_iff_ne.2 (by omega)
  have d3' : ¬ ((b : Int) = 0) := by omega
  obtain rfl : n = 0 := by omega
  clear hn
  go_wp2_with fail
  refine (heads14 w1).mono ?_
  rintro e w2 ⟨rfl, b2⟩
  go_wp2_with fail
  go_ret
  exact ⟨rfl, below_then B1.out b2⟩
theorem jrnBurst_law (A : Option Addr) (n c : Nat) (us : List Value) (l : List Ev) (which at_ : Int) (b : Nat) (w : World) (hr : RdEv w A n c us l) (hw64 : -9223372036854775808 ≤ which ∧ which ≤ 9223372036854775807) (ha64 : -9223372036854775808 ≤ at_ ∧ at_ ≤ 9223372036854775807) (hb : b < 4294967296) :
  Calls Tryz.prog 7 #[.slice A n c, .int .i64 which, .int .i64 at_, .int .u32 (b : Int)] w (RetV w (.bool true)) := by
 by_cases hn : which < 0 ∨ at_ < 0 ∨ b = 0 ∨ n = 0
 ·exact jrnBurst_out A n c us l which at_ b w hr hb hn
 have hn63 : n ≤ 9223372036854775807 := by have h1 := hr.2.2.1; have h2 := hr.2.2.2.1; unfold maxLen at h2; omega
 obtain ⟨wh, rfl⟩ : ∃ m : Nat, which = (m : Int) := ⟨which.toNat, by omega⟩
 obtain ⟨at_, rfl⟩ : ∃ m : Nat, at_ = (m : Int) := ⟨at_.toNat, by omega⟩
 have hn0 : 0 < n := by omega
 have hb0 : b ≠ 0 := by omega
 have d1 : decide ((wh : Int) < 0) = false := decide_eq_false (by omega)
 have d2 : decide ((at_ : Int) < 0) = false := decide_eq_false (by omega)
 have d3 : ((b : Int) == 0) = false := beq_eq_false_iff_ne.2 (by omega)
 have d3' : ¬ ((b : Int) = 0) := by omega
 have d4 : ((n : Int) == 0) = false := beq_eq_false_iff_ne.2 (by omega)
 have d4' : ¬ ((n : Int) = 0) := by omega
 have HF := Lib.hid (few12_any A n c us l w hr)
 have HR := Lib.hid hr
 have hll := Lib.hid hr.2.1
 clear hr hn
 go_enter Tryz.func7, Tryz.ntmps7
 go_wp2_with fail
 refine HF.out.mono ?_
 rintro e w1 ⟨b1, rfl, B1, h60⟩
 have B1 := Lib.hid B1
 cases b1 with
 | false =>
  clear h60
  go_wp2_with fail
  refine (heads14 w1).mono ?_
  rintro e w2 ⟨rfl, b2⟩
  go_wp2_with fail
  go_ret
  exact ⟨rfl, below_then B1.out b2⟩
 | true =>
  have h60 := h60 rfl
  go_wp2_with fail
  refine (begin_any 200 (by omega) w1).mono ?_
  rintro e w2 ⟨g, f0, rfl, P0, b2⟩
  have PB := Lib.hid P0
  have BB := Lib.hid b2
  have RW := Lib.hid (HR.out.below B1.out)
  clear P0 b2
  go_wp2_with fail
  go_loopw [10, 11] (Bu1I w1 g n l) (fun _ i _ => n - (intOf i).toNat)
  case atStart => exact ⟨0, _, f0, by omega, rfl, rfl, still_begin 200 (by omega), PB.out, BB.out⟩
  case round =>
  obtain ⟨k, p, f, hk, rfl, rfl, hS, hP, hB⟩ := hrel
  have HP := Lib.hid hP
  have HBo := Lib.hid hB
  have HS := Lib.hid hS
  by_cases hlt : k < n
  ·have i1 : (k : Int) < (n : Int) := by omega
   have q1 : decide ((k : Int) < (n : Int)) = true := decide_eq_true i1
   have q1' : decide (k < n) = true := decide_eq_true hlt
   have wk2 : IntKind.i64.wrap ((k : Int) + 1) = (k : Int) + 1 := IntWalk.i64_in _ (by omega)
   obtain ⟨bo, oo, A1, n1, c1, rfl, hbo, c0, cc1, cc2, cc3, hok, r1⟩ := RW.out.at_ k hlt
   obtain ⟨e, he⟩ : ∃ e : Ev, e = l.getD k ev0 := ⟨_, rfl⟩
   rw [← he] at c0 cc1 cc2 hok r1
   have hz1 := hB.size
   have u : ∀ i, wr.cell? ⟨bo, i, none⟩ = w1.cell? ⟨bo, i, none⟩ := fun i => World.cell?_of_block (hB.block bo hbo)
   have x0 := (u _).trans c0
   have x1 := (u _).trans cc1
   have x2 := (u _).trans cc2
   have x3 := (u _).trans cc3
   have hn1 := r1.n63
   have hl1 : e.b.length = n1 := r1.2.1
   have RB1 := Lib.hid (r1.inn' (P := fun j => w1.heap.size ≤ j) hB (fun j hj => hj))
   have htk : l.take (k + 1) = l.take k ++ [e] := by
    have hll := hll.out; rw [List.take_add_one, List.getElem?_eq_getElem (by omega), he, List.getD_eq_getElem?_getD, List.getElem?_eq_getElem (by omega)]; rfl
   have hlk : (l.take k).length = k := by have hll := hll.out; rw [List.length_take]; omega
   have HC : Hid (∀ W, Calls Tryz.prog 41 #[.agg #[.int .u64 (e.t : Int), .int .i64 e.k, .int .u64 (e.c : Int), .slice A1 n1 c1]] W (RetV W (.bool e.chk))) := Lib.hid (fun W => by
    have h_ := refCheck12_any e.t e.k e.c A1 n1 c1 W hn1
    rw [show rcChk e.k e.c n1 = e.chk by unfold Ev.chk; rw [hl1]] at h_
    exact h_)
   have hbo2 : bo < wr.heap.size := Nat.lt_of_lt_of_le hbo hz1
   cases hc : e.chk with
   | false =>
    rw [hc] at HC
    clear hl1 hlk c0 cc1 cc2 cc3 u r1 hok hc hP hB hS htk he
    go_wp2_with fail
    refine (HC.out _).mono ?_
    rintro e_ w3 ⟨rfl, b3⟩
    go_wp2_with fail
    refine (heads14 _).mono ?_
    rintro e_ w4 ⟨rfl, b4⟩
    go_wp2_with fail
    go_ret
    exact ⟨rfl, below_then (below_then (below_then B1.out HBo.out) b3) b4⟩
   | true =>
    rw [hc] at HC
    have hst0 := pyEvt_still hS e hok hc (by rw [hlk]; omega)
    rw [← htk] at hst0
    unfold pyEvt at hst0
    have hgp := hS.g
    obtain ⟨p1, hp1⟩ : ∃ z, z = pyDo p (ac0_ e) := ⟨_, rfl⟩
    obtain ⟨p2, hp2⟩ : ∃ z, z = pyDo p1 ac1_ := ⟨_, rfl⟩
    obtain ⟨p3, hp3⟩ : ∃ z, z = pyDo p2 ac2_ := ⟨_, rfl⟩
    obtain ⟨p4, hp4⟩ : ∃ z, z = pyDo p3 ac1_ := ⟨_, rfl⟩
    obtain ⟨p5, hp5⟩ : ∃ z, z = pyDo p4 ac2_ := ⟨_, rfl⟩
    rw [← hp1, ← hp2, ← hp3, ← hp4, ← hp5] at hst0
    have hst := Lib.hid hst0
    have I1 : Hid (PyI 200 p1) := Lib.hid (by rw [hp1]; exact (pyDo_I hS.i (ac0_ e) ⟨hok, by simp [ac0_]⟩).1)
    have I2 : Hid (PyI 200 p2) := Lib.hid (by rw [hp2]; exact (pyDo_I I1.out ac1_ ac1_ok).1)
    have I3 : Hid (PyI 200 p3) := Lib.hid (by rw [hp3]; exact (pyDo_I I2.out ac2_ ac2_ok).1)
    have I4 : Hid (PyI 200 p4) := Lib.hid (by rw [hp4]; exact (pyDo_I I3.out ac1_ ac1_ok).1)
    have g1 : p1.J.g ≤ p.J.g + 1 := by rw [hp1]; exact pyDo_g hS.i (ac0_ e)
    have g2 : p2.J.g ≤ p1.J.g + 1 := by rw [hp2]; exact pyDo_g I1.out ac1_
    have g3 : p3.J.g ≤ p2.J.g + 1 := by rw [hp3]; exact pyDo_g I2.out ac2_
    have g4 : p4.J.g ≤ p3.J.g + 1 := by rw [hp4]; exact pyDo_g I3.out ac1_
    have HD0 : Hid (∀ W, Below wr.heap.size wr W → Calls Tryz.prog 12 #[.pointer (some ⟨g, 0, none⟩), .agg #[.int .i64 0, .int .i64 0, .int .u64 (e.t : Int), .int .i64 e.k, .int .u64 (e.c : Int), .slice A1 n1 c1, .slice none 0 0]] W (RetPl w1.heap.size g W p1 true)) := Lib.hid (fun W hW => by
     rw [hp1]
     exact do_any 200 w1.heap.size g p f (ac0_ e) A1 n1 c1 none 0 0 W hS.i (hP.below hW) ⟨hok, by simp [ac0_]⟩ (Nat.le_trans hB.size hW.size) (by omega) (RB1.out.below hW) (bin_nil _ _))
    have E2 := Lib.hid hp2
    have E3 := Lib.hid hp3
    have E4 := Lib.hid hp4
    have E5 := Lib.hid hp5
    clear hst0 hl1 hlk c0 cc1 cc2 cc3 u r1 hok hc hP hB hS htk he hp1 hp2 hp3 hp4 hp5
    go_wp2_with fail
    refine (HC.out _).mono ?_
    rintro e_ w3 ⟨rfl, b3⟩
    have y0 := (World.cell?_of_block (b3.block bo hbo2)).trans x0
    have y1 := (World.cell?_of_block (b3.block bo hbo2)).trans x1
    have y2 := (World.cell?_of_block (b3.block bo hbo2)).trans x2
    have y3 := (World.cell?_of_block (b3.block bo hbo2)).trans x3
    have z3 := Nat.le_trans hz1 b3.size
    have B3 := Lib.hid (below_then HBo.out b3)
    have b3' := Lib.hid b3
    clear x0 x1 x2 x3 b3
    go_wp2_with fail
    refine (HD0.out _ b3'.out).mono ?_
    rintro e_ w4 ⟨rfl, b4, f2, P2⟩
    have z4 := Nat.le_trans z3 b4.size
    have H2 := Lib.hid (do_const 1 200 w1.heap.size g p1 f2 w4 I1.out P2 z4 (by omega))
    rw [show pyDo p1 ⟨1, 0, ⟨0, 0, 0, []⟩, []⟩ = p2 from E2.out.symm] at H2
    have B4 := Lib.hid (B3.out.trans b4)
    clear b4 P2 y0 y1 y2 y3
    go_wp2_with fail
    refine H2.out.mono ?_
    rintro e_ w5 ⟨rfl, b5, f3, P3⟩
    have z5 := Nat.le_trans z4 b5.size
    have H3 := Lib.hid (do_const 2 200 w1.heap.size g p2 f3 w5 I2.out P3 z5 (by omega))
    rw [show pyDo p2 ⟨2, 0, ⟨0, 0, 0, []⟩, []⟩ = p3 from E3.out.symm] at H3
    have B5 := Lib.hid (B4.out.trans b5)
    clear b5 P3
    go_wp2_with fail
    refine H3.out.mono ?_
    rintro e_ w6 ⟨rfl, b6, f4, P4⟩
    have z6 := Nat.le_trans z5 b6.size
    have H4 := Lib.hid (do_const 1 200 w1.heap.size g p3 f4 w6 I3.out P4 z6 (by omega))
    rw [show pyDo p3 ⟨1, 0, ⟨0, 0, 0, []⟩, []⟩ = p4 from E4.out.symm] at H4
    have B6 := Lib.hid (B5.out.trans b6)
    clear b6 P4
    go_wp2_with fail
    refine H4.out.mono ?_
    rintro e_ w7 ⟨rfl, b7, f5, P5⟩
    have z7 := Nat.le_trans z6 b7.size
    have H5 := Lib.hid (do_const 2 200 w1.heap.size g p4 f5 w7 I4.out P5 z7 (by omega))
    rw [show pyDo p4 ⟨2, 0, ⟨0, 0, 0, []⟩, []⟩ = p5 from E5.out.symm] at H5
    have B7 := Lib.hid (B6.out.trans b7)
    clear b7 P5
    go_wp2_with fail
    refine H5.out.mono ?_
    rintro e_ w8 ⟨rfl, b8, f6, P6⟩
    have P6h := Lib.hid P6
    have B8 := Lib.hid (B7.out.trans b8)
    clear b8 P6
    go_wp2_with fail
    go_roundw
    case rel => exact ⟨k + 1, p5, f6, by omega, rfl, by rw [Int.natCast_add]; rfl, hst.out, P6h.out, B8.out⟩
    case measure => simp [intOf]; omega
  ·obtain rfl : k = n := by omega
   have i1 : ¬ ((k : Int) < (k : Int)) := by omega
   have q1 : decide ((k : Int) < (k : Int)) = false := decide_eq_false i1
   have q1' : decide (k < k) = false := decide_eq_false hlt
   rw [show l.take k = l by rw [← hll.out]; exact List.take_length] at hS HS
   have hld := still_load hS
   have hll := hll.out
   rw [hll] at hld
   obtain ⟨-, -, -, hDk, -, -, -, -, -⟩ := hS.at_
   have hnr : l.length ≤ 200 - 98 := by have h1 := hS.i.b.nr; have h2 := hS.i.b.next; rw [hS.g, hS.e] at h2; omega
   have hev1 : (pyEv p 1).length = k := by rw [hS.e]; exact hll
   obtain ⟨S0, sn0, sc0, K0, kn0, kc0, hAV, hrd⟩ := hP.d.val
   obtain ⟨⟨rfl, rfl, rfl⟩, rfl, rfl, rfl⟩ : (f.dS = S0 ∧ f.dn = sn0 ∧ f.dc = sc0) ∧ f.dK = K0 ∧ f.kn = kn0 ∧ f.kc = kc0 := by simpa [Pf.AV] using hAV
   obtain ⟨st, hst⟩ : ∃ z, z = pySt p 1 := ⟨_, rfl⟩
   obtain ⟨rs, hrs⟩ : ∃ z, z = (pyRs p 1).take k := ⟨_, rfl⟩
   obtain ⟨S, hSu⟩ : ∃ z, z = headSu 1 st := ⟨_, rfl⟩
   have HLo : Hid (∀ AV W, DkVal AV W p.D → Calls Tryz.prog 31 #[.agg AV] W (RetLd W S st rs 0)) := Lib.hid (fun AV W v => (jrnLoad_any AV p.D W v).mono fun e w' h => by
    have h := h.1 hld.e
    rw [hld.h, hld.s, hld.r, ← hst, ← hrs, ← hSu] at h; exact h)
   have hSl : S.D.length = 32 := by rw [hSu]; exact jnBase_len _
   have HSl := Lib.hid hSl
   have hrl : rs.length = k := by rw [hrs, List.length_take, pyRs_len, hev1]; omega
   have HRL := Lib.hid hrl
   obtain ⟨kk, hkk⟩ : ∃ z, z = wh % k := ⟨_, rfl⟩
   have hkn : kk < k := by rw [hkk]; exact Nat.mod_lt _ hn0
   have tm : (wh : Int).tmod (k : Int) = (kk : Int) := by rw [hkk]; exact (Int.ofNat_tmod wh k).symm
   obtain ⟨F, hF⟩ : ∃ F : Nat, F = at_ % 2017 := ⟨_, rfl⟩
   have hF1 : F ≤ 2016 := by omega
   have hkm : ((at_ : Int) % 2017) = (F : Int) := by rw [hF]; rfl
   obtain ⟨x, hx⟩ : ∃ z, z = secOf p.D (98 + kk) := ⟨_, rfl⟩
   have hds : p.D.s.length = 200 := hS.i.b.ds
   have hxl : x.length = 256 := by
    have := (dkOk_iff p.D).1 hS.i.b.dk
    rw [hx]; unfold secOf; rw [List.getD, List.getElem?_eq_getElem (by omega)]
    exact this.2.2.1 _ (List.getElem_mem _)
   have hsame : (⟨p.D.s.set (98 + kk) x, []⟩ : Dk) = p.D := by
    rw [hx]; unfold secOf; rw [set_same _ _ (by omega), ← hDk]
   have HLo2 : Hid (∀ AV W ts, ts.length = 256 → lev ts = lev x ^^^ (b % 2 ^ 32) * 2 ^ F → DkVal AV W ⟨p.D.s.set (98 + kk) ts, []⟩ → Calls Tryz.prog 31 #[.agg AV] W (RetLd W S st (rs.take kk) 0)) := Lib.hid (fun AV W ts h1 h2 v => by
    have hts : crcHolds ts = false := still_sec hS kk (by omega) ts b F hb0 hb (by omega) h1 (by rw [h2, Nat.mod_eq_of_lt (show b < 2 ^ 32 from hb), hx])
    have hl2 := (still_burst hS kk (by omega) ts hts h1 _ rfl).2
    refine (jrnLoad_any AV _ W v).mono fun e w' h => ?_
    have h := h.1 hl2.e
    rw [hl2.h, hl2.s, hl2.r, ← hst, ← hSu] at h
    rw [hrs, List.take_take, Nat.min_eq_left (by omega)]
    exact h)
   have HOK : Hid (∀ ts : List UInt8, ts.length = 256 → dkOk ⟨p.D.s.set (98 + kk) ts, []⟩ = true) := Lib.hid (fun ts h => still_ok hS _ ts h)
   have HSM := Lib.hid hsame
   have HXL := Lib.hid hxl
   have HDS := Lib.hid hds
   have c78 := hP.row.c78 hP.z
   have c79 := hP.row.c79 hP.z
   have HRD : Hid (DkVal f.AV wr p.D) := Lib.hid ⟨_, _, _, _, _, _, rfl, hrd⟩
   have HGB := hP.gb
   have HFZ := Lib.hid hP.z
   have HRow := Lib.hid hP.row
   obtain ⟨D, hD⟩ : ∃ z, z = p.D := ⟨_, rfl⟩
   rw [← hD] at HLo HLo2 HOK HSM HDS HRD
   clear hll hld hS HS hP HP hB hDk hnr hev1 hAV hrd hst hrs hSu hSl hrl hkk hF hx hds hxl hsame hD
   go_wp2_with fail
   refine (HLo.out _ _ HRD.out).mono ?_
   rintro e_ w5 ⟨A5, n5, c5, R5, m5, q5, rfl, o5, r5, b5⟩
   have P5 := Lib.hid r5
   have B5 := Lib.hid (below_then HBo.out b5)
   have b5' := Lib.hid b5
   obtain rfl : k = m5 := HRL.out.symm.trans r5.len
   have HCAP : Hid (k ≤ q5 ∧ q5 ≤ maxLen) := Lib.hid (by obtain ⟨us_, h_, -⟩ := r5; exact (own_rdK h_).2)
   have hwz := b5.size
   clear o5 r5 b5 c78 c79
   go_wp2_with (refine su_freshB S rfl _ _ rfl rfl rfl w5 rfl rfl HSl.out ?_; intro X6 s6 b6; have B6 := Lib.hid (below_then B5.out b6); have b6' := Lib.hid (below_then b5'.out b6); have P6 := Lib.hid (OwR.below P5.out b6))
   go_wp2_with fail
   rw [hkm]
   go_loopw [3, 18] (Bu2I X6 g F b kk D x) (fun _ i _ => F + 32 - (intOf i).toNat)
   case atStart => exact ⟨0, x, f, by omega, by simp, by simp, HXL.out, by simp [Nat.mod_one], HFZ.out, HRow.out.up b6'.out, by rw [HSM.out]; exact HRD.out.below b6'.out, Agr.refl _ _⟩
   case round =>
   obtain ⟨j, ts, f2, hj, rfl, rfl, htl, hlv, hz, hrow, hv, hag⟩ := hrel
   have HV := Lib.hid hv
   have HROW := Lib.hid hrow
   have HAG := Lib.hid hag
   have HLV := Lib.hid hlv
   have HTL := Lib.hid htl
   have c78 := hrow.c78 hz
   have c79 := hrow.c79 hz
   have HZ := Lib.hid hz
   clear hv hrow hag hlv htl hz
   by_cases hlt2 : j < 32
   ·have k1 : ((F + j : Nat) : Int) < (F : Int) + 32 := by omega
    have hidx : (F + j) / 8 < 256 := by omega
    obtain ⟨u, hu⟩ : ∃ u, ts[(F + j) / 8]? = some u := ⟨_, List.getElem?_eq_getElem (by rw [HTL.out]; exact hidx)⟩
    have hp : b / 2 ^ j < 4294967296 := Nat.lt_of_le_of_lt (Nat.div_le_self _ _) hb
    have h2 : b / 2 ^ (j + 1) = b / 2 ^ j / 2 := by rw [Nat.pow_succ, Nat.div_div_eq_div_mul]
    have HU := Lib.hid hu
    have H2 := Lib.hid h2
    clear hu h2
    generalize hR : b / 2 ^ j = R at *
    generalize hI : F + j = I at *
    have HR := Lib.hid hR
    have HI := Lib.hid hI
    have hI2 : I < 2048 := by omega
    have wI : IntKind.i64.wrap ((I : Int) + 1) = (I : Int) + 1 := IntWalk.i64_in _ (by omega)
    clear hR hI
    by_cases hodd : R % 2 = 1
    ·have e1 : ((R : Int) % 2 == 1) = true := by simp; omega
     have HO := Lib.hid hodd
     clear hodd
     have ew : (((UInt8.ofNat (2 ^ (I % 8))).toNat : Nat) : Int) = 2 ^ (I % 8) % 256 := by
      rw [UInt8.toNat_ofNat', Int.natCast_emod, Int.natCast_pow]; rfl
     have hT := tamper_set D.s (98 + kk) (I / 8) ts (UInt8.ofNat (2 ^ (I % 8))) u (HOK.out ts HTL.out) (by rw [HDS.out]; omega) hidx HU.out
     obtain ⟨S0, sn0, sc0, K0, kn0, kc0, hAV, hrd⟩ := HV.out
     obtain ⟨⟨rfl, rfl, rfl⟩, rfl, rfl, rfl⟩ : (f2.dS = S0 ∧ f2.dn = sn0 ∧ f2.dc = sc0) ∧ f2.dK = K0 ∧ f2.kn = kn0 ∧ f2.kc = kc0 := by simpa [Pf.AV] using hAV
     have hcall := ref_Tamper_any f2.dS f2.dn f2.dc f2.dK f2.kn f2.kc ⟨D.s.set (98 + kk) ts, []⟩ ((98 + kk : Nat) : Int) ((I / 8 : Nat) : Int) (UInt8.ofNat (2 ^ (I % 8))) wr hrd (by omega) (by omega)
     rw [hT.1, hT.2, ew] at hcall
     have HCALL := Lib.hid hcall
     have HTl : Hid ((ts.set (I / 8) (u ^^^ UInt8.ofNat (2 ^ (I % 8)))).length = 256) := Lib.hid (by rw [List.length_set]; exact HTL.out)
     have HLV2 := Lib.hid (burst_odd ts u (lev x) F b j I HI.out HU.out HLV.out (by rw [HR.out]; exact HO.out))
     generalize ts.set (I / 8) (u ^^^ UInt8.ofNat (2 ^ (I % 8))) = ts2 at hcall HCALL HTl HLV2 hT
     clear hcall hT hAV hrd
     go_wp2_with fail
     refine HCALL.out.mono ?_
     rintro e_ w9 ⟨S2, sn2, sc2, K2, kn2, kc2, rfl, rd9, b9⟩
     have R9 := Lib.hid (HROW.out.up b9)
     have c78 := R9.out.c78 HZ.out
     have c79 := R9.out.c79 HZ.out
     have f78 := R9.out.fr 78
     have f79 := R9.out.fr 79
     have V9 : Hid (DkVal #[.slice S2 sn2 sc2, .slice K2 kn2 kc2] w9 ⟨D.s.set (98 + kk) ts2, []⟩) := Lib.hid ⟨_, _, _, _, _, _, rfl, rd9⟩
     have b9' := Lib.hid b9
     clear rd9 b9
     go_wp2_with fail
     have hA2 : Agr (fun q => q = g) w9 (w9.setCells g 78 [.slice S2 sn2 sc2, .slice K2 kn2 kc2]) := Agr.cellsT rfl rfl
     go_roundw
     case rel => exact ⟨j + 1, ts2, { f2 with dS := S2, dn := sn2, dc := sc2, dK := K2, kn := kn2, kc := kc2 }, by omega, by rw [H2.out]; go_num, by rw [← HI.out]; go_num, HTl.out, HLV2.out, HZ.out, R9.out.sD HZ.out S2 sn2 sc2 K2 kn2 kc2, V9.out.off (HOK.out _ HTl.out) rfl (by simp [HDS.out, plV_len HZ.out]) (by simp [plV_len HZ.out]) R9.out hA2, HAG.out.comp ((Agr.of_below (fun q => q = g) b9'.out).comp hA2 (fun _ h => .inl h)) (fun _ h => .inl h)⟩
     case measure => simp [intOf]; omega
    ·have e1 : ((R : Int) % 2 == 1) = false := by simp; omega
     have hev : R % 2 = 0 := by omega
     have HO := Lib.hid hev
     clear hodd hev
     go_wp2_with fail
     go_roundw
     case rel => exact ⟨j + 1, ts, f2, by omega, by rw [H2.out]; go_num, by rw [← HI.out]; go_num, HTL.out, burst_even _ F b j _ HLV.out (by rw [HR.out]; exact HO.out), HZ.out, HROW.out, HV.out, HAG.out⟩
     case measure => simp [intOf]; omega
   ·obtain rfl : j = 32 := by omega
    have hg6 : g < w5.heap.size := Nat.lt_of_lt_of_le HRow.out.lt hwz
    have BA := Lib.hid (HAG.out.below (B := w1.heap.size) (fun q hq => by rw [hq]; exact HGB) B6.out.size)
    have PR := Lib.hid (OwR.agr P6.out HAG.out.p (fun q hq => by rw [hq]; exact HRow.out.lt)).rds
    have hLo := HLo2.out f2.AV wr ts HTL.out HLV.out HV.out
    have HL2 := Lib.hid hLo
    clear hLo
    go_wp2_with fail
    refine HL2.out.mono ?_
    rintro e_ w9 ⟨A9, n9, c9, R9, m9, q9, rfl, o9, r9, b9⟩
    have P9 := Lib.hid r9
    have B9 := Lib.hid (below_then (B6.out.trans BA.out) b9)
    have PR9 := Lib.hid (PR.out.below b9)
    obtain rfl : kk = m9 := by have := r9.len; rw [List.length_take, HRL.out] at this; omega
    clear o9 r9 b9 c78 c79
    obtain ⟨bo, oo, B_, m_, d_, rfl, hbo, -, -⟩ := PR9.out.2.2 0 hn0
    have hcap := HCAP.out
    have k2 : (kk : Int) ≤ (k : Int) := by omega
    have k3 : (kk : Int) ≤ (q5 : Int) := by omega
    have k4 : kk ≤ q5 := by omega
    have k5 : kk ≤ k := by omega
    go_wp2_with (refine su_freshB S rfl _ _ rfl rfl rfl w9 rfl rfl HSl.out ?_; intro X10 s10 b10; have B10 := Lib.hid (below_then B9.out b10); have P10 := Lib.hid (OwR.below P9.out b10); have PR10 := Lib.hid (PR9.out.below b10))
    refine (refRecs_self R9 kk q9 (some ⟨bo, oo, none⟩) q5 (rs.take kk) X10 P10.out.rds (PR10.out.take kk (by omega))).mono ?_
    rintro e_ w11 ⟨rfl, b11⟩
    go_wp2_with fail
    refine (heads14 _).mono ?_
    rintro e_ w12 ⟨rfl, b12⟩
    go_wp2_with fail
    go_ret
    exact ⟨rfl, below_then (below_then (below_then B1.out B10.out) b11) b12⟩
end Go.Proofs.YtpahicfnhhhifaaGreat
