/-
 Proved here, for the statement JournalBurst:
 Layer 14: a journal over a disk (plain): each act keeps what is so.
 Layer 14: a journal over a disk (plain): what is so stays so, whatever act.
-/
import Derived.Laws.CopyRow
import Derived.Laws.IdiomCopy
import Derived.Test.YtpahicfnhhhifaaGreatGb22
set_option linter.unusedVariables false
set_option linter.unusedSimpArgs false
namespace Go.Proofs.YtpahicfnhhhifaaGreat
set_option maxRecDepth 20000
set_option maxHeartbeats 1000000
def pySt (p : Py) (g : Nat) : List UInt8 := p.sts.getD g []
def pyEv (p : Py) (g : Nat) : List Ev := p.evs.getD g []
def pyRs (p : Py) (g : Nat) : List Rc := evRcs g 0 (jnBase (pySt p g)) (pyEv p g)
theorem pyRs_len (p : Py) (g : Nat) : (pyRs p g).length = (pyEv p g).length := evRcs_len _ _ _ _
structure Here (p : Py) (n g d : Nat) : Prop where
 gen : GenAt (secOf p.D) g (pySt p g) (pyRs p g) d
 tail : ∀ i, d ≤ i → 98 + i < n → NoRec g (secOf p.D (98 + i))
structure PyB (n : Nat) (p : Py) : Prop where
 n98 : 98 ≤ n ∧ n ≤ 256
 g1 : 1 ≤ p.J.g
 g2 : p.J.g < 4294967296
 sl : p.sts.length = p.J.g + 1
 el : p.evs.length = p.J.g + 1
 st : ∀ g, (pySt p g).length ≤ 3000
 ev : ∀ g, ∀ e ∈ pyEv p g, e.ok ∧ e.chk = true
 slot : p.J.slot = slotOf p.J.g
 room : p.J.room = ((n - 98 : Nat) : Int)
 next : p.J.next = (pyEv p p.J.g).length
 nr : p.J.next ≤ n - 98
 wl : p.J.will ≤ p.J.next
 dl : p.J.done ≤ p.J.will
 ch : p.J.ch = rcEnd (jnBase (pySt p p.J.g)) (pyRs p p.J.g)
 wait : p.J.wait = (List.range (p.J.next - p.J.will)).map (fun i => wrLog (pyRs p p.J.g) (p.J.will + i))
 err : p.J.err = 0
 out : p.J.out = (p.todo.length : Int)
 su1 : suCheck p.J.su.s p.J.su.l = true
 su2 : p.J.su.g < 4294967296
 su3 : p.J.su.D.length = 32
 su4 : 3 ≤ p.J.ph → p.J.su = headSu p.J.g (pySt p p.J.g)
 dk : dkOk p.D = true
 ds : p.D.s.length = n
def PyPh (n : Nat) (p : Py) : Prop :=
 (p.J.ph = 0 ∧ p.todo = [] ∧ p.fl = [] ∧ p.J.jobs = [] ∧ p.D.k = [] ∧ p.J.done = p.J.will ∧ Here p n p.J.g p.J.will) ∨
 (∃ fz : Bool, p.J.ph = (if fz = true then 2 else 1) ∧ Und (wrLog (pyRs p p.J.g)) p.J.done p.J.will fz p.D p.todo p.fl p.J.jobs ∧ Here p n p.J.g p.J.done) ∨
 (∃ fz : Bool, p.J.ph = (if fz = true then 4 else 3) ∧ p.J.will = 0 ∧ 2 ≤ p.J.g ∧ Und (wrSlot p.J.g (pySt p p.J.g)) 0 (secs (pySt p p.J.g)) fz p.D p.todo p.fl p.J.jobs ∧ Here p n (p.J.g - 1) (pyEv p (p.J.g - 1)).length) ∨
 (∃ fz : Bool, p.J.ph = (if fz = true then 6 else 5) ∧ p.J.will = 0 ∧ 2 ≤ p.J.g ∧ Und (wrHead p.J.g (pySt p p.J.g)) 0 1 fz p.D p.todo p.fl p.J.jobs ∧ Here p n (p.J.g - 1) (pyEv p (p.J.g - 1)).length ∧ ∀ i, i < secs (pySt p p.J.g) → secOf p.D (placeOf p.J.g + i) = jnSec (pySt p p.J.g) i)
structure PyI (n : Nat) (p : Py) : Prop where
 b : PyB n p
 ph : PyPh n p
theorem rcsChain {n : Nat} {p : Py} (h : PyB n p) (g : Nat) (hg : g < 4294967296) (hl : (pyEv p g).length ≤ 4294967296) : RcChain (jnBase (pySt p g)) g 0 (pyRs p g) := evRcs_chain g hg _ _ _ (h.ev g) (by omega)
theorem pyRs_at {n : Nat} {p : Py} (h : PyB n p) (g : Nat) (hg : g < 4294967296) (i : Nat) (hi : i < (pyEv p g).length) (hl : (pyEv p g).length ≤ 4294967296) : ((pyRs p g).getD i rcZ).ok ∧ ((pyRs p g).getD i rcZ).chk = true ∧ ((pyRs p g).getD i rcZ).g = g ∧ (rcPutL ((pyRs p g).getD i rcZ)).length = 256 := by
 obtain ⟨Q, hQ⟩ := evRcs_get g (pyEv p g) 0 (jnBase (pySt p g)) i hi
 have e : (pyRs p g).getD i rcZ = evRc g (0 + i) Q ((pyEv p g).getD i ⟨0, 0, 0, []⟩) := hQ
 have hm : (pyEv p g).getD i ⟨0, 0, 0, []⟩ ∈ pyEv p g := by simp [List.getD, hi]
 obtain ⟨h1, h2⟩ := h.ev g _ hm
 have ho := evRc_ok g (0 + i) Q _ hg (by omega) h1
 rw [e]
 refine ⟨ho, h2, rfl, ?_⟩
 unfold rcPutL
 rw [if_pos (show (evRc g (0 + i) Q ((pyEv p g).getD i ⟨0, 0, 0, []⟩)).chk = true from h2)]
 exact rcL_len _ (by have := (rcChk_len h2).1; show ((pyEv p g).getD i ⟨0, 0, 0, []⟩).b.length ≤ 186; omega) (shLink_len _ _)
theorem wrLog_inj (R : List Rc) (i j : Nat) (h : (wrLog R i).1 = (wrLog R j).1) : (wrLog R i).2 = (wrLog R j).2 := by
 obtain rfl : i = j := by simp only [wrLog] at h; omega
 rfl
theorem wrSlot_inj (g : Nat) (st : List UInt8) (i j : Nat) (h : (wrSlot g st i).1 = (wrSlot g st j).1) : (wrSlot g st i).2 = (wrSlot g st j).2 := by
 obtain rfl : i = j := by simp only [wrSlot] at h; omega
 rfl
theorem wrHead_inj (g : Nat) (st : List UInt8) (i j : Nat) (h : (wrHead g st i).1 = (wrHead g st j).1) : (wrHead g st i).2 = (wrHead g st j).2 := rfl
theorem placeOf_or (g : Nat) : placeOf g = 2 ∨ placeOf g = 50 := by unfold placeOf; split <;> simp
theorem secs_le {st : List UInt8} (h : st.length ≤ 3000) : secs st ≤ 12 := by unfold secs; omega
structure WrOk (n : Nat) (wr : Nat → Jb) (lo hi : Nat) : Prop where
 at_ : ∀ i, lo ≤ i → i < hi → ∃ a : Nat, (wr i).1 = (a : Int) ∧ a < n
 len : ∀ i, lo ≤ i → i < hi → (wr i).2.length = 256
theorem wrLog_ok {n : Nat} {p : Py} (h : PyB n p) : WrOk n (wrLog (pyRs p p.J.g)) p.J.done p.J.next :=
 ⟨fun i h1 h2 => ⟨98 + i, rfl, by have := h.nr; have := h.n98; omega⟩, fun i h1 h2 => (pyRs_at h p.J.g h.g2 i (by rw [← h.next]; exact h2) (by rw [← h.next]; have := h.nr; have := h.n98; omega)).2.2.2⟩
theorem wrSlot_ok {n : Nat} (g : Nat) {st : List UInt8} (h : 98 ≤ n) (hs : st.length ≤ 3000) : WrOk n (wrSlot g st) 0 (secs st) :=
 ⟨fun i _ h2 => ⟨placeOf g + i, rfl, by have := placeOf_or g; have := secs_le hs; omega⟩, fun i _ _ => jnSec_len _ _⟩
theorem wrHead_ok {n : Nat} (g : Nat) {st : List UInt8} (h : 98 ≤ n) (hs : st.length ≤ 3000) : WrOk n (wrHead g st) 0 1 :=
 ⟨fun i _ h2 => ⟨g % 2, rfl, by omega⟩, fun i _ _ => headB_len _ _ (by omega)⟩
theorem WrOk.sub {n : Nat} {wr : Nat → Jb} {lo hi lo' hi' : Nat} (h : WrOk n wr lo hi) (h1 : lo ≤ lo') (h2 : hi' ≤ hi) : WrOk n wr lo' hi' := ⟨fun i a b => h.at_ i (by omega) (by omega), fun i a b => h.len i (by omega) (by omega)⟩
theorem WrOk.jb {n : Nat} {wr : Nat → Jb} {lo hi : Nat} (h : WrOk n wr lo hi) (hn : n ≤ 256) (i : Nat) (h1 : lo ≤ i) (h2 : i < hi) : jb1 (wr i) = true := by
 obtain ⟨a, e, ha⟩ := h.at_ i h1 h2
 unfold jb1
 rw [e, h.len i h1 h2]
 simp
 omega
theorem jbOk_of {l : List Jb} {n : Nat} {wr : Nat → Jb} {lo hi : Nat} (h : WrOk n wr lo hi) (hn : n ≤ 256) (hs : ∀ x ∈ l, ∃ i, lo ≤ i ∧ i < hi ∧ x = wr i) : jbOk l = true := by
 unfold jbOk
 rw [List.all_eq_true]
 intro x hx
 obtain ⟨i, h1, h2, rfl⟩ := hs x hx
 exact h.jb hn i h1 h2
theorem pyI_jobs {n : Nat} {p : Py} (h : PyI n p) : jbOk p.J.jobs = true ∧ p.J.jobs.length ≤ 200 ∧ p.todo.length ≤ 200 ∧ p.fl.length = p.todo.length ∧ (0 ≤ p.J.ph ∧ p.J.ph ≤ 6) := by
 obtain ⟨hb, hp⟩ := h
 have hn := hb.n98
 have hnr := hb.nr
 have hwl := hb.wl
 have hst := secs_le (hb.st p.J.g)
 have key : ∀ (wr : Nat → Jb) (lo hi : Nat) (fz : Bool), WrOk n wr lo hi → hi - lo ≤ 158 → Und wr lo hi fz p.D p.todo p.fl p.J.jobs → jbOk p.J.jobs = true ∧ p.J.jobs.length ≤ 200 ∧ p.todo.length ≤ 200 ∧ p.fl.length = p.todo.length := fun wr lo hi fz hw hl hu => by
  cases fz with
  | true =>
   obtain ⟨h1, h2, h3, h4⟩ := hu
   simp only [if_pos] at h1
   rw [h1.1, h1.2.1, h1.2.2]
   exact ⟨rfl, by simp, by simp, by simp⟩
  | false =>
   have ht := und_t hu
   obtain ⟨h1, h2, h3, h4⟩ := hu
   simp only [Bool.false_eq_true, if_false] at h1 h2
   exact ⟨jbOk_of hw hn.2 (fun x hx => h2 x (by simp [hx])), by omega, by omega, by rw [h1]; simp⟩
 rcases hp with ⟨h0, h1, h2, h3, h4, h5, h6⟩ | ⟨fz, h0, h1, h2⟩ | ⟨fz, h0, h1, h2, h3, h4⟩ | ⟨fz, h0, h1, h2, h3, h4, h5⟩
 ·rw [h3, h1, h2, h0]; exact ⟨rfl, by simp, by simp, rfl, by decide⟩
 ·obtain ⟨a, b, c, d⟩ := key _ _ _ fz ((wrLog_ok hb).sub (Nat.le_refl _) hwl) (by omega) h1
  exact ⟨a, b, c, d, by rw [h0]; cases fz <;> decide⟩
 ·obtain ⟨a, b, c, d⟩ := key _ _ _ fz (wrSlot_ok p.J.g hn.1 (hb.st _)) (by omega) h3
  exact ⟨a, b, c, d, by rw [h0]; cases fz <;> decide⟩
 ·obtain ⟨a, b, c, d⟩ := key _ _ _ fz (wrHead_ok p.J.g hn.1 (hb.st _)) (by omega) h3
  exact ⟨a, b, c, d, by rw [h0]; cases fz <;> decide⟩
theorem pyI_wait {n : Nat} {p : Py} (h : PyB n p) : jbOk p.J.wait = true ∧ p.J.wait.length = p.J.next - p.J.will := by
 rw [h.wait]
 refine ⟨jbOk_of ((wrLog_ok h).sub h.dl (Nat.le_refl _)) h.n98.2 (fun x hx => ?_), by simp⟩
 obtain ⟨i, hi, rfl⟩ := List.mem_map.1 hx
 exact ⟨p.J.will + i, by omega, by have := List.mem_range.1 hi; omega, rfl⟩
theorem pyI_chk {n : Nat} {p : Py} (h : PyI n p) : jnChk p.J = true := by
 obtain ⟨h1, h2, h3, h4, h5⟩ := pyI_jobs h
 obtain ⟨h6, h7⟩ := pyI_wait h.b
 have hb := h.b
 have hn := hb.n98
 have hnr := hb.nr
 have hwl := hb.wl
 have hdl := hb.dl
 unfold jnChk jnCnt
 rw [h1, h6, hb.su1, hb.slot, hb.room, hb.err, hb.out, h7]
 simp only [Bool.and_true, Bool.and_eq_true, decide_eq_true_eq]
 exact ⟨slotOf_01 _, ⟨by omega, by omega, by omega, trivial⟩, ⟨by omega, by constructor <;> intro hh <;> omega⟩, by omega, h2⟩
theorem pyI_going {n : Nat} {p : Py} (h : PyI n p) : jnGoing p.J = 0 := by unfold jnGoing; rw [pyI_chk h, if_pos rfl, h.b.err]
set_option maxHeartbeats 1000000
theorem und_congr {wr wr' : Nat → Jb} {lo hi : Nat} {fz : Bool} {D : Dk} {todo : List Jb} {fl : List Bool} {jobs : List Jb} (h : Und wr lo hi fz D todo fl jobs) (e : ∀ i, lo ≤ i → i < hi → wr i = wr' i) : Und wr' lo hi fz D todo fl jobs :=
 ⟨h.form, fun x hx => by obtain ⟨i, h1, h2, h3⟩ := h.sub x hx; exact ⟨i, h1, h2, by rw [h3, e i h1 h2]⟩, fun i h1 h2 => by rw [← e i h1 h2]; exact h.all i h1 h2, h.len⟩
theorem getD_app (R : List Rc) (r : Rc) (i : Nat) (h : i < R.length) : (R ++ [r]).getD i rcZ = R.getD i rcZ := by simp [List.getD, List.getElem?_append_left h]
theorem getD_end (R : List Rc) (r : Rc) : (R ++ [r]).getD R.length rcZ = r := by simp [List.getD]
theorem wrLog_app (R : List Rc) (r : Rc) (i : Nat) (h : i < R.length) : wrLog (R ++ [r]) i = wrLog R i := by unfold wrLog; rw [getD_app R r i h]
theorem genAt_app {f : Nat → List UInt8} {g : Nat} {st : List UInt8} {R : List Rc} {d : Nat} (h : GenAt f g st R d) (r : Rc) (hd : d ≤ R.length) : GenAt f g st (R ++ [r]) d :=
 ⟨h.head, h.other, h.state, fun i hi => by rw [h.recs i hi, getD_app R r i (by omega)]⟩
theorem here_of {p p' : Py} {n g d : Nat} (h : Here p n g d) (hD : ∀ a, secOf p'.D a = secOf p.D a) (hs : pySt p' g = pySt p g) (he : pyEv p' g = pyEv p g) : Here p' n g d := by
 obtain ⟨⟨h1, h2, h3, h4⟩, h5⟩ := h
 refine ⟨⟨?_, ?_, ?_, ?_⟩, fun i a b => by rw [hD]; exact h5 i a b⟩
 ·rw [hD, hs]; exact h1
 ·rw [hD]; exact h2
 ·intro i hi; rw [hs] at hi ⊢; rw [hD]; exact h3 i hi
 ·intro i hi; unfold pyRs; rw [hD, hs, he]; exact h4 i hi
theorem pyApp_ev (p : Py) (e : Ev) (h : pyAppE p e = 0) (hl : p.evs.length = p.J.g + 1) (g : Nat) : pyEv (pyApp p e) g = if g = p.J.g then pyEv p p.J.g ++ [e] else pyEv p g := by
 unfold pyEv pyApp
 simp only [if_pos h]
 rw [hl, show p.J.g + 1 - 1 = p.J.g by omega]
 by_cases hg : g = p.J.g
 ·subst hg; rw [if_pos rfl]; simp [List.getD, hl]
 ·rw [if_neg hg]; simp [List.getD, List.getElem?_set, Ne.symm hg]
theorem pyApp_no (p : Py) (e : Ev) (h : ¬ pyAppE p e = 0) : pyApp p e = p := by
 unfold pyApp jnApp
 have h' : ¬ jnAppE p.J e.k e.c e.b.length = 0 := h
 rw [if_neg h, if_neg h']
theorem pyApp_J (p : Py) (e : Ev) (h : pyAppE p e = 0) : (pyApp p e).J = { p.J with wait := p.J.wait ++ [(((98 + p.J.next : Nat) : Int), rcPutL (evRc p.J.g p.J.next p.J.ch e))], next := p.J.next + 1, ch := (evRc p.J.g p.J.next p.J.ch e).D } := by
 unfold pyApp jnApp
 have h' : jnAppE p.J e.k e.c e.b.length = 0 := h
 simp only [if_pos h']
 rfl
theorem pyAppE_zero {n : Nat} {p : Py} (hI : PyI n p) {e : Ev} (h : pyAppE p e = 0) : e.chk = true ∧ p.J.next < n - 98 := by
 unfold pyAppE jnAppE at h
 rw [pyI_going hI, if_neg (by decide)] at h
 cases hc : rcChk e.k e.c e.b.length with
 | false => rw [hc] at h; simp at h
 | true =>
  rw [hc, if_neg (by simp), hI.b.room] at h
  refine ⟨hc, ?_⟩
  by_cases hr : ((n - 98 : Nat) : Int) ≤ (p.J.next : Int)
  ·rw [if_pos hr] at h; simp at h
  ·omega
theorem pyApp_I {n : Nat} {p : Py} (hI : PyI n p) (e : Ev) (he : e.ok) : PyI n (pyApp p e) := by
 by_cases h : pyAppE p e = 0
 case neg => rw [pyApp_no p e h]; exact hI
 obtain ⟨hc, hn⟩ := pyAppE_zero hI h
 obtain ⟨hb, hp⟩ := hI
 have hev := pyApp_ev p e h hb.el
 have hst : ∀ g, pySt (pyApp p e) g = pySt p g := fun g => rfl
 have hJ := pyApp_J p e h
 have hD : (pyApp p e).D = p.D := rfl
 have ht : (pyApp p e).todo = p.todo := rfl
 have hf : (pyApp p e).fl = p.fl := rfl
 have eN : (pyRs p p.J.g).length = p.J.next := by rw [pyRs_len, hb.next]
 have hR : pyRs (pyApp p e) p.J.g = pyRs p p.J.g ++ [evRc p.J.g p.J.next p.J.ch e] := by
  unfold pyRs
  rw [hev, if_pos rfl, hst, evRcs_snoc, hb.ch, hb.next, Nat.zero_add]
  rfl
 have hg' : (pyApp p e).J.g = p.J.g := by rw [hJ]
 have hwl := hb.wl
 have hdl := hb.dl
 refine ⟨⟨hb.n98, ?_, ?_, ?_, ?_, hb.st, ?_, ?_, ?_, ?_, ?_, ?_, ?_, ?_, ?_, ?_, ?_, ?_, ?_, ?_, ?_, hb.dk, hb.ds⟩, ?_⟩
 ·rw [hJ]; exact hb.g1
 ·rw [hJ]; exact hb.g2
 ·rw [hg']; exact hb.sl
 ·rw [hg']; unfold pyApp; simp only [if_pos h, List.length_set]; exact hb.el
 ·intro g x hx
  rw [hev] at hx
  by_cases hg : g = p.J.g
  ·rw [if_pos hg] at hx
   rcases List.mem_append.1 hx with h1 | h1
   ·exact hb.ev _ x h1
   ·rw [List.mem_singleton.1 h1]; exact ⟨he, hc⟩
  ·rw [if_neg hg] at hx; exact hb.ev g x hx
 ·rw [hJ]; exact hb.slot
 ·rw [hJ]; exact hb.room
 ·rw [hg', hev, if_pos rfl, hJ, List.length_append, ← hb.next]; rfl
 ·rw [hJ]; show p.J.next + 1 ≤ n - 98; omega
 ·rw [hJ]; show p.J.will ≤ p.J.next + 1; omega
 ·rw [hJ]; exact hb.dl
 ·rw [hg', hR, hst, rcEnd_snoc, hJ]
 ·rw [hg', hR, hJ]
  show p.J.wait ++ [_] = (List.range (p.J.next + 1 - p.J.will)).map _
  rw [show p.J.next + 1 - p.J.will = (p.J.next - p.J.will) + 1 by omega, List.range_succ, List.map_append, hb.wait]
  congr 1
  ·apply List.map_congr_left
   intro i hi
   have hi' := List.mem_range.1 hi
   show _ = wrLog (pyRs p p.J.g ++ [evRc p.J.g p.J.next p.J.ch e]) (p.J.will + i)
   rw [wrLog_app _ _ _ (by rw [eN]; omega)]
  ·simp only [List.map_cons, List.map_nil]
   rw [show p.J.will + (p.J.next - p.J.will) = p.J.next by omega]
   unfold wrLog
   conv => rhs; rw [← eN]
   rw [getD_end, eN]
 ·rw [hJ]; exact hb.err
 ·rw [hJ]; exact hb.out
 ·rw [hJ]; exact hb.su1
 ·rw [hJ]; exact hb.su2
 ·rw [hJ]; exact hb.su3
 ·rw [hg', hst, hJ]; exact hb.su4
 ·have hh : ∀ d, d ≤ p.J.next → Here p n p.J.g d → Here (pyApp p e) n p.J.g d := fun d hd hh => ⟨by rw [hst, hR]; exact genAt_app hh.gen _ (by rw [eN]; exact hd), hh.tail⟩
  have h1 : ∀ d, 2 ≤ p.J.g → Here p n (p.J.g - 1) d → Here (pyApp p e) n (p.J.g - 1) d := fun d h2 hh => here_of hh (fun _ => rfl) rfl (by rw [hev, if_neg (by omega)])
  have e1 : 2 ≤ p.J.g → pyEv (pyApp p e) (p.J.g - 1) = pyEv p (p.J.g - 1) := fun h2 => by rw [hev, if_neg (by omega)]
  unfold PyPh
  rw [hg', ht, hf, hD, hst]
  rw [show (pyApp p e).J.ph = p.J.ph by rw [hJ], show (pyApp p e).J.jobs = p.J.jobs by rw [hJ], show (pyApp p e).J.will = p.J.will by rw [hJ], show (pyApp p e).J.done = p.J.done by rw [hJ]]
  rcases hp with ⟨a0, a1, a2, a3, a4, a5, a6⟩ | ⟨fz, a0, a1, a2⟩ | ⟨fz, a0, a1, a2, a3, a4⟩ | ⟨fz, a0, a1, a2, a3, a4, a5⟩
  ·exact .inl ⟨a0, a1, a2, a3, a4, a5, hh _ hwl a6⟩
  ·refine .inr (.inl ⟨fz, a0, ?_, hh _ (by omega) a2⟩)
   rw [hR]
   exact und_congr a1 (fun i _ h2 => (wrLog_app _ _ _ (by rw [eN]; omega)).symm)
  ·refine .inr (.inr (.inl ⟨fz, a0, a1, a2, a3, ?_⟩))
   rw [e1 a2]; exact h1 _ a2 a4
  ·refine .inr (.inr (.inr ⟨fz, a0, a1, a2, a3, ?_, a5⟩))
   rw [e1 a2]; exact h1 _ a2 a4
theorem pyB_J {n : Nat} {p p' : Py} (hb : PyB n p) (e : p'.sts = p.sts ∧ p'.evs = p.evs ∧ p'.J.g = p.J.g ∧ p'.J.slot = p.J.slot ∧ p'.J.next = p.J.next ∧ p'.J.ch = p.J.ch ∧ p'.J.err = p.J.err ∧ p'.J.room = p.J.room ∧ p'.J.su = p.J.su)
  (hw : p'.J.will ≤ p'.J.next) (hd : p'.J.done ≤ p'.J.will) (hwt : p'.J.wait = (List.range (p.J.next - p'.J.will)).map (fun i => wrLog (pyRs p p.J.g) (p'.J.will + i))) (ho : p'.J.out = (p'.todo.length : Int)) (h3 : 3 ≤ p'.J.ph → 3 ≤ p.J.ph) (hk : dkOk p'.D = true) (hs : p'.D.s.length = n) : PyB n p' := by
 obtain ⟨e1, e2, e3, e4, e5, e6, e7, e8, e9⟩ := e
 have hst : ∀ g, pySt p' g = pySt p g := fun g => by unfold pySt; rw [e1]
 have hev : ∀ g, pyEv p' g = pyEv p g := fun g => by unfold pyEv; rw [e2]
 have hrs : ∀ g, pyRs p' g = pyRs p g := fun g => by unfold pyRs; rw [hst, hev]
 refine ⟨hb.n98, by rw [e3]; exact hb.g1, by rw [e3]; exact hb.g2, by rw [e3, e1]; exact hb.sl, by rw [e3, e2]; exact hb.el, fun g => by rw [hst]; exact hb.st g, fun g => by rw [hev]; exact hb.ev g, by rw [e3, e4]; exact hb.slot, by rw [e8]; exact hb.room, by rw [e3, e5, hev]; exact hb.next, by rw [e5]; exact hb.nr, hw, hd, by rw [e3, e6, hrs, hst]; exact hb.ch, ?_, by rw [e7]; exact hb.err, ho, by rw [e9]; exact hb.su1, by rw [e9]; exact hb.su2, by rw [e9]; exact hb.su3, fun h => by rw [e9, e3, hst]; exact hb.su4 (h3 h), hk, hs⟩
 rw [e5, e3, hrs]; exact hwt
theorem pyWoke_I {n : Nat} {p : Py} (hI : PyI n p) : PyI n { p with J := jnWoke p.J } := by
 unfold jnWoke
 by_cases h : p.J.ph = 0 ∧ p.J.wait ≠ []
 case neg => rw [if_neg h]; exact hI
 rw [if_pos h]
 obtain ⟨hb, hp⟩ := hI
 have hw := hb.wl
 have hd := hb.dl
 refine ⟨pyB_J hb ⟨rfl, rfl, rfl, rfl, rfl, rfl, rfl, rfl, rfl⟩ (Nat.le_refl _) (Nat.le_trans hd hw) ?_ hb.out (fun h3 => ?_) hb.dk hb.ds, ?_⟩
 ·show [] = _
  rw [show p.J.next - (({ p with J := { p.J with ph := 1, will := p.J.next, jobs := p.J.wait, wait := [] } } : Py).J.will) = 0 from Nat.sub_self _]; rfl
 ·have h3' : (3 : Int) ≤ 1 := h3
  omega
 ·rcases hp with ⟨a0, a1, a2, a3, a4, a5, a6⟩ | ⟨fz, a0, a1, a2⟩ | ⟨fz, a0, a1, a2, a3, a4⟩ | ⟨fz, a0, a1, a2, a3, a4, a5⟩
  ·refine .inr (.inl ⟨false, rfl, ?_, ?_⟩)
   ·show Und (wrLog (pyRs p p.J.g)) p.J.done p.J.next false p.D p.todo p.fl p.J.wait
    rw [a1, a2, a5]
    refine ⟨by simp, ?_, ?_, ?_⟩ <;> simp only [Bool.false_eq_true, if_false, a4, List.nil_append]
    ·intro x hx
     rw [hb.wait] at hx
     obtain ⟨i, hi, rfl⟩ := List.mem_map.1 hx
     have := List.mem_range.1 hi
     exact ⟨p.J.will + i, by omega, by omega, rfl⟩
    ·intro i h1 h2
     rw [hb.wait]
     exact List.mem_map.2 ⟨i - p.J.will, List.mem_range.2 (by omega), by rw [show p.J.will + (i - p.J.will) = i by omega]⟩
    ·rw [hb.wait]; simp
   ·show Here _ n p.J.g p.J.done
    rw [a5]; exact here_of a6 (fun _ => rfl) rfl rfl
  ·exfalso; have := h.1; cases fz <;> simp_all
  ·exfalso; have := h.1; cases fz <;> simp_all
  ·exfalso; have := h.1; cases fz <;> simp_all
theorem pyPh_hands {n : Nat} {p : Py} (hp : PyPh n p) (h : p.J.ph = 1 ∨ p.J.ph = 3 ∨ p.J.ph = 5) :
  ∃ (k : Int) (wr : Nat → Jb) (lo hi : Nat), p.J.ph = k ∧ Und wr lo hi false p.D p.todo p.fl p.J.jobs ∧ ∀ (fz : Bool) (p' : Py), p'.J.g = p.J.g → p'.J.done = p.J.done → p'.J.will = p.J.will → p'.sts = p.sts → p'.evs = p.evs → (∀ a, secOf p'.D a = secOf p.D a) → p'.J.ph = (if fz = true then k + 1 else k) → Und wr lo hi fz p'.D p'.todo p'.fl p'.J.jobs → PyPh n p' := by
 have hX : ∀ {p' : Py}, p'.sts = p.sts → p'.evs = p.evs → ∀ g, pySt p' g = pySt p g ∧ pyEv p' g = pyEv p g ∧ pyRs p' g = pyRs p g := fun {p'} h1 h2 g => by
  have a : pySt p' g = pySt p g := by unfold pySt; rw [h1]
  have b : pyEv p' g = pyEv p g := by unfold pyEv; rw [h2]
  exact ⟨a, b, by unfold pyRs; rw [a, b]⟩
 rcases hp with ⟨a0, a1, a2, a3, a4, a5, a6⟩ | ⟨fz, a0, a1, a2⟩ | ⟨fz, a0, a1, a2, a3, a4⟩ | ⟨fz, a0, a1, a2, a3, a4, a5⟩
 ·exfalso; omega
 ·cases fz with
  | true => exfalso; simp at a0; omega
  | false =>
   refine ⟨1, _, _, _, a0, a1, fun fz p' e1 e2 e3 e4 e5 e6 e7 hu => .inr (.inl ⟨fz, by rw [e7]; cases fz <;> rfl, ?_, ?_⟩)⟩
   ·rw [e1, e2, e3, (hX e4 e5 _).2.2]; exact hu
   ·rw [e1, e2]; exact here_of a2 e6 (hX e4 e5 _).1 (hX e4 e5 _).2.1
 ·cases fz with
  | true => exfalso; simp at a0; omega
  | false =>
   refine ⟨3, _, _, _, a0, a3, fun fz p' e1 e2 e3 e4 e5 e6 e7 hu => .inr (.inr (.inl ⟨fz, by rw [e7]; cases fz <;> rfl, by rw [e3]; exact a1, by rw [e1]; exact a2, ?_, ?_⟩))⟩
   ·rw [e1, (hX e4 e5 _).1]; exact hu
   ·rw [e1, (hX e4 e5 _).2.1]; exact here_of a4 e6 (hX e4 e5 _).1 (hX e4 e5 _).2.1
 ·cases fz with
  | true => exfalso; simp at a0; omega
  | false =>
   refine ⟨5, _, _, _, a0, a3, fun fz p' e1 e2 e3 e4 e5 e6 e7 hu => .inr (.inr (.inr ⟨fz, by rw [e7]; cases fz <;> rfl, by rw [e3]; exact a1, by rw [e1]; exact a2, ?_, ?_, ?_⟩))⟩
   ·rw [e1, (hX e4 e5 _).1]; exact hu
   ·rw [e1, (hX e4 e5 _).2.1]; exact here_of a4 e6 (hX e4 e5 _).1 (hX e4 e5 _).2.1
   ·intro i hi; rw [e1, (hX e4 e5 _).1] at hi; rw [e1, (hX e4 e5 _).1, e6]; exact a5 i hi
theorem pyAskK_I {n : Nat} {p : Py} (hI : PyI n p) : PyI n { p with J := (jnAskK p.J).1, todo := if (jnAskK p.J).2.2.2 = true then p.todo ++ [(jnAskK p.J).2.1] else p.todo, fl := if (jnAskK p.J).2.2.2 = true then p.fl ++ [(jnAskK p.J).2.2.1] else p.fl } := by
 have hJ := pyI_jobs hI
 obtain ⟨hb, hp⟩ := hI
 unfold jnAskK
 cases hh : jnHands p.J with
 | false => simp only [if_true]; exact ⟨hb, hp⟩
 | true =>
  have h1 : p.J.ph = 1 ∨ p.J.ph = 3 ∨ p.J.ph = 5 := of_decide_eq_true hh
  obtain ⟨k, wr, lo, hi, hk, hu, hall⟩ := pyPh_hands hp h1
  simp only [Bool.true_eq_false, if_false]
  cases hj : p.J.jobs with
  | cons x l =>
   rw [hj] at hu
   refine ⟨pyB_J hb ⟨rfl, rfl, rfl, rfl, rfl, rfl, rfl, rfl, rfl⟩ hb.wl hb.dl hb.wait ?_ (fun h3 => h3) hb.dk hb.ds, hall false _ rfl rfl rfl rfl rfl (fun _ => rfl) ?_ ?_⟩
   ·show p.J.out + 1 = ((p.todo ++ [x]).length : Int)
    rw [hb.out, List.length_append]; simp
   ·exact hk
   ·exact und_ask hu
  | nil =>
   rw [hj] at hu
   by_cases ho : 0 < p.J.out
   ·simp only [if_pos ho]; exact ⟨hb, hp⟩
   ·have ht : p.todo = [] := by have := hb.out; exact List.eq_nil_of_length_eq_zero (by omega)
    have hf : p.fl = [] := by have := hJ.2.2.2.1; rw [ht] at this; exact List.eq_nil_of_length_eq_zero this
    rw [ht, hf] at hu
    have hu2 := und_flush hu
    simp only [if_neg ho]
    refine ⟨pyB_J hb ⟨rfl, rfl, rfl, rfl, rfl, rfl, rfl, rfl, rfl⟩ hb.wl hb.dl hb.wait ?_ (fun h3 => ?_) hb.dk hb.ds, hall true _ rfl rfl rfl rfl rfl (fun _ => rfl) ?_ ?_⟩
    ·show (1 : Int) = ((p.todo ++ [(0, [])]).length : Int)
     rw [ht]; rfl
    ·have h3' : 3 ≤ p.J.ph + 1 := h3
     omega
    ·show p.J.ph + 1 = k + 1; rw [hk]
    ·show Und wr lo hi true p.D (p.todo ++ [(0, [])]) (p.fl ++ [true]) []
     rw [ht, hf]; exact hu2
theorem pyAsk_I {n : Nat} {p : Py} (hI : PyI n p) : PyI n (pyAsk p) := by
 have h := pyAskK_I (pyWoke_I hI)
 have e : jnAsk p.J = jnAskK (jnWoke p.J) := by unfold jnAsk; rw [pyI_chk hI, if_neg (by simp)]
 unfold pyAsk
 rw [e]; exact h
theorem pyCameE {n : Nat} {p : Py} (hI : PyI n p) (h : p.todo ≠ []) : jnCameE p.J = 0 := by
 have hJ := pyI_jobs hI
 unfold jnCameE
 rw [pyI_chk hI, if_neg (by simp), if_neg]
 rintro (h1 | h1)
 ·omega
 ·rw [hI.b.out] at h1
  exact h (List.eq_nil_of_length_eq_zero (by omega))
theorem dkLeft_sec (D : Dk) (kept : Nat → Bool) (a : Nat) (h : a < D.s.length) : secOf (dkLeft D kept) a = dkAt D kept a := dkLeft_s D kept a h
theorem und_stay {wr : Nat → Jb} {lo hi : Nat} {fz : Bool} {D : Dk} {todo : List Jb} {fl : List Bool} {jobs : List Jb} (h : Und wr lo hi fz D todo fl jobs) (kept : Nat → Bool) (a : Nat) (hn : ∀ i, lo ≤ i → i < hi → (wr i).1 ≠ (a : Int)) : dkAt D kept a = secOf D a := by
 rcases und_at h kept a with e | ⟨i, h1, h2, h3, _⟩
 ·exact e
 ·exact absurd h3 (hn i h1 h2)
theorem placeOf_apart (g : Nat) (i j : Nat) (hi : i ≤ 12) (hj : j ≤ 12) (h : 1 ≤ g) : placeOf (g - 1) + i ≠ placeOf g + j := by unfold placeOf; split <;> split <;> omega
theorem placeOf_ge (g : Nat) : 2 ≤ placeOf g ∧ placeOf g ≤ 50 := by unfold placeOf; split <;> omega
theorem here_slot {n : Nat} {p : Py} (hb : PyB n p) {fz : Bool} (h2 : 2 ≤ p.J.g) (hu : Und (wrSlot p.J.g (pySt p p.J.g)) 0 (secs (pySt p p.J.g)) fz p.D p.todo p.fl p.J.jobs) (hh : Here p n (p.J.g - 1) (pyEv p (p.J.g - 1)).length) (kept : Nat → Bool) :
  GenAt (dkAt p.D kept) (p.J.g - 1) (pySt p (p.J.g - 1)) (pyRs p (p.J.g - 1)) (pyEv p (p.J.g - 1)).length ∧ ∀ i, (pyEv p (p.J.g - 1)).length ≤ i → 98 + i < n → NoRec (p.J.g - 1) (dkAt p.D kept (98 + i)) := by
 have hs := secs_le (hb.st p.J.g)
 have hs1 := secs_le (hb.st (p.J.g - 1))
 have hpl := placeOf_ge p.J.g
 have hpl1 := placeOf_ge (p.J.g - 1)
 have st : ∀ a, (∀ i, i < secs (pySt p p.J.g) → placeOf p.J.g + i ≠ a) → dkAt p.D kept a = secOf p.D a := fun a ha => und_stay hu kept a (fun i _ h2 e => ha i h2 (by simp only [wrSlot] at e; omega))
 obtain ⟨⟨h3, h4, h5, h6⟩, h7⟩ := hh
 refine ⟨⟨?_, ?_, ?_, ?_⟩, ?_⟩
 ·rw [st _ (fun i hi => by omega)]; exact h3
 ·rw [st _ (fun i hi => by omega)]; exact h4
 ·intro i hi
  rw [st _ (fun j hj => (placeOf_apart p.J.g i j (by omega) (by omega) (by omega)).symm)]; exact h5 i hi
 ·intro i hi
  rw [st _ (fun j hj => by omega)]; exact h6 i hi
 ·intro i h1 h2
  rw [st _ (fun j hj => by omega)]; exact h7 i h1 h2
theorem here_len {n g d : Nat} {p : Py} (hb : PyB n p) (h : Here p n g d) (hd : d ≤ (pyEv p g).length) : d ≤ n - 98 := by
 rcases Nat.lt_or_ge (n - 98) d with hlt | hge
 case inr => exact hge
 exfalso
 have h1 := h.gen.recs (n - 98) hlt
 obtain ⟨Q, hQ⟩ := evRcs_get g (pyEv p g) 0 (jnBase (pySt p g)) (n - 98) (by omega)
 have e : (pyRs p g).getD (n - 98) rcZ = evRc g (0 + (n - 98)) Q ((pyEv p g).getD (n - 98) ⟨0, 0, 0, []⟩) := hQ
 have hm : (pyEv p g).getD (n - 98) ⟨0, 0, 0, []⟩ ∈ pyEv p g := by simp [List.getD, show n - 98 < (pyEv p g).length by omega]
 have h2 := (hb.ev g _ hm).2
 rw [e] at h1
 have h3 : secOf p.D (98 + (n - 98)) = [] := by
  have := hb.n98
  unfold secOf
  simp [List.getD, hb.ds, show 98 + (n - 98) = n by omega]
 rw [h3] at h1
 unfold rcPutL at h1
 rw [if_pos (show (evRc g (0 + (n - 98)) Q ((pyEv p g).getD (n - 98) ⟨0, 0, 0, []⟩)).chk = true from h2)] at h1
 have h4 := congrArg List.length h1
 rw [rcL_len _ (by have := (rcChk_len h2).1; show ((pyEv p g).getD (n - 98) ⟨0, 0, 0, []⟩).b.length ≤ 186; omega) (shLink_len _ _)] at h4
 simp at h4
theorem pyOne_fl {n : Nat} {p : Py} (hI : PyI n p) (k : Nat) (hk : k < p.todo.length) : (p.fl.getD k false = true ∧ p.todo = [(0, [])] ∧ p.fl = [true] ∧ k = 0 ∧ (p.J.ph = 2 ∨ p.J.ph = 4 ∨ p.J.ph = 6)) ∨ (p.fl.getD k false = false ∧ (p.J.ph = 1 ∨ p.J.ph = 3 ∨ p.J.ph = 5)) := by
 obtain ⟨hb, hp⟩ := hI
 have key : ∀ {wr lo hi} (fz : Bool) (c : Int), Und wr lo hi fz p.D p.todo p.fl p.J.jobs → p.J.ph = (if fz = true then c + 1 else c) → (c = 1 ∨ c = 3 ∨ c = 5) → (p.fl.getD k false = true ∧ p.todo = [(0, [])] ∧ p.fl = [true] ∧ k = 0 ∧ (p.J.ph = 2 ∨ p.J.ph = 4 ∨ p.J.ph = 6)) ∨ (p.fl.getD k false = false ∧ (p.J.ph = 1 ∨ p.J.ph = 3 ∨ p.J.ph = 5)) := by
  intro wr lo hi fz c hu h1 hc
  have hf := hu.form
  cases fz with
  | true =>
   simp only [if_true] at hf h1
   obtain ⟨f1, f2, f3⟩ := hf
   have k0 : k = 0 := by rw [f2] at hk; simpa using hk
   left
   exact ⟨by rw [f3, k0]; rfl, f2, f3, k0, by omega⟩
  | false =>
   simp only [Bool.false_eq_true, if_false] at hf h1
   right
   exact ⟨by rw [hf]; simp [List.getD, hk], by omega⟩
 rcases hp with ⟨a0, a1, a2, a3, a4, a5, a6⟩ | ⟨fz, a0, a1, a2⟩ | ⟨fz, a0, a1, a2, a3, a4⟩ | ⟨fz, a0, a1, a2, a3, a4, a5⟩
 ·rw [a1] at hk; simp at hk
 ·exact key fz 1 a1 (by rw [a0]; rfl) (by simp)
 ·exact key fz 3 a3 (by rw [a0]; rfl) (by simp)
 ·exact key fz 5 a3 (by rw [a0]; rfl) (by simp)
theorem pyOne_write {n : Nat} {p : Py} (hI : PyI n p) (k : Nat) (hk : k < p.todo.length) (hf : p.fl.getD k false = false) (hph : p.J.ph = 1 ∨ p.J.ph = 3 ∨ p.J.ph = 5) :
  pyHitE p k = 0 ∧ PyI n (pyOne p k) ∧ (pyOne p k).J = { p.J with out := p.J.out - 1 } := by
 have hE := pyCameE hI (fun e => by rw [e] at hk; simp at hk)
 have hI2 := hI
 obtain ⟨hb, hp⟩ := hI
 obtain ⟨c, wr, lo, hi, hc, hu, hall⟩ := pyPh_hands hp hph
 have hw : WrOk n wr lo hi ∨ True := .inr trivial
 have hok : ∃ a : Nat, (p.todo.getD k (0, [])).1 = (a : Int) ∧ a < n ∧ (p.todo.getD k (0, [])).2.length = 256 ∧ p.D.k.length < 512 := by
  have hst := secs_le (hb.st p.J.g)
  have hn := hb.n98
  have hnr := hb.nr
  have hwl := hb.wl
  have key : ∀ {wr : Nat → Jb} {lo hi : Nat}, Und wr lo hi false p.D p.todo p.fl p.J.jobs → WrOk n wr lo hi → hi - lo ≤ 158 → ∃ a : Nat, (p.todo.getD k (0, [])).1 = (a : Int) ∧ a < n ∧ (p.todo.getD k (0, [])).2.length = 256 ∧ p.D.k.length < 512 := fun hu hw hl => by
   obtain ⟨i, h1, h2, e⟩ := und_todo hu k hk
   obtain ⟨a, ha, han⟩ := hw.at_ i h1 h2
   exact ⟨a, by rw [e]; exact ha, han, by rw [e]; exact hw.len i h1 h2, by have := und_k hu; omega⟩
  rcases hp with ⟨a0, a1, a2, a3, a4, a5, a6⟩ | ⟨fz, a0, a1, a2⟩ | ⟨fz, a0, a1, a2, a3, a4⟩ | ⟨fz, a0, a1, a2, a3, a4, a5⟩
  ·exfalso; omega
  ·cases fz with
   | true => exfalso; simp at a0; omega
   | false => exact key a1 ((wrLog_ok hb).sub (Nat.le_refl _) hwl) (by omega)
  ·cases fz with
   | true => exfalso; simp at a0; omega
   | false => exact key a3 (wrSlot_ok p.J.g hn.1 (hb.st _)) (by omega)
  ·cases fz with
   | true => exfalso; simp at a0; omega
   | false => exact key a3 (wrHead_ok p.J.g hn.1 (hb.st _)) (by omega)
 obtain ⟨a, ha, han, hl, hkl⟩ := hok
 obtain ⟨w1, w2, w3⟩ := dkWrite_in p.D hb.dk a (by rw [hb.ds]; exact han) (p.todo.getD k (0, [])).2 hl hkl
 rw [← ha] at w1 w2 w3
 have hEE : pyHitE p k = 0 := by unfold pyHitE; rw [hf, if_neg (by simp)]; exact w1
 have hDD : (pyOne p k).D = ⟨p.D.s, p.D.k ++ [p.todo.getD k (0, [])]⟩ := by
  show pyHit p k = _
  unfold pyHit; rw [hf, if_neg (by simp)]; exact w2
 have hJJ : (pyOne p k).J = { p.J with out := p.J.out - 1 } := by
  show jnCame p.J (decide (pyHitE p k = 0)) = _
  rw [hEE]
  unfold jnCame
  rw [if_pos hE]
  unfold jnCameK
  rw [if_neg (by simp), if_neg (by show ¬ p.J.ph = 4; omega), if_neg (by show ¬ p.J.ph = 2; omega), if_neg (by show ¬ p.J.ph = 6; omega)]
 have hfl : p.fl.length = p.todo.length := (pyI_jobs hI2).2.2.2.1
 refine ⟨hEE, ⟨pyB_J hb ⟨rfl, rfl, by rw [hJJ], by rw [hJJ], by rw [hJJ], by rw [hJJ], by rw [hJJ], by rw [hJJ], by rw [hJJ]⟩ (by rw [hJJ]; exact hb.wl) (by rw [hJJ]; exact hb.dl) (by rw [hJJ]; exact hb.wait) ?_ (by rw [hJJ]; exact fun h => h) ?_ (by rw [hDD]; exact hb.ds), ?_⟩, hJJ⟩
 ·rw [hJJ]
  show p.J.out - 1 = ((p.todo.eraseIdx k).length : Int)
  rw [List.length_eraseIdx_of_lt hk, hb.out]; omega
 ·rw [hDD, ← w2]; exact w3
 ·refine hall false _ (by rw [hJJ]) (by rw [hJJ]) (by rw [hJJ]) rfl rfl (fun a => by rw [hDD]; rfl) (by rw [hJJ]; exact hc) ?_
  rw [hJJ, hDD]
  exact und_hit hu k hk
theorem pyOne_flush {n : Nat} {p : Py} (hI : PyI n p) (k : Nat) (hk : k < p.todo.length) (hf : p.fl.getD k false = true) :
  pyHitE p k = 0 ∧ PyI n (pyOne p k) ∧ (pyOne p k).J = (if p.J.ph = 4 then { p.J with out := 0, jobs := [wrHead p.J.g (pySt p p.J.g) 0], ph := 5 } else if p.J.ph = 2 then { p.J with out := 0, done := p.J.will, ph := 0 } else { p.J with out := 0, ph := 0 }) ∧ (pyOne p k).todo = [] ∧ (pyOne p k).D.k = [] ∧ (p.J.ph = 2 ∨ p.J.ph = 4 ∨ p.J.ph = 6) := by
 have hE := pyCameE hI (fun e => by rw [e] at hk; simp at hk)
 have hg2 := pyI_jobs hI
 rcases pyOne_fl hI k hk with ⟨-, ht, hfl, k0, hph⟩ | ⟨hc, -⟩
 case inr => rw [hf] at hc; cases hc
 subst k0
 obtain ⟨hb, hp⟩ := hI
 have hEE : pyHitE p 0 = 0 := by unfold pyHitE; rw [hf, if_pos rfl]; unfold dkE; rw [if_pos hb.dk]
 have hDD : (pyOne p 0).D = dkLeft p.D (fun _ => true) := by
  show pyHit p 0 = _
  unfold pyHit; rw [hf, if_pos rfl, dkFlush_eq _ hb.dk]
 have hT : (pyOne p 0).todo = [] := by show p.todo.eraseIdx 0 = []; rw [ht]; rfl
 have hF : (pyOne p 0).fl = [] := by show p.fl.eraseIdx 0 = []; rw [hfl]; rfl
 have ho : p.J.out = 1 := by rw [hb.out, ht]; rfl
 have hs4 : 3 ≤ p.J.ph → (((p.J.su.g % 2 : Nat) : Int), suPutL p.J.su.g p.J.su.s p.J.su.l p.J.su.D) = wrHead p.J.g (pySt p p.J.g) 0 := fun h => by rw [hb.su4 h]; rfl
 have hJJ : (pyOne p 0).J = (if p.J.ph = 4 then { p.J with out := 0, jobs := [wrHead p.J.g (pySt p p.J.g) 0], ph := 5 } else if p.J.ph = 2 then { p.J with out := 0, done := p.J.will, ph := 0 } else { p.J with out := 0, ph := 0 }) := by
  show jnCame p.J (decide (pyHitE p 0 = 0)) = _
  rw [hEE]
  unfold jnCame
  rw [if_pos hE]
  unfold jnCameK
  rw [if_neg (by simp), ho]
  by_cases h4 : p.J.ph = 4
  ·rw [if_pos h4, if_pos h4, ← hs4 (by omega)]; rfl
  ·rw [if_neg h4, if_neg h4]
   by_cases h2 : p.J.ph = 2
   ·rw [if_pos h2, if_pos h2]; rfl
   ·rw [if_neg h2, if_neg h2, if_pos (by show p.J.ph = 6; omega)]; rfl
 have hok := dkLeft_ok p.D (fun _ => true) hb.dk
 have hlen : (dkLeft p.D (fun _ => true)).s.length = n := by rw [dkLeft_len]; exact hb.ds
 have hsec : ∀ a, a < n → secOf (pyOne p 0).D a = dkAt p.D (fun _ => true) a := fun a ha => by rw [hDD, dkLeft_sec _ _ _ (by rw [hb.ds]; exact ha)]
 have hK : (pyOne p 0).D.k = [] := by rw [hDD]; rfl
 have hst : ∀ g, pySt (pyOne p 0) g = pySt p g := fun g => rfl
 have hev : ∀ g, pyEv (pyOne p 0) g = pyEv p g := fun g => rfl
 have hrs : ∀ g, pyRs (pyOne p 0) g = pyRs p g := fun g => rfl
 have hn := hb.n98
 have hnr := hb.nr
 have hwl := hb.wl
 have hdl := hb.dl
 have hss : ∀ g, secs (pySt p g) ≤ 12 := fun g => secs_le (hb.st g)
 have hpl : ∀ g, 2 ≤ placeOf g ∧ placeOf g ≤ 50 := placeOf_ge
 refine ⟨hEE, ?_, hJJ, hT, hK, hph⟩
 rcases hp with ⟨a0, a1, a2, a3, a4, a5, a6⟩ | ⟨fz, a0, a1, a2⟩ | ⟨fz, a0, a1, a2, a3, a4⟩ | ⟨fz, a0, a1, a2, a3, a4, a5⟩
 ·exfalso; omega
 ·cases fz with
  | false => exfalso; simp at a0; omega
  | true =>
   have p2 : p.J.ph = 2 := a0
   rw [if_neg (by omega), if_pos p2] at hJJ
   have st : ∀ a, a < n → (∀ i, p.J.done ≤ i → i < p.J.will → 98 + i ≠ a) → secOf (pyOne p 0).D a = secOf p.D a := fun a ha hx => by
    rw [hsec a ha, und_stay a1 _ a (fun i h1 h2 e => hx i h1 h2 (by simp only [wrLog] at e; omega))]
   obtain ⟨⟨h3, h4, h5, h6⟩, h7⟩ := a2
   refine ⟨pyB_J hb ⟨rfl, rfl, by rw [hJJ], by rw [hJJ], by rw [hJJ], by rw [hJJ], by rw [hJJ], by rw [hJJ], by rw [hJJ]⟩ (by rw [hJJ]; exact hb.wl) (by rw [hJJ]; exact Nat.le_refl _) (by rw [hJJ]; exact hb.wait) (by rw [hJJ, hT]; rfl) (by rw [hJJ]; intro h; have h' : (3 : Int) ≤ 0 := h; omega) (by rw [hDD]; exact hok) (by rw [hDD]; exact hlen), .inl ⟨by rw [hJJ], hT, hF, by rw [hJJ]; exact a1.form.1, hK, by rw [hJJ], ?_⟩⟩
   rw [hJJ]
   show Here (pyOne p 0) n p.J.g p.J.will
   refine ⟨⟨?_, ?_, ?_, ?_⟩, ?_⟩
   ·rw [st _ (by omega) (fun i _ _ => by omega)]; exact h3
   ·rw [st _ (by omega) (fun i _ _ => by omega)]; exact h4
   ·intro i hi
    have hi' : i < secs (pySt p p.J.g) := hi
    have := hss p.J.g
    have := hpl p.J.g
    rw [st _ (by omega) (fun j _ _ => by omega)]; exact h5 i hi
   ·intro i hi
    by_cases hd : i < p.J.done
    ·rw [st _ (by omega) (fun j _ _ => by omega)]; exact h6 i hd
    ·rw [hsec _ (by omega)]
     exact und_all a1 (wrLog_inj _) i (by omega) hi (98 + i) rfl
   ·intro i h1 h2
    rw [st _ h2 (fun j _ _ => by omega)]; exact h7 i (by omega) h2
 ·cases fz with
  | false => exfalso; simp at a0; omega
  | true =>
   have p4 : p.J.ph = 4 := a0
   rw [if_pos p4] at hJJ
   obtain ⟨⟨h3, h4, h5, h6⟩, h7⟩ := here_slot hb a2 a3 a4 (fun _ => true)
   have hls : (pyEv p (p.J.g - 1)).length = (pyRs p (p.J.g - 1)).length := (pyRs_len _ _).symm
   refine ⟨pyB_J hb ⟨rfl, rfl, by rw [hJJ], by rw [hJJ], by rw [hJJ], by rw [hJJ], by rw [hJJ], by rw [hJJ], by rw [hJJ]⟩ (by rw [hJJ]; exact hb.wl) (by rw [hJJ]; exact hb.dl) (by rw [hJJ]; exact hb.wait) (by rw [hJJ, hT]; rfl) (by rw [hJJ]; intro h; omega) (by rw [hDD]; exact hok) (by rw [hDD]; exact hlen), .inr (.inr (.inr ⟨false, by rw [hJJ]; rfl, by rw [hJJ]; exact a1, by rw [hJJ]; exact a2, ?_, ?_, ?_⟩))⟩
   ·rw [hJJ, hT, hF]
    refine ⟨by simp, ?_, ?_, ?_⟩ <;> simp only [Bool.false_eq_true, if_false, hK, List.nil_append]
    ·intro x hx; exact ⟨0, Nat.le_refl _, by omega, by rw [List.mem_singleton.1 hx]; rfl⟩
    ·intro i _ h2; obtain rfl : i = 0 := by omega
     exact List.mem_singleton.2 rfl
    ·simp
   ·rw [hJJ]
    show Here (pyOne p 0) n (p.J.g - 1) (pyEv p (p.J.g - 1)).length
    have hlt := here_len hb a4 (Nat.le_refl _)
    refine ⟨⟨?_, ?_, ?_, ?_⟩, ?_⟩
    ·rw [hsec _ (by omega)]; exact h3
    ·rw [hsec _ (by omega)]; exact h4
    ·intro i hi
     have hi' : i < secs (pySt p (p.J.g - 1)) := hi
     have := hss (p.J.g - 1)
     have := hpl (p.J.g - 1)
     rw [hsec _ (by omega)]; exact h5 i hi
    ·intro i hi
     rw [hsec _ (by omega)]; exact h6 i hi
    ·intro i h1 h2
     rw [hsec _ h2]; exact h7 i h1 h2
   ·rw [hJJ]
    intro i hi
    have hi' : i < secs (pySt p p.J.g) := hi
    have := hss p.J.g
    have := hpl p.J.g
    show secOf (pyOne p 0).D (placeOf p.J.g + i) = jnSec (pySt p p.J.g) i
    rw [hsec _ (by omega)]
    exact und_all a3 (wrSlot_inj _ _) i (by omega) hi' (placeOf p.J.g + i) rfl
 ·cases fz with
  | false => exfalso; simp at a0; omega
  | true =>
   have p6 : p.J.ph = 6 := a0
   rw [if_neg (by omega), if_neg (by omega)] at hJJ
   have hlt := here_len hb a4 (Nat.le_refl _)
   have st : ∀ a, a < n → a ≠ p.J.g % 2 → secOf (pyOne p 0).D a = secOf p.D a := fun a ha hx => by
    rw [hsec a ha, und_stay a3 _ a (fun i h1 h2 e => hx (by simp only [wrHead] at e; omega))]
   obtain ⟨⟨h3, h4, h5, h6⟩, h7⟩ := a4
   refine ⟨pyB_J hb ⟨rfl, rfl, by rw [hJJ], by rw [hJJ], by rw [hJJ], by rw [hJJ], by rw [hJJ], by rw [hJJ], by rw [hJJ]⟩ (by rw [hJJ]; exact hb.wl) (by rw [hJJ]; exact hb.dl) (by rw [hJJ]; exact hb.wait) (by rw [hJJ, hT]; rfl) (by rw [hJJ]; intro h; have h' : (3 : Int) ≤ 0 := h; omega) (by rw [hDD]; exact hok) (by rw [hDD]; exact hlen), .inl ⟨by rw [hJJ], hT, hF, by rw [hJJ]; exact a3.form.1, hK, by rw [hJJ]; show p.J.done = p.J.will; omega, ?_⟩⟩
   rw [hJJ]
   show Here (pyOne p 0) n p.J.g p.J.will
   rw [a1]
   have hg1 := hb.g2
   refine ⟨⟨?_, ?_, ?_, fun i hi => absurd hi (Nat.not_lt_zero i)⟩, ?_⟩
   ·rw [hsec _ (by omega)]
    exact und_all a3 (wrHead_inj _ _) 0 (Nat.le_refl _) (by omega) (p.J.g % 2) rfl
   ·rw [st _ (by omega) (by omega), show (p.J.g + 1) % 2 = (p.J.g - 1) % 2 by omega, h3]
    exact noHead_put (by omega) (by have := hb.st (p.J.g - 1); omega) (by omega)
   ·intro i hi
    have hi' : i < secs (pySt p p.J.g) := hi
    have := hss p.J.g
    have := hpl p.J.g
    rw [st _ (by omega) (by omega)]; exact a5 i hi
   ·intro i h1 h2
    rw [st _ h2 (by omega)]
    by_cases hi : i < (pyEv p (p.J.g - 1)).length
    ·rw [h6 i hi]
     obtain ⟨r1, r2, r3, _⟩ := pyRs_at hb (p.J.g - 1) (by omega) i hi (by omega)
     exact noRec_put r1 r2 r3 (by omega)
    ·exact (h7 i (by omega) h2).up (by omega)
theorem pyHits_I {n : Nat} {p : Py} (hI : PyI n p) (i : Int) : PyI n (pyHits p i) ∧ (pyNone p i = false → jnCameE p.J = 0) := by
 unfold pyHits
 cases hn : pyNone p i with
 | true => simp only [if_true]; exact ⟨hI, by simp⟩
 | false =>
  simp only [Bool.false_eq_true, if_false]
  have h : ¬ (p.todo.length = 0 ∨ i < 0) := of_decide_eq_false hn
  have hk : pyIdx p i < p.todo.length := Nat.mod_lt _ (by omega)
  refine ⟨?_, fun _ => pyCameE hI (fun e => h (.inl (by rw [e]; rfl)))⟩
  rcases pyOne_fl hI _ hk with ⟨hf, -⟩ | ⟨hf, hph⟩
  ·exact (pyOne_flush hI _ hk hf).2.1
  ·exact (pyOne_write hI _ hk hf hph).2.1
theorem pySaveE_zero {n : Nat} {p : Py} (hI : PyI n p) {s : List UInt8} (h : jnSaveE p.J s = 0) : p.J.ph = 0 ∧ p.J.done = p.J.next ∧ p.J.g ≠ 4294967295 := by
 unfold jnSaveE at h
 rw [pyI_going hI, if_neg (by decide)] at h
 by_cases h1 : p.J.ph ≠ 0 ∨ p.J.done ≠ p.J.next
 ·rw [if_pos h1] at h; exact absurd h (by decide)
 ·rw [if_neg h1] at h
  by_cases h2 : 12288 < s.length ∨ p.J.g = 4294967295
  ·rw [if_pos h2] at h; exact absurd h (by decide)
  ·exact ⟨by omega, by omega, by omega⟩
theorem pySave_no (p : Py) (s : List UInt8) (h : ¬ jnSaveE p.J s = 0) : pySave p s = p := by
 unfold pySave jnSave; rw [if_neg h, if_neg h, if_neg h]
theorem pySave_yes (p : Py) (s : List UInt8) (h : jnSaveE p.J s = 0) : pySave p s = { p with J := jnSaved p.J s, sts := p.sts ++ [s], evs := p.evs ++ [[]] } := by
 unfold pySave jnSave; rw [if_pos h, if_pos h, if_pos h]
theorem pySave_I {n : Nat} {p : Py} (hI : PyI n p) (s : List UInt8) (hs : s.length ≤ 3000) : PyI n (pySave p s) := by
 by_cases h : jnSaveE p.J s = 0
 case neg => rw [pySave_no p s h]; exact hI
 obtain ⟨h0, hdn, hg⟩ := pySaveE_zero hI h
 rw [pySave_yes p s h]
 obtain ⟨hb, hp⟩ := hI
 rcases hp with ⟨a0, a1, a2, a3, a4, a5, a6⟩ | ⟨fz, a0, a1, a2⟩ | ⟨fz, a0, a1, a2, a3, a4⟩ | ⟨fz, a0, a1, a2, a3, a4, a5⟩
 case inr.inl => exfalso; cases fz <;> simp_all
 case inr.inr.inl => exfalso; cases fz <;> simp_all
 case inr.inr.inr => exfalso; cases fz <;> simp_all
 obtain ⟨q, hq⟩ : ∃ q : Py, q = { p with J := jnSaved p.J s, sts := p.sts ++ [s], evs := p.evs ++ [[]] } := ⟨_, rfl⟩
 rw [← hq]
 have hst : ∀ g, pySt q g = if g = p.J.g + 1 then s else pySt p g := fun g => by
  unfold pySt; rw [hq]
  by_cases e : g = p.J.g + 1
  ·rw [if_pos e, e]; simp only [List.getD]; rw [List.getElem?_append_right (by rw [hb.sl]; omega), hb.sl]; simp
  ·rw [if_neg e]
   simp only [List.getD]
   rcases Nat.lt_or_ge g (p.J.g + 1) with hl | hl
   ·rw [List.getElem?_append_left (by rw [hb.sl]; exact hl)]
   ·rw [List.getElem?_append_right (by rw [hb.sl]; exact hl), hb.sl, List.getElem?_eq_none (l := p.sts) (by rw [hb.sl]; exact hl), List.getElem?_eq_none (by simp; omega)]
 have hev : ∀ g, pyEv q g = if g = p.J.g + 1 then [] else pyEv p g := fun g => by
  unfold pyEv; rw [hq]
  by_cases e : g = p.J.g + 1
  ·rw [if_pos e, e]; simp only [List.getD]; rw [List.getElem?_append_right (by rw [hb.el]; omega), hb.el]; simp
  ·rw [if_neg e]
   simp only [List.getD]
   rcases Nat.lt_or_ge g (p.J.g + 1) with hl | hl
   ·rw [List.getElem?_append_left (by rw [hb.el]; exact hl)]
   ·rw [List.getElem?_append_right (by rw [hb.el]; exact hl), hb.el, List.getElem?_eq_none (l := p.evs) (by rw [hb.el]; exact hl), List.getElem?_eq_none (by simp; omega)]
 have hJ : q.J = jnSaved p.J s := by rw [hq]
 have hgq : q.J.g = p.J.g + 1 := by rw [hJ]; rfl
 have hD : q.D = p.D := by rw [hq]
 have hT : q.todo = [] := by rw [hq]; exact a1
 have hF : q.fl = [] := by rw [hq]; exact a2
 have hsq : pySt q q.J.g = s := by rw [hst, hgq, if_pos rfl]
 have heq : pyEv q q.J.g = [] := by rw [hev, hgq, if_pos rfl]
 have hslot : 1 - p.J.slot = slotOf (p.J.g + 1) := by rw [hb.slot]; exact slotOf_next _
 have hg2 := hb.g2
 refine ⟨⟨hb.n98, by omega, by omega, by rw [hgq, hq, List.length_append, hb.sl]; rfl, by rw [hgq, hq, List.length_append, hb.el]; rfl, ?_, ?_, ?_, ?_, ?_, ?_, ?_, ?_, ?_, ?_, ?_, ?_, ?_, ?_, ?_, ?_, by rw [hD]; exact hb.dk, by rw [hD]; exact hb.ds⟩, ?_⟩
 ·intro g; rw [hst]; split
  ·exact hs
  ·exact hb.st g
 ·intro g x hx; rw [hev] at hx; split at hx
  ·cases hx
  ·exact hb.ev g x hx
 ·rw [hgq, hJ]; exact hslot
 ·rw [hJ]; exact hb.room
 ·rw [heq, hJ]; rfl
 ·rw [hJ]; show 0 ≤ n - 98; omega
 ·rw [hJ]; exact Nat.le_refl _
 ·rw [hJ]; exact Nat.le_refl _
 ·unfold pyRs; rw [heq, hsq, hJ]; rfl
 ·rw [hJ]; rfl
 ·rw [hJ]; rfl
 ·rw [hT, hJ]; show p.J.out = _; rw [hb.out, a1]
 ·rw [hJ]
  show suCheck (1 - p.J.slot) (s.length : Int) = true
  rw [hslot]; exact headOk _ _ (by omega)
 ·rw [hJ]; show p.J.g + 1 < 4294967296; omega
 ·rw [hJ]; exact jnBase_len s
 ·intro _; rw [hsq, hgq, hJ]; show Su.mk (p.J.g + 1) (1 - p.J.slot) (s.length : Int) (jnBase s) = _; rw [hslot]; rfl
 ·have hg1 := hb.g1
  refine .inr (.inr (.inl ⟨false, by rw [hJ]; rfl, by rw [hJ]; rfl, by omega, ?_, ?_⟩))
  ·rw [hsq, hgq, hD, hT, hF, show q.J.jobs = jnSplit s (1 - p.J.slot) by rw [hJ]; rfl]
   have ej : jnSplit s (1 - p.J.slot) = (List.range (secs s)).map (wrSlot (p.J.g + 1) s) := by
    unfold jnSplit jnSplitK
    rw [hslot, slotOf_place]
    apply List.map_congr_left
    intro i _
    unfold wrSlot
    rw [show ((placeOf (p.J.g + 1) : Nat) : Int) + (i : Int) = ((placeOf (p.J.g + 1) + i : Nat) : Int) by omega]
   rw [ej]
   refine ⟨by simp, ?_, ?_, ?_⟩ <;> simp only [Bool.false_eq_true, if_false, a4, List.nil_append]
   ·intro x hx
    obtain ⟨i, hi, rfl⟩ := List.mem_map.1 hx
    exact ⟨i, Nat.zero_le _, List.mem_range.1 hi, rfl⟩
   ·intro i _ h2
    exact List.mem_map.2 ⟨i, List.mem_range.2 h2, rfl⟩
   ·simp
  ·rw [hgq, show p.J.g + 1 - 1 = p.J.g by omega]
   rw [show (pyEv q p.J.g).length = p.J.will by rw [hev, if_neg (by omega), ← hb.next, ← hdn, a5]]
   exact here_of a6 (fun a => by rw [hD]) (by rw [hst, if_neg (by omega)]) (by rw [hev, if_neg (by omega)])
def Ac.ok (a : Ac) : Prop := a.e.ok ∧ a.s.length ≤ 3000
theorem pyDo_I {n : Nat} {p : Py} (hI : PyI n p) (a : Ac) (ha : a.ok) : PyI n (pyDo p a) ∧ pyR p a = true := by
 unfold pyDo pyR
 by_cases h0 : a.k = 0
 ·rw [if_pos h0, if_neg (by omega)]; exact ⟨pyApp_I hI _ ha.1, rfl⟩
 ·rw [if_neg h0]
  by_cases h1 : a.k = 1
  ·rw [if_pos h1, if_neg (by omega)]; exact ⟨pyAsk_I hI, rfl⟩
  ·rw [if_neg h1]
   by_cases h2 : a.k = 2
   ·rw [if_pos h2]
    obtain ⟨i1, i2⟩ := pyHits_I hI a.n
    refine ⟨i1, ?_⟩
    by_cases hn : pyNone p a.n = false
    ·rw [if_pos ⟨h2, hn⟩]; exact decide_eq_true (i2 hn)
    ·rw [if_neg (fun h => hn h.2)]
   ·rw [if_neg h2]
    rw [if_neg (fun h : a.k = 2 ∧ _ => h2 h.1)]
    by_cases h3 : a.k = 3
    ·rw [if_pos h3]; exact ⟨pySave_I hI _ ha.2, rfl⟩
    ·rw [if_neg h3]; exact ⟨hI, rfl⟩
theorem pyBegin_I (n : Nat) (hn : 98 ≤ n ∧ n ≤ 256) : PyI n (pyBegin n) := by
 obtain ⟨f1, f2, f3, f4, f5⟩ := jnFmt_ok pyFirst n hn (by decide)
 have hbe : jnBeginE 0 ((n - 98 : Nat) : Int) = 0 := by unfold jnBeginE; rw [if_pos ⟨.inl rfl, by omega, by omega⟩]
 have hJ : (pyBegin n).J = { jnZ with g := 1, slot := 0, ch := jnBase pyFirst, room := ((n - 98 : Nat) : Int) } := by
  show jnBegin 1 0 (jnBase pyFirst) ((n - 98 : Nat) : Int) = _
  unfold jnBegin; rw [if_pos hbe]
 have hst : ∀ g, (pySt (pyBegin n) g).length ≤ 3000 := fun g => by
  unfold pySt pyBegin
  match g with
  | 0 => show 0 ≤ 3000; decide
  | 1 => show 5 ≤ 3000; decide
  | g + 2 => simp [List.getD]
 have hev : ∀ g, pyEv (pyBegin n) g = [] := fun g => by
  unfold pyEv pyBegin
  match g with
  | 0 => rfl
  | 1 => rfl
  | g + 2 => simp [List.getD]
 have hsec : ∀ i, i < n → secOf (pyBegin n).D i = if i = 1 then suPutL 1 0 5 (jnBase pyFirst) else if 2 ≤ i ∧ i < 3 then jnSec pyFirst (i - 2) else List.replicate 256 0 := fun i hi => by
  have h := f5 i hi
  rw [dkRead_eq _ f2 i (by rw [f3]; exact hi)] at h
  have e : dkAt (jnFmt pyFirst (n : Int)) (fun _ => true) i = secOf (jnFmt pyFirst (n : Int)) i := by
   unfold dkAt secOf; rw [f4]; rfl
  rw [e] at h
  exact h
 have es : pySt (pyBegin n) 1 = pyFirst := rfl
 refine ⟨⟨hn, by rw [hJ]; exact Nat.le_refl 1, by rw [hJ]; show 1 < 4294967296; decide, by rw [hJ]; rfl, by rw [hJ]; rfl, hst, fun g x hx => by rw [hev] at hx; (cases hx), by rw [hJ]; show (0 : Int) = slotOf 1; decide, by rw [hJ], by rw [hev, hJ]; rfl, by rw [hJ]; show 0 ≤ n - 98; omega, by rw [hJ]; exact Nat.le_refl _, by rw [hJ]; exact Nat.le_refl _, by unfold pyRs; rw [hev, hJ]; rfl, by rw [hJ]; rfl, by rw [hJ]; rfl, by rw [hJ]; rfl, by rw [hJ]; rfl, by rw [hJ]; show 0 < 4294967296; decide, by rw [hJ]; rfl, fun h => by rw [hJ] at h; have h' : (3 : Int) ≤ 0 := h; omega, f2, f3⟩, .inl ⟨by rw [hJ]; rfl, rfl, rfl, by rw [hJ]; rfl, f4, by rw [hJ]; rfl, ?_⟩⟩
 rw [hJ]
 show Here (pyBegin n) n 1 0
 refine ⟨⟨?_, ?_, ?_, fun i hi => absurd hi (Nat.not_lt_zero i)⟩, ?_⟩
 ·rw [hsec _ (by omega), if_pos rfl]; rfl
 ·rw [hsec _ (by omega), if_neg (by decide), if_neg (by decide)]; exact noHead_zeros _ _
 ·intro i hi
  rw [es] at hi ⊢
  have hi' : i < 1 := hi
  obtain rfl : i = 0 := by omega
  rw [hsec _ (by show 2 + 0 < n; omega), if_neg (by decide), if_pos (by decide)]
  rfl
 ·intro i _ h2
  rw [hsec _ h2, if_neg (by omega), if_neg (by omega)]
  exact noRec_zeros _
end Go.Proofs.YtpahicfnhhhifaaGreat
namespace Go.Proofs.YtpahicfnhhhifaaGreat
set_option maxRecDepth 20000
open Go.RowKit
structure ElemK (P : Program) (t e : TypeId) (z : Value) (K bytes : Nat) : Prop where
 slice : P.underlying t = some (.slice e)
 info : ∃ i : TypeInfo, P.info? e = some i ∧ i.zero = some z ∧ i.size = K ∧ i.bytes = bytes
 zs : z.cells.size = K
 pos : 0 < K
theorem ElemK.of {P : Program} {t e : TypeId} {z : Value} {K bytes : Nat} (h1 : P.underlying t = some (.slice e)) (h2 : (P.info? e).map (fun i => (i.zero, i.size, i.bytes)) = some (some z, K, bytes)) (h3 : z.cells.size = K) (h4 : 0 < K) : ElemK P t e z K bytes := by
 refine ⟨h1, ?_, h3, h4⟩
 obtain ⟨i, hi, he⟩ := Option.map_eq_some_iff.1 h2
 injection he with e1 e2
 injection e2 with e2 e3
 exact ⟨i, hi, e1, e2, e3⟩
end Go.Proofs.YtpahicfnhhhifaaGreat
