/-
  The walk of the document's Parse.
-/
import Derived.Test.YthaampcfkmfjcaaNumM
namespace Go.Proofs.Ythaampcfkmfjcaa
open Go.RowKit
set_option linter.unusedVariables false
set_option linter.unusedSimpArgs false

/-- The document's number of a text, modulo 2^64: a minus sign at the front is passed over. -/
def rval (xs : List UInt8) : Nat := xs.foldl (fun a u => (10 * a + (u.toNat - 48)) % 18446744073709551616) 0
theorem rval_snoc (xs : List UInt8) (u : UInt8) : rval (xs ++ [u]) = (10 * rval xs + (u.toNat - 48)) % 18446744073709551616 := by simp [rval]
theorem rval_dval (xs : List UInt8) : rval xs = dval xs % 18446744073709551616 := by
  suffices ∀ n (xs : List UInt8), xs.length = n → rval xs = dval xs % 18446744073709551616 from this _ xs rfl
  intro n
  induction n with
  | zero => intro xs hl; rw [List.eq_nil_of_length_eq_zero hl]; rfl
  | succ n ih =>
    intro xs hl
    rcases List.eq_nil_or_concat xs with rfl | ⟨ys, u, rfl⟩
    · simp at hl
    · rw [List.concat_eq_append] at hl ⊢
      rw [rval_snoc, dval_snoc, ih ys (by simpa using hl)]
      omega
theorem byte_of_int (c v : UInt8) (h : (c.toNat : Int) = (v.toNat : Int)) : c = v := UInt8.toNat_inj.1 (by omega)
/-- What stands behind a minus sign, once (d: is there one?). -/
theorem snoc_drop (xs : List UInt8) (d k : Nat) (h : k < xs.length) (hd : d ≤ k) : (xs.take (k + 1)).drop d = (xs.take k).drop d ++ [xs[k]] := by
  rw [List.take_succ_eq_append_getElem h, List.drop_append_of_le_length (by rw [List.length_take]; omega)]
def refPN (xs : List UInt8) (d : Nat) : Int := IntKind.i64.wrap (if d = 1 then -((rval (xs.drop d) : Nat) : Int) else ((rval (xs.drop d) : Nat) : Int))
def refPOk (xs : List UInt8) (d : Nat) : Bool := (xs.drop d).all isDig && decide (decI (refPN xs d) = xs)
def refPV (xs : List UInt8) (d : Nat) : Int := if refPOk xs d = true then refPN xs d else 0
def RpI (xs : List UInt8) (d : Nat) (v4 v5 : Value) : Prop :=
  ∃ k : Nat, k ≤ xs.length ∧ ((xs.take k).drop d).all isDig = true ∧ v4 = .int .u64 (rval ((xs.take k).drop d) : Nat) ∧ v5 = .int .i64 (k : Nat)
theorem rval_lt (xs : List UInt8) : rval xs < 18446744073709551616 := by rw [rval_dval]; omega
theorem refPOk_bad (xs : List UInt8) (d k : Nat) (h : k < xs.length) (hd : d ≤ k) (hb : isDig xs[k] = false) : refPOk xs d = false := by
  unfold refPOk
  have : (xs.drop d).all isDig = false := by
    rw [Bool.eq_false_iff]
    intro ha
    rw [List.all_eq_true] at ha
    have h2 : (xs.drop d)[k - d]'(by rw [List.length_drop]; omega) = xs[k] := by rw [List.getElem_drop]; congr 1; omega
    have := ha _ (h2 ▸ List.getElem_mem _)
    rw [hb] at this
    cases this
  rw [this]; rfl

set_option maxHeartbeats 400000 in
theorem refParse_d (c : UInt8) (ys : List UInt8) (d : Nat) (w : World) (hd : (d = 0 ∧ c ≠ 45) ∨ (d = 1 ∧ c = 45)) (hb : (c :: ys).length ≤ 20) :
    Calls Try.prog 50 #[.string (strOf (c :: ys))] w (RetU w (.int .i64 (refPV (c :: ys) d)) (.bool (refPOk (c :: ys) d))) := by
  obtain ⟨xs, hxs⟩ : ∃ xs, xs = c :: ys := ⟨_, rfl⟩
  have hpos : 0 < xs.length := by rw [hxs]; simp
  have hs0 : 0 < (strOf xs).size := hpos
  have h0c : (strOf xs)[0]'hs0 = c := by subst hxs; rfl
  have hds : ∀ k, k < xs.length → ¬ d ≤ k → k = 0 ∧ d = 1 := by omega
  rw [← hxs] at hb ⊢
  have s0 : ((strOf xs).size : Nat) = xs.length := rfl
  have hne : (((xs.length : Nat) : Int) == 0) = false := by rw [beq_eq_false_iff_ne]; omega
  have hgt : decide ((20 : Int) < (xs.length : Int)) = false := decide_eq_false (by omega)
  have H0 := Lib.hid h0c
  have hdc : (d = 1 ∧ ((((strOf xs)[0]'hs0).toNat : Int) == 45) = true) ∨ (d = 0 ∧ ((((strOf xs)[0]'hs0).toNat : Int) == 45) = false) := by
    rw [h0c]
    rcases hd with ⟨h, hc⟩ | ⟨h, hc⟩
    · refine .inr ⟨h, ?_⟩
      rw [beq_eq_false_iff_ne]; intro e; exact hc (byte_of_int c 45 e)
    · refine .inl ⟨h, ?_⟩
      subst hc; rfl
  have hd1 : d ≤ 1 := by omega
  have HDS := Lib.hid hds
  clear h0c hxs hd hds
  have HDC := Lib.hid hdc
  clear hdc
  go_enter Try.func50, Try.ntmps50
  go_wp2
  go_loop [4, 5] (RpI xs d) (fun _ i => xs.length - (intOf i).toNat)
  case atStart => exact ⟨0, Nat.zero_le _, by simp, by simp [rval], rfl⟩
  case round =>
    obtain ⟨k, hk, hdig, rfl, rfl⟩ := hrel
    have HG := Lib.hid hdig
    clear hdig
    by_cases hlt : k < xs.length
    · have k1 : (k : Int) < (xs.length : Int) := by omega
      have k0 : (0 : Int) ≤ (k : Int) := by omega
      have hV := rval_lt ((xs.take k).drop d)
      have hc8 : ((strOf xs)[k]'hlt).toNat < 256 := UInt8.toNat_lt _
      by_cases hdk : d ≤ k
      · have hsn := snoc_drop xs d k hlt hdk
        have hbad := refPOk_bad xs d k hlt hdk
        have hx := strOf_get xs k hlt hlt
        rw [← hx] at hsn hbad
        have HS := Lib.hid hsn
        have HB := Lib.hid hbad
        clear hsn hbad hx
        have hz : ((k : Int) == 0) = false ∨ (k = 0 ∧ d = 0 ∧ ((((strOf xs)[k]'hlt).toNat : Int) == 45) = false) := by
          by_cases e : k = 0
          · right
            refine ⟨e, by omega, ?_⟩
            rcases HDC.out with ⟨h, _⟩ | ⟨_, h⟩
            · omega
            · subst e; exact h
          · left; rw [beq_eq_false_iff_ne]; omega
        cases hdg : isDig ((strOf xs)[k]'hlt) with
        | false =>
          have hr := HB.out hdg
          have HR := Lib.hid hr
          have HR2 := Lib.hid (show refPV xs d = 0 by unfold refPV; rw [if_neg (by rw [hr]; decide)])
          have ht : decide ((((strOf xs)[k]'hlt).toNat : Int) < 48) = true ∨ (decide ((((strOf xs)[k]'hlt).toNat : Int) < 48) = false ∧ decide ((57 : Int) < (((strOf xs)[k]'hlt).toNat : Int)) = true) := by
            simp only [isDig, Bool.and_eq_false_iff, decide_eq_false_iff_not] at hdg
            by_cases h48 : (((strOf xs)[k]'hlt).toNat : Int) < 48
            · exact .inl (decide_eq_true h48)
            · exact .inr ⟨decide_eq_false h48, decide_eq_true (by omega)⟩
          clear hdg hr hV
          rcases hz with h1 | ⟨rfl, rfl, h2⟩ <;> rcases ht with h3 | ⟨h3, h4⟩
          all_goals
            first | have h3' := of_decide_eq_true h3 | (have h3' := of_decide_eq_false h3; have h4' := of_decide_eq_true h4)
            go_wp2
            go_ret2
            exact ⟨by rw [HR.out, HR2.out]; rfl, Below.refl _ _⟩
        | true =>
          have hall : ((xs.take (k + 1)).drop d).all isDig = true := by rw [HS.out, List.all_append, HG.out]; simp [hdg]
          simp only [isDig, Bool.and_eq_true, decide_eq_true_eq] at hdg
          have hR : rval ((xs.take (k + 1)).drop d) = (10 * rval ((xs.take k).drop d) + (((strOf xs)[k]'hlt).toNat - 48)) % 18446744073709551616 := by rw [HS.out, rval_snoc]
          have HA := Lib.hid hall
          have HR := Lib.hid hR
          have h3 : decide ((((strOf xs)[k]'hlt).toNat : Int) < 48) = false := decide_eq_false (by omega)
          have h4 : decide ((57 : Int) < (((strOf xs)[k]'hlt).toNat : Int)) = false := decide_eq_false (by omega)
          have h5 : (48 : Int) ≤ (((strOf xs)[k]'hlt).toNat : Int) := by omega
          clear hall hR
          have h4' := of_decide_eq_false h4
          rcases hz with h1 | ⟨rfl, rfl, h2⟩
          · go_wp2
            go_round
            case rel => exact ⟨k + 1, by omega, HA.out, by rw [HR.out]; congr 1; simp only [IntKind.wrap_u64]; omega, by go_num⟩
            case measure => simp [intOf] <;> omega
          · go_wp2
            go_round
            case rel => exact ⟨0 + 1, by omega, HA.out, by rw [HR.out]; congr 1; simp only [IntKind.wrap_u64]; simp [rval]; omega, by go_num⟩
            case measure => simp [intOf] <;> omega
      · obtain ⟨rfl, rfl⟩ := HDS.out k hlt hdk
        rcases HDC.out with ⟨_, h⟩ | ⟨h, _⟩
        · have h1 : ((((0 : Nat) : Nat) : Int) == 0) = true := rfl
          have h2 : ((((strOf xs)[0]'hlt).toNat : Int) == 45) = true := h
          go_wp2
          go_round
          case rel => exact ⟨1, by omega, by simp, by simp [rval], by go_num⟩
          case measure => simp [intOf] <;> omega
        · omega
    · obtain rfl : k = xs.length := by omega
      have e : xs.take xs.length = xs := List.take_length
      have hall : (xs.drop d).all isDig = true := by have := HG.out; rwa [e] at this
      rw [e]
      have hV := rval_lt (xs.drop d)
      obtain ⟨N, hN⟩ : ∃ N, N = refPN xs d := ⟨_, rfl⟩
      have hrange : -9223372036854775808 ≤ N ∧ N ≤ 9223372036854775807 := by rw [hN]; exact i64_range _
      have hq := strOf_eq (decI N) xs
      have hok : refPOk xs d = decide (decI N = xs) := by unfold refPOk; rw [hall, hN]; rfl
      have hpv : refPV xs d = if decide (decI N = xs) = true then N else 0 := by unfold refPV; rw [hok, hN]
      have HPV := Lib.hid hpv
      have HOK := Lib.hid hok
      have HN := Lib.hid hN
      clear e hN hok hall hpv
      rcases HDC.out with ⟨hd1, h1⟩ | ⟨hd0, h1⟩
      · have hw : IntKind.i64.wrap (IntKind.u64.wrap (-((rval (xs.drop d) : Nat) : Int))) = N := by rw [HN.out, wrap_64]; unfold refPN; rw [if_pos hd1]
        have hw2 : wrap64 (IntKind.u64.wrap (-((rval (xs.drop d) : Nat) : Int))) = N := by rw [← hw, IntKind.wrap_i64]; unfold wrap64; omega
        have HW := Lib.hid hw
        have HW2 := Lib.hid hw2
        clear hd1 hw hw2
        cases hdd : decide (decI N = xs) with
        | true =>
          rw [hdd] at hq
          have HD := Lib.hid hdd
          clear hdd
          go_wp2_with fail
          first | rw [HW.out] | rw [HW2.out] | skip
          refine (refDec_any N _ hrange).mono ?_
          rintro e w1 ⟨rfl, hb1⟩
          go_wp2
          go_ret2
          exact ⟨by rw [HPV.out, HOK.out, HD.out]; rfl, hb1⟩
        | false =>
          rw [hdd] at hq
          have HD := Lib.hid hdd
          clear hdd
          go_wp2_with fail
          first | rw [HW.out] | rw [HW2.out] | skip
          refine (refDec_any N _ hrange).mono ?_
          rintro e w1 ⟨rfl, hb1⟩
          go_wp2
          go_ret2
          exact ⟨by rw [HPV.out, HOK.out, HD.out]; rfl, hb1⟩
      · have hw : IntKind.i64.wrap ((rval (xs.drop d) : Nat) : Int) = N := by rw [HN.out]; unfold refPN; rw [if_neg (by omega)]
        have hw2 : wrap64 ((rval (xs.drop d) : Nat) : Int) = N := by rw [← hw, IntKind.wrap_i64]; unfold wrap64; omega
        have HW := Lib.hid hw
        have HW2 := Lib.hid hw2
        clear hd0 hw hw2
        cases hdd : decide (decI N = xs) with
        | true =>
          rw [hdd] at hq
          have HD := Lib.hid hdd
          clear hdd
          go_wp2_with fail
          first | rw [HW.out] | rw [HW2.out] | skip
          refine (refDec_any N _ hrange).mono ?_
          rintro e w1 ⟨rfl, hb1⟩
          go_wp2
          go_ret2
          exact ⟨by rw [HPV.out, HOK.out, HD.out]; rfl, hb1⟩
        | false =>
          rw [hdd] at hq
          have HD := Lib.hid hdd
          clear hdd
          go_wp2_with fail
          first | rw [HW.out] | rw [HW2.out] | skip
          refine (refDec_any N _ hrange).mono ?_
          rintro e w1 ⟨rfl, hb1⟩
          go_wp2
          go_ret2
          exact ⟨by rw [HPV.out, HOK.out, HD.out]; rfl, hb1⟩
theorem refPN_eq (xs : List UInt8) (d : Nat) (c : UInt8) (ys : List UInt8) (hx : xs = c :: ys) (hd : (d = 0 ∧ c ≠ 45) ∨ (d = 1 ∧ c = 45)) (hm : magB (xs.drop d) = true) :
    parseRest xs = xs.drop d ∧ refPN xs d = IntKind.i64.wrap (parseU xs) := by
  subst hx
  have hv : rval ((c :: ys).drop d) = magV ((c :: ys).drop d) % 18446744073709551616 := by rw [rval_dval]; unfold magV; rw [if_pos hm]
  unfold parseRest parseU refPN
  rcases hd with ⟨rfl, hc⟩ | ⟨rfl, rfl⟩
  · rw [List.drop_zero] at hv
    simp only [List.head?_cons, Option.some.injEq, hc, if_false, if_neg (show ¬ (0 : Nat) = 1 by decide), List.drop_zero, hv, true_and]
    rw [IntKind.wrap_i64, IntKind.wrap_i64]; omega
  · rw [List.drop_succ_cons, List.drop_zero] at hv
    simp only [List.head?_cons, Option.some.injEq, if_true, List.drop_succ_cons, List.drop_zero, List.tail_cons, hv, true_and]
    rw [IntKind.wrap_i64, IntKind.wrap_i64]; omega
theorem refP_same (c : UInt8) (ys : List UInt8) (d : Nat) (hd : (d = 0 ∧ c ≠ 45) ∨ (d = 1 ∧ c = 45)) :
    refPOk (c :: ys) d = parseOk (c :: ys) ∧ refPV (c :: ys) d = parseN (c :: ys) := by
  cases h : refPOk (c :: ys) d with
  | true =>
    have hv : refPV (c :: ys) d = refPN (c :: ys) d := by unfold refPV; rw [if_pos h]
    unfold refPOk at h
    rw [Bool.and_eq_true, decide_eq_true_eq] at h
    have := parse_dec (refPN (c :: ys) d) (i64_range _)
    rw [h.2] at this
    rw [hv]
    exact ⟨this.1.symm, this.2.symm⟩
  | false =>
    have hp : parseOk (c :: ys) = false := by
      rw [Bool.eq_false_iff]
      intro hp
      have hR : parseRest (c :: ys) = (c :: ys).drop d := by
        unfold parseRest
        rcases hd with ⟨rfl, hc⟩ | ⟨rfl, rfl⟩
        · rw [if_neg (by simp [hc])]; rfl
        · rw [if_pos (by simp)]; rfl
      unfold parseOk at hp
      rw [Bool.and_eq_true, decide_eq_true_eq, hR] at hp
      obtain ⟨_, h2⟩ := refPN_eq _ d c ys rfl hd hp.1
      have hall : ((c :: ys).drop d).all isDig = true := by
        have := hp.1
        unfold magB at this
        simp only [Bool.and_eq_true] at this
        exact this.2.2
      unfold refPOk at h
      rw [hall, h2, hp.2] at h
      simp at h
    refine ⟨hp.symm, ?_⟩
    unfold refPV parseN
    rw [if_neg (by rw [h]; decide), if_neg (by rw [hp]; decide)]

theorem parseOk_far (xs : List UInt8) (h : 20 < xs.length) : parseOk xs = false := by
  unfold parseOk magB
  have : ¬ (parseRest xs).length < 20 := by
    unfold parseRest
    split
    · rw [List.length_tail]; omega
    · omega
  rw [decide_eq_false this]; simp

theorem refParse_any (xs : List UInt8) (w : World) (hb : xs.length ≤ 9223372036854775807) :
    Calls Try.prog 50 #[.string (strOf xs)] w (RetU w (.int .i64 (parseN xs)) (.bool (parseOk xs))) := by
  by_cases h20 : 20 < xs.length
  · have hok := parseOk_far xs h20
    have hn : parseN xs = 0 := by unfold parseN; rw [if_neg (by rw [hok]; decide)]
    rw [hok, hn]
    have s0 : ((strOf xs).size : Nat) = xs.length := rfl
    have hne : (((xs.length : Nat) : Int) == 0) = false := by rw [beq_eq_false_iff_ne]; omega
    have hgt : decide ((20 : Int) < (xs.length : Int)) = true := decide_eq_true (by omega)
    clear hok hn
    go_enter Try.func50, Try.ntmps50
    go_wp2
    go_ret2
    exact ⟨rfl, Below.refl _ _⟩
  · cases xs with
    | nil =>
      have hok : parseOk [] = false := rfl
      have hn : parseN [] = 0 := rfl
      rw [hok, hn]
      have s0 : ((strOf []).size : Nat) = 0 := rfl
      clear hok hn
      go_enter Try.func50, Try.ntmps50
      go_wp2
      go_ret2
      exact ⟨rfl, Below.refl _ _⟩
    | cons c ys =>
      obtain ⟨d, hd⟩ : ∃ d, (d = 0 ∧ c ≠ 45) ∨ (d = 1 ∧ c = 45) := by
        by_cases hc : c = 45
        · exact ⟨1, .inr ⟨rfl, hc⟩⟩
        · exact ⟨0, .inl ⟨rfl, hc⟩⟩
      have h := refParse_d c ys d w hd (by omega)
      rw [(refP_same c ys d hd).1, (refP_same c ys d hd).2] at h
      exact h
end Go.Proofs.Ythaampcfkmfjcaa
