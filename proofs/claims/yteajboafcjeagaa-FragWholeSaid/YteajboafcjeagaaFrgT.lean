/-
  Layer 21: frag: the law FragWhole.
-/
import Derived.Test.YteajboafcjeagaaFrgS
namespace Go.Proofs.Yteajboafcjeagaa
set_option maxRecDepth 20000
open Go.RowKit
set_option linter.unusedVariables false
set_option linter.unusedSimpArgs false
set_option maxHeartbeats 8000000

/-- Numbers that are read. -/
def RdIz (w : World) (A : Option Addr) (n c : Nat) (is : List Int) : Prop := Rd w A (is.map (Value.int .i64)) ∧ is.length = n ∧ n ≤ c ∧ c ≤ maxLen ∧ ∀ i ∈ is, -9223372036854775808 ≤ i ∧ i ≤ 9223372036854775807
theorem RdIz.below {w w' : World} {A : Option Addr} {n c : Nat} {is : List Int} (h : RdIz w A n c is) (hb : Below w.heap.size w w') : RdIz w' A n c is := ⟨h.1.below hb, h.2⟩
theorem RdIz.at_ {w : World} {A : Option Addr} {n c : Nat} {is : List Int} (h : RdIz w A n c is) (k : Nat) (hk : k < n) : ∃ b o i, A = some ⟨b, o, none⟩ ∧ b < w.heap.size ∧ w.cell? ⟨b, o + k, none⟩ = some (.int .i64 i) ∧ (-9223372036854775808 ≤ i ∧ i ≤ 9223372036854775807) := by
  obtain ⟨hr, hl, _, _, hb63⟩ := h
  obtain ⟨b, o, rfl, hb, hc⟩ := hr.at_ k (by rw [List.length_map]; omega)
  have hk' : k < is.length := by omega
  refine ⟨b, o, is[k], rfl, hb, hc.trans ?_, hb63 _ (List.getElem_mem hk')⟩
  simp [List.getElem?_eq_getElem hk']
theorem RdIz.n63 {w : World} {A : Option Addr} {n c : Nat} {is : List Int} (h : RdIz w A n c is) : n ≤ 9223372036854775807 := by have := h.2.2; unfold maxLen at this; omega
theorem fw_early (A : Option Addr) (n c : Nat) (xs : List UInt8) (b : Int) (O : Option Addr) (m d : Nat) (is : List Int) (w : World) (hb : RdB w A n c xs) (ho : RdIz w O m d is) (h : n < 1 ∨ 128 < n ∨ b < 1 ∨ 4 < b ∨ 60 < m) :
    Calls Try.prog 8 #[.slice A n c, .int .i64 b, .slice O m d] w (RetV w (.bool true)) := by
  have hn63 := hb.n63
  have hm63 := ho.n63
  have hh : (decide ((n : Int) < 1) = true) ∨ (decide ((n : Int) < 1) = false ∧ decide ((128 : Int) < (n : Int)) = true) ∨ (decide ((n : Int) < 1) = false ∧ decide ((128 : Int) < (n : Int)) = false ∧ decide (b < 1) = true) ∨ (decide ((n : Int) < 1) = false ∧ decide ((128 : Int) < (n : Int)) = false ∧ decide (b < 1) = false ∧ decide (4 < b) = true) ∨ (decide ((n : Int) < 1) = false ∧ decide ((128 : Int) < (n : Int)) = false ∧ decide (b < 1) = false ∧ decide (4 < b) = false ∧ decide ((60 : Int) < (m : Int)) = true) := by
    simp only [decide_eq_true_eq, decide_eq_false_iff_not]
    omega
  clear h hb ho
  rcases hh with d1 | ⟨d1, d2⟩ | ⟨d1, d2, d3⟩ | ⟨d1, d2, d3, d4⟩ | ⟨d1, d2, d3, d4, d5⟩
  all_goals
    go_enter Try.func8, Try.ntmps8
    go_wp2_with fail
    refine (heads21 _).mono ?_
    rintro e w1 ⟨rfl, hb1⟩
    go_wp2_with fail
    go_ret
    exact ⟨rfl, hb1⟩
def FwI (V : World) (g : Nat) (xs : List UInt8) (n S N m : Nat) (v10 v11 v12 : Value) (wr : World) : Prop := ∃ (k : Nat) (l : List Fr) (A : Option Addr) (n2 c : Nat) (sn : List Bool), k ≤ m + N ∧ v10 = .int .i64 (lfC sn : Int) ∧ v11 = .slice A n2 c ∧ v12 = .int .i64 (k : Int) ∧ sn.length = N ∧ BoAt wr g sn ∧ RdFr wr A n2 c l ∧
  ((l = [] ∧ ∀ k, sn.getD k false = false) ∨ ∃ x, l = [x] ∧ FrPt fwO 35 xs (hsO n S sn) x ∧ ∃ k, k < N ∧ sn.getD k false = true) ∧ (¬ ∀ k, k < N → sn.getD k false = true) ∧ (∀ j, m ≤ j → j < k → sn.getD (j % N) false = true) ∧ Below V.heap.size V wr
set_option maxRecDepth 100000 in
theorem fw_main (A : Option Addr) (n c : Nat) (xs : List UInt8) (b : Nat) (O : Option Addr) (m d : Nat) (is : List Int) (w : World) (hb : RdB w A n c xs) (ho : RdIz w O m d is) (h1 : 1 ≤ n) (h2 : n ≤ 128) (h3 : 1 ≤ b) (h4 : b ≤ 4) (h5 : m ≤ 60) :
    Calls Try.prog 8 #[.slice A n c, .int .i64 (b : Int), .slice O m d] w (RetV w (.bool true)) := by
  have hc63 := hb.c63
  have hnc := hb.2.2.1
  have hxl := hb.2.1
  obtain ⟨ba, oa, _, rfl, _, _, _⟩ := hb.at_ 0 (by omega)
  obtain ⟨S, hS⟩ : ∃ S, S = 8 * b := ⟨_, rfl⟩
  have hS0 : 0 < S := by omega
  have hS8 : S % 8 = 0 := by omega
  have hS32 : S ≤ 32 := by omega
  obtain ⟨N, hN⟩ : ∃ N, N = (n + S - 1) / S := ⟨_, rfl⟩
  have hN1 : n ≤ S * N := by
    have h1 := Nat.div_add_mod (n + S - 1) S
    have h2 := Nat.mod_lt (n + S - 1) hS0
    rw [← hN] at h1; omega
  have hN2' : S * N ≤ n + S - 1 := by rw [hN]; exact Nat.mul_div_le _ _
  have hN0 : 1 ≤ N := by
    rcases Nat.eq_zero_or_pos N with h | h
    · rw [h] at hN1; omega
    · exact h
  have hN2 : ∀ k, k < N → S * k < n := fun k hk => by
    have h1 : S * (k + 1) ≤ S * N := Nat.mul_le_mul_left S hk
    rw [Nat.mul_succ] at h1; omega
  have hN128 : N ≤ 128 := by
    have h1 : 1 * N ≤ S * N := Nat.mul_le_mul_right N hS0
    have : N ≤ n := by
      have h2 := hN2 (N - 1) (by omega)
      have h3 : 1 * (N - 1) ≤ S * (N - 1) := Nat.mul_le_mul_right _ hS0
      omega
    omega
  have a1 : decide ((n : Int) < 1) = false := decide_eq_false (by omega)
  have a2 : decide ((128 : Int) < (n : Int)) = false := decide_eq_false (by omega)
  have a3 : decide ((b : Int) < 1) = false := decide_eq_false (by omega)
  have a4 : decide ((4 : Int) < (b : Int)) = false := decide_eq_false (by omega)
  have a5 : decide ((60 : Int) < (m : Int)) = false := decide_eq_false (by omega)
  have e1 : (8 : Int) * (b : Int) = (S : Int) := by omega
  have e2 : ((n : Int) + (S : Int) - 1) / (S : Int) = (N : Int) := by
    rw [hN, Int.natCast_ediv]; congr 1; omega
  have e2t : Int.tdiv ((n : Int) + (S : Int) - 1) (S : Int) = (N : Int) := by
    rw [Int.tdiv_eq_ediv_of_nonneg (by omega)]; exact e2
  have HN1 := Lib.hid hN1
  have HN2 := Lib.hid hN2
  have HXL := Lib.hid hxl
  have HB := Lib.hid hb
  have HO := Lib.hid ho
  clear hS hN hN1 hN2' hN2 hxl hb ho
  go_enter Try.func8, Try.ntmps8
  go_wp2_with (refine wp_makeBl rfl _ _ rfl .i64 .i64 N rfl rfl (by omega) ?_; intro w1 g1 hb1)
  have G1 := Lib.hid g1
  clear g1 e1 e2 e2t
  go_loopw [10, 11, 12] (FwI w w.heap.size xs n S N m) (fun _ _ i _ => (m + N) - (intOf i).toNat)
  case atStart => exact ⟨0, [], none, 0, 0, List.replicate N false, by omega, by rw [lfC_rep], rfl, rfl, by simp, G1.out, rdFr_nil _, .inl ⟨rfl, fun k => getD_rep _ _ _⟩, (fun h => by have := h 0 (by omega); rw [getD_rep] at this; cases this), (fun j _ hj => by omega), hb1⟩
  case round =>
  obtain ⟨k, l, A2, n2, c2, sn, hk, rfl, rfl, rfl, hsl, hbo, hfr, hst, hno, hsj, hB⟩ := hrel
  by_cases hlt : k < m + N
  · have hkN : k % N < N := Nat.mod_lt _ hN0
    have hNp : 0 < N := hN0
    have hNz : ¬ (N = 0) := by omega
    have hNi : (0 : Int) < (N : Int) := by omega
    obtain ⟨kN, hkNe⟩ : ∃ q, q = k % N := ⟨_, rfl⟩
    have e1 : (k : Int) % (N : Int) = (kN : Int) := by rw [hkNe]; exact (Int.natCast_emod k N).symm
    have e1t : Int.tmod (k : Int) (N : Int) = (kN : Int) := by rw [Int.tmod_eq_emod_of_nonneg (by omega)]; exact e1
    rw [← hkNe] at hkN
    have lk : decide ((k : Int) < (m : Int) + (N : Int)) = true := decide_eq_true (by omega)
    have hord : ∃ (q : Nat) (o r : Int) (bo oo : Nat), q < N ∧ (k < m → (O = some ⟨bo, oo, none⟩ ∧ wr.cell? ⟨bo, oo + k, none⟩ = some (.int .i64 o) ∧ (-9223372036854775808 ≤ o ∧ o ≤ 9223372036854775807) ∧ Int.tmod o (N : Int) = r ∧ (-(N : Int) < r ∧ r < N) ∧ Int.tmod (r + N) (N : Int) = q)) ∧ (m ≤ k → q = kN) := by
      by_cases hkm : k < m
      · obtain ⟨bo, oo, o, hO, _, hco, hor⟩ := (HO.out.below hB).at_ k hkm
        have hr1 := Int.tmod_lt_of_pos o (show (0 : Int) < N by omega)
        have hr2 : -(N : Int) < Int.tmod o (N : Int) := Int.lt_tmod_of_pos o (show (0 : Int) < N by omega)
        have hq1 := Int.emod_nonneg (Int.tmod o (N : Int) + N) (show (N : Int) ≠ 0 by omega)
        have hq2 := Int.emod_lt_of_pos (Int.tmod o (N : Int) + N) (show (0 : Int) < N by omega)
        exact ⟨((Int.tmod o (N : Int) + N) % (N : Int)).toNat, o, _, bo, oo, by omega, fun _ => ⟨hO, hco, hor, rfl, ⟨hr2, hr1⟩, by rw [Int.tmod_eq_emod_of_nonneg (by omega)]; omega⟩, fun h => by omega⟩
      · exact ⟨kN, 0, 0, 0, 0, hkN, fun h => absurd h hkm, fun _ => rfl⟩
    obtain ⟨q, o, r, bo, oo, hqN, hord, hqk⟩ := hord
    obtain ⟨P, hP⟩ : ∃ P, P = S * q := ⟨_, rfl⟩
    have hPn : P < n := by rw [hP]; exact HN2.out q hqN
    have hPS : P % 8 = 0 := by rw [hP, Nat.mul_mod, hS8]; simp
    obtain ⟨E, hE⟩ : ∃ E, E = min n (P + S) := ⟨_, rfl⟩
    obtain ⟨mo, hmo⟩ : ∃ mo, mo = decide (q < N - 1) := ⟨_, rfl⟩
    have hmoE : mo = decide (E < n) := by
      rw [hmo, hE]
      apply decide_eq_decide.2
      constructor
      · intro h
        have := HN2.out (q + 1) (by omega)
        rw [Nat.mul_succ, ← hP] at this
        omega
      · intro h
        apply Classical.byContradiction
        intro h2
        have h3 : q = N - 1 := by omega
        have h4 : S * N = P + S := by rw [hP, h3, ← Nat.mul_succ]; congr 1; omega
        have := HN1.out
        omega
    have b1 : (S : Int) * (q : Int) = (P : Int) := by rw [hP]; exact (Int.natCast_mul S q).symm
    have b2 : decide ((q : Int) < (N : Int) - 1) = mo := by rw [hmo]; apply decide_eq_decide.2; omega
    have b3 : min (n : Int) ((P : Int) + (S : Int)) = (E : Int) := by omega
    have b4 : (P : Int) ≤ (E : Int) := by omega
    have b5 : (E : Int) ≤ (c : Int) := by omega
    have b6 : ¬ (c = P) := by omega
    have hEb : P < E ∧ E ≤ n := by omega
    have HKN := Lib.hid hkNe
    have HST := Lib.hid hst
    have HNO := Lib.hid hno
    have HSJ := Lib.hid hsj
    have HSL := Lib.hid hsl
    have HBO := Lib.hid hbo
    have HFR := Lib.hid hfr
    have HORD := Lib.hid hord
    have HQK := Lib.hid hqk
    have HMO := Lib.hid hmoE
    have HP := Lib.hid hP
    have HE := Lib.hid hE
    clear hst hno hsj hsl hbo hfr hord hqk hmoE hmo hP hE hkNe
    by_cases hkm : k < m
    have lkm : decide ((k : Int) < (m : Int)) = true := decide_eq_true (by omega)
    obtain ⟨rfl, hco, hor, hr1, hr2, hq1⟩ := HORD.out hkm
    have hr3 : Int.tmod (r + (N : Int)) (N : Int) = (r + (N : Int)) % (N : Int) := Int.tmod_eq_emod_of_nonneg (by omega)
    have hq2 : (r + (N : Int)) % (N : Int) = q := by rw [← hr3]; exact hq1
    have lkk : (k : Int) < (m : Int) := by omega
    have HQ2 : Hid (m ≤ k → k % N = q) := Lib.hid (fun h => by omega)
    clear hr3
    rotate_left
    have lkm : decide ((k : Int) < (m : Int)) = false := decide_eq_false (by omega)
    obtain rfl : q = kN := HQK.out (by omega)
    have lkk : ¬ ((k : Int) < (m : Int)) := by omega
    have HQ2 : Hid (m ≤ k → k % N = q) := Lib.hid (fun _ => HKN.out.symm)
    rotate_left
    all_goals
      go_wp2_with fail
      refine named ?_
      intro W2 hW2
      have b2w : Below wr.heap.size wr W2 := by rw [hW2]; exact (below_self _).alloc (Nat.le_refl _) _
      have hgw := HBO.out.lt
      have hB2 : Below w.heap.size w W2 := hB.trans (b2w.mono (by omega))
      have z2 := b2w.size
      have F2 := HFR.out.below b2w
      have R2 : RdB W2 (some ⟨ba, oa + P, none⟩) (E - P) (c - P) ((xs.drop P).take (E - P)) := by
        have h := ((HB.out.below hB2).take E (by omega)).cutS P (E - P) (by omega) (by omega)
        rw [List.drop_take] at h
        exact h
      obtain ⟨all, hall⟩ : ∃ a : Bool, (∀ i, i < n → hsO n S (sn.set q true) i) ↔ a = true := by
        classical
        exact ⟨decide (∀ i, i < n → hsO n S (sn.set q true) i), by simp⟩
      have hal2 := hsO_all (sn := sn.set q true) hS0 HN1.out HN2.out
      have hrg : ∀ i, (hsO n S sn i ∨ (P ≤ i ∧ i < P + (E - P))) ↔ hsO n S (sn.set q true) i := fun i => hsO_add hS0 (by rw [HSL.out]; exact hqN) HP.out (by have := HE.out; omega)
      refine (fwTake A2 n2 c2 l xs n S N q P (E - P) mo all sn (some ⟨ba, oa + P, none⟩) (c - P) W2 F2 R2 h1 h2 HXL.out HST.out HNO.out hPS (by omega) (by omega) (by rw [HMO.out]; apply decide_eq_decide.2; omega) (fun h => by rw [HMO.out] at h; have := of_decide_eq_true h; have := HE.out; omega) (by
        rintro ⟨g1, g2⟩
        rw [HMO.out] at g2
        have g2 := of_decide_eq_false g2
        have g3 := HE.out
        apply Classical.byContradiction
        intro g4
        have g5 := HN2.out 1 (by omega)
        omega) hrg hall).mono ?_
      rintro e w3 ⟨hb3, hh⟩
      have hB3 : Below w.heap.size w w3 := hB2.trans (hb3.mono (by omega))
      have z3 := hb3.size
      have BO3 := Lib.hid ((HBO.out.up b2w).up hb3)
      have lq : (q : Int) < (N : Int) := by omega
      have hgl : ∀ (v : Bool), (sn.set q true).getD q v = true := fun v => by rw [getD_set _ _ _ _ _ (by rw [HSL.out]; exact hqN), if_pos rfl]
      have HHALL := Lib.hid hall
      have HAL2 := Lib.hid hal2
      have HSNL := Lib.hid (show (sn.set q true).length = N by rw [List.length_set]; exact HSL.out)
      have HSJ2 := Lib.hid (show ∀ j, m ≤ j → j < k + 1 → (sn.set q true).getD (j % N) false = true from fun j hj hj2 => by
        rw [getD_set _ _ _ _ _ (by rw [HSL.out]; exact hqN)]
        by_cases hjk : j = k
        · rw [hjk, if_pos (HQ2.out (by omega))]
        · split
          · rfl
          · exact HSJ.out j hj (by omega))
      have HGQ := Lib.hid (hgl false)
      clear hW2 hgl hall hal2 hrg F2 R2 hB2
      rcases hh with ⟨rfl, x, A3, c3, rfl, o3, hx⟩ | ⟨rfl, A3, c3, B3, d3, rfl, r3, ob3⟩
      · have hno2 : ¬ ∀ k, k < N → (sn.set q true).getD k false = true := fun h => by
          have := HHALL.out.1 (HAL2.out.2 h)
          cases this
        have HS1 := Lib.hid (fr_one hx (by omega) (by have := HXL.out; omega) (by decide))
        have HNO2 := Lib.hid hno2
        have HX := Lib.hid hx
        have O3 := Lib.hid o3
        clear hno2 hx o3
        go_wp2_with fail
        refine named ?_
        intro W4 hW4
        have b4 : Below w3.heap.size w3 W4 := by rw [hW4]; exact (below_self _).alloc (Nat.le_refl _) _
        clear hW4
        refine (frgCheck_yes A3 1 c3 [x] W4 (O3.out.rd.below b4) HS1.out).mono ?_
        rintro e w5 ⟨rfl, hb5⟩
        have hb35 := below_then b4 hb5
        have z5 := hb35.size
        have BO5 := Lib.hid (BO3.out.up hb35)
        have O5 := Lib.hid (O3.out.up hb35)
        have hB5 := hB3.trans (hb35.mono (by omega))
        have cq := BO5.out.cell q (by rw [HSL.out]; exact hqN)
        have fq := BO5.out.frozen q
        obtain ⟨sq, hsq⟩ : ∃ b, sn.getD q false = b := ⟨_, rfl⟩
        rw [hsq] at cq
        obtain ⟨L1, hL1⟩ : ∃ L1, lfC (sn.set q true) = L1 := ⟨_, rfl⟩
        have hL10 : L1 ≠ 0 := fun h0 => HNO2.out (fun k hk => (lfC_zero _).1 (hL1.trans h0) k (by rw [HSNL.out]; exact hk))
        have e10 : ((L1 : Int) == 0) = false := beq_eq_false_iff_ne.2 (by omega)
        have HL1 := Lib.hid hL1
        cases sq with
        | false =>
          have hl0 := lfC_set sn q (by rw [HSL.out]; exact hqN) hsq
          rw [hL1] at hl0
          obtain ⟨L0, hL0⟩ : ∃ L0, lfC sn = L0 := ⟨_, rfl⟩
          rw [hL0] at hl0 ⊢
          have e11 : (L0 : Int) - 1 = (L1 : Int) := by omega
          have hl200 : L0 ≤ 200 := by
            rw [← hL0]
            have := List.count_le_length (a := false) (l := sn)
            have h3 := HSL.out
            unfold lfC; omega
          clear hL0 hL1 hsq hl0
          go_wp2_with fail
          go_roundw
          case rel => exact ⟨k + 1, [x], A3, 1, c3, sn.set q true, by omega, by rw [HL1.out], rfl, by go_num, HSNL.out, BO5.out.set q true, (O5.out.but ((ButG.refl w.heap.size w5).set q (.bool true)) (fun a ha => by have := (O3.out.blk a ha).1; omega)).rd, .inr ⟨x, rfl, HX.out, q, hqN, HGQ.out⟩, HNO2.out, HSJ2.out, hB5.trans (((ButG.refl w.heap.size w5).set q (.bool true)).below)⟩
          case measure => simp [intOf]; omega
        | true =>
          have hset : sn.set q true = sn := by
            apply List.ext_getElem?
            intro i
            rw [List.getElem?_set]
            by_cases hi : q = i
            · subst hi
              have hq2 : q < sn.length := by rw [HSL.out]; exact hqN
              rw [if_pos rfl, if_pos hq2, List.getElem?_eq_getElem hq2]
              rw [List.getD, List.getElem?_eq_getElem hq2] at hsq
              simpa using hsq.symm
            · rw [if_neg hi]
          rw [hset] at hL1
          have HST2 := Lib.hid hset
          rw [hL1]
          clear hset hL1 hsq
          go_wp2_with fail
          go_roundw
          case rel => exact ⟨k + 1, [x], A3, 1, c3, sn.set q true, by omega, by rw [HL1.out], rfl, by go_num, HSNL.out, by rw [HST2.out]; exact BO5.out, O5.out.rd, .inr ⟨x, rfl, HX.out, q, hqN, HGQ.out⟩, HNO2.out, HSJ2.out, hB5⟩
          case measure => simp [intOf]; omega
      · have hsqf : sn.getD q false = false := by
          cases hq : sn.getD q false with
          | false => rfl
          | true =>
            exact absurd (fun k hk => by
              have h := HAL2.out.1 (HHALL.out.2 rfl) k hk
              rw [getD_set _ _ _ _ _ (by rw [HSL.out]; exact hqN)] at h
              split at h
              · next he => rw [he]; exact hq
              · exact h) HNO.out
        have hl0 := lfC_set sn q (by rw [HSL.out]; exact hqN) hsqf
        rw [(lfC_zero (sn.set q true)).2 (fun k hk => HAL2.out.1 (HHALL.out.2 rfl) k (by rw [HSNL.out] at hk; exact hk))] at hl0
        obtain ⟨L0, hL0⟩ : ∃ L0, lfC sn = L0 := ⟨_, rfl⟩
        rw [hL0] at hl0 ⊢
        have e11 : (L0 : Int) - 1 = 0 := by omega
        have hl200 : L0 ≤ 200 := by omega
        have HR3 := Lib.hid r3
        have HOB := Lib.hid ob3
        have HSQ := Lib.hid hsqf
        clear hL0 hl0 r3 ob3 hsqf
        go_wp2_with fail
        refine named ?_
        intro W4 hW4
        have b4 : Below w3.heap.size w3 W4 := by rw [hW4]; exact (below_self _).alloc (Nat.le_refl _) _
        have q4 : PkAt W4 w3.heap.size 9 false 0 17 5 6 B3 n d3 := by rw [hW4]; exact frw_at _ rfl
        have Q4 := Lib.hid q4
        clear hW4 q4
        refine (frgCheck_yes A3 0 c3 [] W4 (HR3.out.below b4) frs_nil).mono ?_
        rintro e w5 ⟨rfl, hb5⟩
        have hb35 := below_then b4 hb5
        have z5 := hb35.size
        have BO5 := Lib.hid (BO3.out.up hb35)
        have hB5 := hB3.trans (hb35.mono (by omega))
        have cq := BO5.out.cell q (by rw [HSL.out]; exact hqN)
        have fq := BO5.out.frozen q
        rw [HSQ.out] at cq
        obtain ⟨V6, hV6⟩ : ∃ V6, V6 = w5.setCell ⟨w.heap.size, q, none⟩ (.bool true) := ⟨_, rfl⟩
        have k6 : ButG w.heap.size w5 V6 := by rw [hV6]; exact (ButG.refl _ _).set q _
        have Q6 : Hid (PkAt V6 w3.heap.size 9 false 0 17 5 6 B3 n d3) := Lib.hid (k6.row (by omega) (Q4.out.up hb5))
        obtain ⟨gb, hgb1, hgb2, _⟩ := HOB.out.addr (by omega)
        have RB6 : Hid (RdB V6 B3 n d3 xs) := Lib.hid (k6.rdB (fun a ha => by rw [hgb1] at ha; injection ha with ha; subst ha; show gb ≠ _; omega) (HOB.out.rd.below hb35))
        have RA6 : Hid (RdB V6 (some ⟨ba, oa, none⟩) n c xs) := Lib.hid (HB.out.below (hB5.trans k6.below))
        obtain ⟨c0, _, _, _, c4, _, c6⟩ := Q6.out.cells
        rw [hV6] at c0 c4 c6
        have HV6 := Lib.hid hV6
        have hl00 : L0 = 1 := by omega
        clear hV6 hgb1
        go_wp2_with fail
        rw [← HV6.out]
        have hh := bytes_any B3 (some ⟨ba, oa, none⟩) n d3 n c xs xs V6 RB6.out RA6.out
        rw [decide_eq_true rfl] at hh
        refine hh.mono ?_
        clear hh c0 c4 c6
        rintro e w7 ⟨rfl, rfl⟩
        obtain ⟨c0, _, _, _, c4, _, c6⟩ := Q6.out.cells
        go_wp2_with fail
        refine (heads21 _).mono ?_
        rintro e w8 ⟨rfl, hb8⟩
        go_wp2_with fail
        go_ret
        exact ⟨rfl, (hB5.trans k6.below).trans (hb8.mono (by have := k6.below.size; omega))⟩
  · exact absurd (fun r hr => by
      have hd := Nat.div_add_mod m N
      have hm := Nat.mod_lt m hN0
      by_cases h : m % N ≤ r
      · have h2 := hsj (N * (m / N) + r) (by omega) (by omega)
        rw [Nat.mul_add_mod, Nat.mod_eq_of_lt hr] at h2
        exact h2
      · have h2 := hsj (N * (m / N + 1) + r) (by rw [Nat.mul_succ]; omega) (by rw [Nat.mul_succ]; omega)
        rw [Nat.mul_add_mod, Nat.mod_eq_of_lt hr] at h2
        exact h2) hno
theorem fw_law (A : Option Addr) (n c : Nat) (xs : List UInt8) (b : Int) (O : Option Addr) (m d : Nat) (is : List Int) (w : World) (hb : RdB w A n c xs) (ho : RdIz w O m d is) :
    Calls Try.prog 8 #[.slice A n c, .int .i64 b, .slice O m d] w (RetV w (.bool true)) := by
  by_cases h : n < 1 ∨ 128 < n ∨ b < 1 ∨ 4 < b ∨ 60 < m
  · exact fw_early A n c xs b O m d is w hb ho h
  · obtain ⟨b', rfl⟩ : ∃ b' : Nat, b = (b' : Int) := ⟨b.toNat, by omega⟩
    exact fw_main A n c xs b' O m d is w hb ho (by omega) (by omega) (by omega) (by omega) (by omega)
theorem fw_lawF (A : Option Addr) (n c : Nat) (xs : List UInt8) (b : Int) (O : Option Addr) (m d : Nat) (is : List Int) (w : World) (hb : RdB w A n c xs) (hi : -9223372036854775808 ≤ b ∧ b ≤ 9223372036854775807) (ho : RdIz w O m d is) :
    Calls Try.prog 8 #[.slice A n c, .int .i64 b, .slice O m d] w (RetV w (.bool true)) := fw_law A n c xs b O m d is w hb ho
end Go.Proofs.Yteajboafcjeagaa
