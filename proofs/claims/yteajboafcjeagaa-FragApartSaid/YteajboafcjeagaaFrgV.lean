/-
  Layer 21: frag: the law FragApart.
-/
import Derived.Test.YteajboafcjeagaaFrgU
namespace Go.Proofs.Yteajboafcjeagaa
set_option maxRecDepth 20000
open Go.RowKit
set_option linter.unusedVariables false
set_option linter.unusedSimpArgs false
set_option maxHeartbeats 8000000

theorem fa_early (A : Option Addr) (n c : Nat) (xs : List UInt8) (B : Option Addr) (m d : Nat) (ys : List UInt8) (w : World) (ha : RdB w A n c xs) (hb : RdB w B m d ys) (h : n < 9 ∨ 128 < n ∨ m < 9 ∨ 128 < m) :
    Calls Try.prog 7 #[.slice A n c, .slice B m d] w (RetV w (.bool true)) := by
  have hn63 := ha.n63
  have hm63 := hb.n63
  have hh : (decide ((n : Int) < 9) = true) ∨ (decide ((n : Int) < 9) = false ∧ decide ((128 : Int) < (n : Int)) = true) ∨ (decide ((n : Int) < 9) = false ∧ decide ((128 : Int) < (n : Int)) = false ∧ decide ((m : Int) < 9) = true) ∨ (decide ((n : Int) < 9) = false ∧ decide ((128 : Int) < (n : Int)) = false ∧ decide ((m : Int) < 9) = false ∧ decide ((128 : Int) < (m : Int)) = true) := by
    simp only [decide_eq_true_eq, decide_eq_false_iff_not]
    omega
  clear h ha hb
  rcases hh with d1 | ⟨d1, d2⟩ | ⟨d1, d2, d3⟩ | ⟨d1, d2, d3, d4⟩
  all_goals
    go_enter Try.func7, Try.ntmps7
    go_wp2_with fail
    refine (heads21 _).mono ?_
    rintro e w1 ⟨rfl, hb1⟩
    go_wp2_with fail
    go_ret
    exact ⟨rfl, hb1⟩
/-- What stands in a place of the results. -/
def GotP (w : World) (g2 : Nat) (xs : List UInt8) (G : Option Addr) (k d : Nat) : Prop := RdB w G k d xs ∧ ∀ a, G = some a → a.block ≠ g2
theorem GotP.up {w w' : World} {g2 : Nat} {xs : List UInt8} {G : Option Addr} {k d : Nat} (h : GotP w g2 xs G k d) (hb : Below w.heap.size w w') : GotP w' g2 xs G k d := ⟨h.1.below hb, h.2⟩
theorem GotP.but {w w' : World} {g2 : Nat} {xs : List UInt8} {G : Option Addr} {k d : Nat} (h : GotP w g2 xs G k d) (hb : ButG g2 w w') : GotP w' g2 xs G k d := ⟨hb.rdB h.2 h.1, h.2⟩
theorem gotp_own {w w' : World} {base g2 : Nat} {xs : List UInt8} {G : Option Addr} {k d : Nat} (h : OwnB w base G k d xs) (hb : ButG g2 w w') (hg : g2 < base) : GotP w' g2 xs G k d := by
  have hne : ∀ a, G = some a → a.block ≠ g2 := fun a ha => by
    rcases h.2 with ⟨h1, _⟩ | ⟨g, cap, cur, hv, hbb, _⟩
    · injection h1 with e1; rw [e1] at ha; cases ha
    · injection hv with e1; rw [e1] at ha; injection ha with ha; subst ha; show g ≠ g2; omega
  exact ⟨hb.rdB hne h.rd, hne⟩
theorem hall_up {w w' : World} {base g0 q0 : Nat} {all : Bool} {xs : List UInt8} {G : Option Addr} {k d : Nat} (h : all = true → q0 = g0 ∧ OwnB w base G k d xs) (hb : Below w.heap.size w w') : all = true → q0 = g0 ∧ OwnB w' base G k d xs := fun e => ⟨(h e).1, (h e).2.below hb⟩
theorem hall_but {w w' : World} {base g0 q0 h0 : Nat} {all : Bool} {xs : List UInt8} {G : Option Addr} {k d : Nat} (h : all = true → q0 = g0 ∧ OwnB w base G k d xs) (hb : ButG h0 w w') {cs : Array Value} {fr : Nat × Nat} (q : w.heap[h0]? = some (.cells cs 61 fr)) : all = true → q0 = g0 ∧ OwnB w' base G k d xs := fun e => ⟨(h e).1, (h e).2.butT hb q (by decide)⟩
theorem ofr_butT {w w' : World} {h base : Nat} {A : Option Addr} {n c : Nat} {l : List Fr} (o : OwFr w base A n c l) (k : ButG h w w') {cs : Array Value} {fr : Nat × Nat} (q : w.heap[h]? = some (.cells cs 61 fr)) : OwFr w' base A n c l := by
  refine ⟨⟨o.1.1, ?_⟩, o.2⟩
  rcases o.1.2 with h1 | ⟨g, cap, cur, hv, hbb, hg, r⟩
  · exact .inl h1
  · refine .inr ⟨g, cap, cur, hv, hbb, (k.other g (fun e => ?_) (frw_lt hg)).trans hg, r⟩
    subst e
    rw [hg] at q
    injection q with q; injection q with _ q _
    exact absurd q (by decide)
theorem fap_skip {id : Nat} {xs : List UInt8} {p : Nat} {l : List Fr} (h : FaP id xs p l) (hn : xs.length ≤ p) : FaP id xs (p + 8) l := by
  rcases h with ⟨_, rfl⟩ | ⟨_, h2, _⟩
  · exact .inl ⟨.inr (by omega), rfl⟩
  · omega
theorem fap_next {id n E : Nat} {xs : List UInt8} {p : Nat} {l : List Fr} (h : FaP id xs E l) (hE : E = min (p + 8) n) (hn : xs.length = n) : FaP id xs (p + 8) l := by
  by_cases hp : p + 8 ≤ n
  · obtain rfl : E = p + 8 := by omega
    exact h
  · rcases h with ⟨_, rfl⟩ | ⟨_, h2, _⟩
    · exact .inl ⟨.inr (by omega), rfl⟩
    · omega
/-- What stands between two pieces. -/
def FaS (V : World) (A : Option Addr) (n c : Nat) (xs : List UInt8) (B : Option Addr) (m d : Nat) (ys : List UInt8) (p q : Nat) (v6 : Value) (wr : World) : Prop := ∃ (L : Option Addr) (n2 c2 : Nat) (la lb : List Fr) (G0 : Option Addr) (k0 d0 : Nat) (G1 : Option Addr) (k1 d1 : Nat), v6 = .slice L n2 c2 ∧ RdFr wr L n2 c2 (la ++ lb) ∧ FaP 0 xs p la ∧ FaP 1 ys q lb ∧
  wr.heap[V.heap.size]? = some (.cells #[.slice A n c, .slice B m d] 35 (0, 0)) ∧ wr.heap[V.heap.size + 1]? = some (.cells #[.slice G0 k0 d0, .slice G1 k1 d1] 57 (0, 0)) ∧ (n ≤ p → GotP wr (V.heap.size + 1) xs G0 k0 d0) ∧ (m ≤ q → GotP wr (V.heap.size + 1) ys G1 k1 d1) ∧ Below V.heap.size V wr
def FaI (V : World) (A : Option Addr) (n c : Nat) (xs : List UInt8) (B : Option Addr) (m d : Nat) (ys : List UInt8) (v6 v8 : Value) (wr : World) : Prop := ∃ p : Nat, p ≤ 128 ∧ p % 8 = 0 ∧ v8 = .int .i64 (p : Int) ∧ FaS V A n c xs B m d ys p p v6 wr
def FaJ (V : World) (A : Option Addr) (n c : Nat) (xs : List UInt8) (B : Option Addr) (m d : Nat) (ys : List UInt8) (p : Nat) (v6 v9 : Value) (wr : World) : Prop :=
  (v9 = .int .i64 0 ∧ FaS V A n c xs B m d ys p p v6 wr) ∨ (v9 = .int .i64 1 ∧ FaS V A n c xs B m d ys (p + 8) p v6 wr) ∨ (v9 = .int .i64 2 ∧ FaS V A n c xs B m d ys (p + 8) (p + 8) v6 wr)
theorem sl2_open {w : World} {g : Nat} {a b : Value} {T : TypeId} (h : w.heap[g]? = some (.cells #[a, b] T (0, 0))) : (w.cell? ⟨g, 0, none⟩ = some a ∧ w.cell? ⟨g, 1, none⟩ = some b) ∧ ∀ i, w.frozen? ⟨g, i, none⟩ = false :=
  ⟨⟨(cell_of_row w g 0 _ _ _ h).trans rfl, (cell_of_row w g 1 _ _ _ h).trans rfl⟩, fun i => frozen_of_row w g i _ _ h⟩
set_option maxRecDepth 100000 in
theorem fa_main (A : Option Addr) (n c : Nat) (xs : List UInt8) (B : Option Addr) (m d : Nat) (ys : List UInt8) (w : World) (ha : RdB w A n c xs) (hb : RdB w B m d ys) (h1 : 9 ≤ n) (h2 : n ≤ 128) (h3 : 9 ≤ m) (h4 : m ≤ 128) :
    Calls Try.prog 7 #[.slice A n c, .slice B m d] w (RetV w (.bool true)) := by
  have a1 : decide ((n : Int) < 9) = false := decide_eq_false (by omega)
  have a2 : decide ((128 : Int) < (n : Int)) = false := decide_eq_false (by omega)
  have a3 : decide ((m : Int) < 9) = false := decide_eq_false (by omega)
  have a4 : decide ((128 : Int) < (m : Int)) = false := decide_eq_false (by omega)
  have hc63 := ha.c63
  have hd63 := hb.c63
  have hnc := ha.2.2.1
  have hmd := hb.2.2.1
  obtain ⟨ba, oa, _, rfl, _, _, _⟩ := ha.at_ 0 (by omega)
  obtain ⟨bb, ob, _, rfl, _, _, _⟩ := hb.at_ 0 (by omega)
  have HA := Lib.hid ha
  have HB0 := Lib.hid hb
  have HXL := Lib.hid ha.2.1
  have HYL := Lib.hid hb.2.1
  clear ha hb
  go_enter Try.func7, Try.ntmps7
  go_wp2_with fail
  go_loopw [6, 8] (FaI w (some ⟨ba, oa, none⟩) n c xs (some ⟨bb, ob, none⟩) m d ys) (fun _ a _ => 128 - (intOf a).toNat)
  case atStart => exact ⟨0, by omega, by omega, rfl, none, 0, 0, [], [], none, 0, 0, none, 0, 0, rfl, rdFr_nil _, .inl ⟨.inl rfl, rfl⟩, .inl ⟨.inl rfl, rfl⟩, frw_old _ (frw_at _ rfl), frw_at _ (by simp), (fun h => by omega), (fun h => by omega), ((below_self w).alloc (Nat.le_refl _) _).alloc (by simp) _⟩
  case round =>
  obtain ⟨p, hp, hp8, rfl, hS⟩ := hrel
  by_cases hlt : p < 128
  · have lp : (p : Int) < 128 := by omega
    have HS := Lib.hid hS
    clear hS
    go_wp2_with fail
    go_loopw [6, 9] (FaJ w (some ⟨ba, oa, none⟩) n c xs (some ⟨bb, ob, none⟩) m d ys p) (fun _ i _ => 2 - (intOf i).toNat)
    case atStart => exact .inl ⟨rfl, HS.out⟩
    case round =>
    clear HS
    rcases hrel with ⟨rfl, hS⟩ | ⟨rfl, hS⟩ | ⟨rfl, hS⟩
    · obtain ⟨L, n2, c2, la, lb, G0, k0, d0, G1, k1, d1, rfl, hfr, hPa, hPb, r1, r2, hg0, hg1, hB⟩ := hS
      obtain ⟨⟨c0, c1⟩, cf⟩ := sl2_open r1
      have lg1 := frw_lt r1
      have lg2 := frw_lt r2
      have HFR := Lib.hid hfr
      have HPA := Lib.hid hPa
      have HPB := Lib.hid hPb
      have R1 := Lib.hid r1
      have R2 := Lib.hid r2
      have HG0 := Lib.hid hg0
      have HG1 := Lib.hid hg1
      clear hfr hPa hPb r1 r2 hg0 hg1
      by_cases hn : n ≤ p
      · have e1 : decide ((n : Int) ≤ (p : Int)) = true := decide_eq_true (by omega)
        have e2 : decide (n ≤ p) = true := decide_eq_true hn
        go_wp2_with fail
        go_roundw
        case rel => exact .inr (.inl ⟨(by go_num), L, n2, c2, la, lb, G0, k0, d0, G1, k1, d1, rfl, HFR.out, fap_skip HPA.out (by have := HXL.out; omega), HPB.out, R1.out, R2.out, (fun _ => HG0.out hn), HG1.out, hB⟩)
        case measure => simp [intOf]
      · have e1 : decide ((n : Int) ≤ (p : Int)) = false := decide_eq_false (by omega)
        have e2 : decide (n ≤ p) = false := decide_eq_false hn
        obtain ⟨E, hE⟩ : ∃ E, E = min (p + 8) n := ⟨_, rfl⟩
        obtain ⟨mo, hmo⟩ : ∃ b, b = decide (E < n) := ⟨_, rfl⟩
        obtain ⟨all, hal⟩ : ∃ b, b = decide (E = n) := ⟨_, rfl⟩
        have e3 : min ((p : Int) + 8) (n : Int) = (E : Int) := by omega
        have e4 : decide ((E : Int) < (n : Int)) = mo := by rw [hmo]; apply decide_eq_decide.2; omega
        have e4n : decide (E < n) = mo := hmo.symm
        have b1 : (p : Int) ≤ (E : Int) := by omega
        have b2 : (E : Int) ≤ (c : Int) := by omega
        have b3 : ¬ (c = p) := by omega
        have hpE : p < E ∧ E ≤ n := by omega
        have e5 : ((E : Int) == (n : Int)) = all := by rw [hal, Bool.eq_iff_iff, beq_iff_eq, decide_eq_true_iff]; omega
        have hn24 : n2 ≤ 3 := by
          have q1 := HFR.out.2.1
          have q2 := HPA.out.l
          have q3 := HPB.out.l
          rw [List.length_append] at q1
          omega
        have HE := Lib.hid hE
        have HMO := Lib.hid hmo
        have HAL := Lib.hid hal
        have C := Lib.hid (fun W (hW : Below w.heap.size w W) (hf : RdFr W L n2 c2 (la ++ lb)) => faTake 0 (by omega) L n2 c2 [] la lb xs n p E (E - p) mo all (some ⟨ba, oa + p, none⟩) (c - p) W (by simpa using hf) (by simpa using FaP.two HPA.out HPB.out (by have := HXL.out; omega) (by have := HYL.out; omega)) (fun x hx => by cases hx) (by
          have h := ((HA.out.below hW).take E (by omega)).cutS p (E - p) (by omega) (by omega)
          rw [List.drop_take] at h
          exact h) HXL.out (by omega) (by omega) HPA.out (fun h => by have h' := HPB.out; rcases h' with ⟨_, h'⟩ | ⟨h', _⟩; exact h'; omega) hn24 hp8 (by omega) HE.out rfl HMO.out HAL.out)
        clear hE hmo hal
        go_wp2_with fail
        refine wp_region_seg (S := fun w' => Below wr.heap.size wr w') 11 #[true, true, true, true, true, true, true, true, true, true, true, true, true, true, true, true, true, true, true, false, false, false, false, false, false, false, false, false, false, false] [(0, true), (1, true), (2, true), (3, true), (4, true), (5, true), (6, true), (7, true), (8, true), (9, true), (10, true), (11, true), (12, true), (13, true), (14, true), (15, true), (16, true), (17, true), (18, true)] (by kernel_rfl) (by kernel_rfl) (fun _ _ d _ _ h => by first | (cases d <;> exact h) | cases h.1) ((Below.refl wr.heap.size wr).drew) ?_
        have HB := (Below.refl wr.heap.size wr).drew
        iterate 19 (refine seg_take (v := ?_) rfl (Or.inl ⟨by rfl, ?_⟩) ?_; rotate_left; (focus (intro w' hw'; have j0 := (hw'.cell (p := ⟨w.heap.size, 0, none⟩) lg1).trans c0; go_simp <;> with_reducible rfl)); try simp only [Act.put, List.setIfInBounds_toArray, List.set_cons_zero, List.set_cons_succ])
        refine seg_done (fun _ => ?_)
        refine wpAnyH_two (i := 19) (j := 25) (f := 10) (by kernel_rfl) ?_ ?_
        · skip
          refine op_run rfl (fun K hK => ?_)
          go_simp
          refine (C.out _ (hB.trans (HB.mono (by omega))) (HFR.out.below HB)).mono ?_
          rintro e wC ⟨A3, n3, c3, q0, q4, q5, q3, G, k, dd, lc, rfl, oC, hbC, hP3, hall⟩
          have OC := Lib.hid (oC.mono (base' := wr.heap.size) HB.size)
          have HALL : Hid (all = true → q0 = 0 ∧ OwnB wC wr.heap.size G k dd xs) := Lib.hid (by have hz := HB.size; exact fun h => ⟨(hall h).1, (hall h).2.mono hz⟩)
          have HP3 := Lib.hid hP3
          have HB := below_then HB hbC
          try (have QX := Lib.hid (frw_up QX.out hbC); obtain ⟨⟨x0, x1, x2, x3, x4, x5, x6⟩, xf⟩ := pk_open QX.out)
          clear oC hall hP3
          refine hK.out _ _ (HB) ?_
          clear hK
          try simp only [Act.put, List.setIfInBounds_toArray, List.set_cons_zero, List.set_cons_succ]
          refine wpAnyH_seg (by kernel_rfl) (fun _ _ d _ _ h => by first | (cases d <;> exact h) | cases h.1) 0 #[true, true, true, true, true, true, true, true, true, true, true, true, true, true, true, true, true, true, true, true, true, true, true, true, true, true, true, true, true, true] [(20, true), (21, true), (22, true), (23, true), (24, true), (25, false), (26, true), (27, false), (28, true), (29, true)] _ _ _ (by kernel_rfl) (HB) ?_
          iterate 5 (refine seg_take (v := ?_) rfl (Or.inl ⟨by rfl, ?_⟩) ?_; rotate_left; (focus (intro w' hw'; have j0 := (hw'.cell (p := ⟨w.heap.size, 0, none⟩) lg1).trans c0; go_simp <;> with_reducible rfl)); try simp only [Act.put, List.setIfInBounds_toArray, List.set_cons_zero, List.set_cons_succ])
          refine seg_run rfl (fun K hK => ?_)
          rw [if_pos (by rfl)]
          refine op_pkNew rfl ?_
          intro X pX hpX qX hbX
          have HGX := Nat.le_trans HB.size (Nat.le_of_eq hpX.symm)
          have QX := Lib.hid qX
          have HB := below_then HB hbX
          try (have OC := Lib.hid (OC.out.up hbX); have HALL := Lib.hid (hall_up HALL.out hbX))
          obtain ⟨⟨x0, x1, x2, x3, x4, x5, x6⟩, xf⟩ := pk_open QX.out
          clear hpX qX hbX
          refine hK.out _ _ (HB) ?_
          clear hK
          try simp only [Act.put, List.setIfInBounds_toArray, List.set_cons_zero, List.set_cons_succ]
          iterate 1 (refine seg_take (v := ?_) rfl (Or.inl ⟨by rfl, ?_⟩) ?_; rotate_left; (focus (intro w' hw'; have j0 := (hw'.cell (p := ⟨w.heap.size, 0, none⟩) lg1).trans c0; go_simp <;> with_reducible rfl)); try simp only [Act.put, List.setIfInBounds_toArray, List.set_cons_zero, List.set_cons_succ])
          refine seg_run rfl (fun K hK => ?_)
          go_simp
          refine named_k ?_
          intro Y hY
          have QY := Lib.hid (pk_row7e QX.out hY)
          have hbY := pk_but7e hY
          have HALL := Lib.hid (hall_but HALL.out hbY QX.out)
          have OC := Lib.hid (ofr_butT OC.out hbY QX.out)
          have HB := HB.trans (hbY.below.mono HGX)
          clear hY hbY
          refine hK.out _ _ (HB) ?_
          clear hK
          try simp only [Act.put, List.setIfInBounds_toArray, List.set_cons_zero, List.set_cons_succ]
          iterate 2 (refine seg_take (v := ?_) rfl (Or.inl ⟨by rfl, ?_⟩) ?_; rotate_left; (focus (intro w' hw'; have j0 := (hw'.cell (p := ⟨w.heap.size, 0, none⟩) lg1).trans c0; go_simp <;> with_reducible rfl)); try simp only [Act.put, List.setIfInBounds_toArray, List.set_cons_zero, List.set_cons_succ])
          refine seg_done (fun _ => ?_)
          refine wpAnyH_done (by kernel_rfl) ?_ _
          have zY := HB.size
          have R1Y := Lib.hid (frw_up R1.out HB)
          have R2Y := Lib.hid (frw_up R2.out HB)
          have hBY := hB.trans (HB.mono (by omega))
          clear x0 x1 x2 x3 x4 x5 x6 xf c0 c1 cf
          obtain ⟨⟨c0, c1⟩, cf⟩ := sl2_open R1Y.out
          obtain ⟨⟨x0, x1, x2, x3, x4, x5, x6⟩, xf⟩ := pk_open QY.out
          cases all with
          | false =>
            have hEn : E < n := by have := of_decide_eq_false HAL.out.symm; omega
            go_wp2_with fail
            go_roundw
            case rel => exact .inr (.inl ⟨(by go_num), A3, n3, c3, lc, lb, G0, k0, d0, G1, k1, d1, rfl, (show RdFr _ _ _ _ (lc ++ lb) from by simpa using OC.out.rd), fap_next HP3.out HE.out HXL.out, HPB.out, R1Y.out, R2Y.out, (fun h => absurd h (by have := HE.out; omega)), (fun h => (HG1.out h).up HB), hBY⟩)
            case measure => simp [intOf]
          | true =>
            have hEn : E = n := of_decide_eq_true HAL.out.symm
            obtain ⟨rfl, ob⟩ := HALL.out rfl
            have OB := Lib.hid ob
            obtain ⟨⟨y0, y1⟩, yf⟩ := sl2_open R2Y.out
            clear ob
            go_wp2_with fail
            have kZ : ButG (w.heap.size + 1) Y (Y.setCell ⟨w.heap.size + 1, 0, none⟩ (.slice G k dd)) := (ButG.refl _ _).set 0 _
            have rZ := setc_rowT (i := 0) (v := .slice G k dd) R2Y.out
            have oZ := OC.out.but kZ (fun a ha => by have := (OC.out.blk a ha).1; omega)
            go_roundw
            case rel => exact .inr (.inl ⟨(by go_num), A3, n3, c3, lc, lb, G, k, dd, G1, k1, d1, rfl, (show RdFr _ _ _ _ (lc ++ lb) from by simpa using oZ.rd), fap_next HP3.out HE.out HXL.out, HPB.out, kZ.row (by omega) R1Y.out, rZ, (fun _ => gotp_own OB.out kZ (by omega)), (fun h => ((HG1.out h).up HB).but kZ), hBY.trans (kZ.below.mono (by omega))⟩)
            case measure => simp [intOf]
        · skip
          refine op_run rfl (fun K hK => ?_)
          rw [if_pos (by rfl)]
          refine op_pkNew rfl ?_
          intro X pX hpX qX hbX
          have HGX := Nat.le_trans HB.size (Nat.le_of_eq hpX.symm)
          have QX := Lib.hid qX
          have HB := below_then HB hbX
          try (have OC := Lib.hid (OC.out.up hbX); have HALL := Lib.hid (hall_up HALL.out hbX))
          obtain ⟨⟨x0, x1, x2, x3, x4, x5, x6⟩, xf⟩ := pk_open QX.out
          clear hpX qX hbX
          refine hK.out _ _ (HB) ?_
          clear hK
          try simp only [Act.put, List.setIfInBounds_toArray, List.set_cons_zero, List.set_cons_succ]
          refine wpAnyH_seg (by kernel_rfl) (fun _ _ d _ _ h => by first | (cases d <;> exact h) | cases h.1) 0 #[true, true, true, true, true, true, true, true, true, true, true, true, true, true, true, true, true, true, true, true, true, true, true, true, true, true, true, true, true, true] [(19, false), (20, true), (21, true), (22, true), (23, true), (24, true), (26, true), (27, false), (28, true), (29, true)] _ _ _ (by kernel_rfl) (HB) ?_
          refine seg_run rfl (fun K hK => ?_)
          go_simp
          refine (C.out _ (hB.trans (HB.mono (by omega))) (HFR.out.below HB)).mono ?_
          rintro e wC ⟨A3, n3, c3, q0, q4, q5, q3, G, k, dd, lc, rfl, oC, hbC, hP3, hall⟩
          have OC := Lib.hid (oC.mono (base' := wr.heap.size) HB.size)
          have HALL : Hid (all = true → q0 = 0 ∧ OwnB wC wr.heap.size G k dd xs) := Lib.hid (by have hz := HB.size; exact fun h => ⟨(hall h).1, (hall h).2.mono hz⟩)
          have HP3 := Lib.hid hP3
          have HB := below_then HB hbC
          try (have QX := Lib.hid (frw_up QX.out hbC); obtain ⟨⟨x0, x1, x2, x3, x4, x5, x6⟩, xf⟩ := pk_open QX.out)
          clear oC hall hP3
          refine hK.out _ _ (HB) ?_
          clear hK
          try simp only [Act.put, List.setIfInBounds_toArray, List.set_cons_zero, List.set_cons_succ]
          iterate 6 (refine seg_take (v := ?_) rfl (Or.inl ⟨by rfl, ?_⟩) ?_; rotate_left; (focus (intro w' hw'; have j0 := (hw'.cell (p := ⟨w.heap.size, 0, none⟩) lg1).trans c0; go_simp <;> with_reducible rfl)); try simp only [Act.put, List.setIfInBounds_toArray, List.set_cons_zero, List.set_cons_succ])
          refine seg_run rfl (fun K hK => ?_)
          go_simp
          refine named_k ?_
          intro Y hY
          have QY := Lib.hid (pk_row7e QX.out hY)
          have hbY := pk_but7e hY
          have HALL := Lib.hid (hall_but HALL.out hbY QX.out)
          have OC := Lib.hid (ofr_butT OC.out hbY QX.out)
          have HB := HB.trans (hbY.below.mono HGX)
          clear hY hbY
          refine hK.out _ _ (HB) ?_
          clear hK
          try simp only [Act.put, List.setIfInBounds_toArray, List.set_cons_zero, List.set_cons_succ]
          iterate 2 (refine seg_take (v := ?_) rfl (Or.inl ⟨by rfl, ?_⟩) ?_; rotate_left; (focus (intro w' hw'; have j0 := (hw'.cell (p := ⟨w.heap.size, 0, none⟩) lg1).trans c0; go_simp <;> with_reducible rfl)); try simp only [Act.put, List.setIfInBounds_toArray, List.set_cons_zero, List.set_cons_succ])
          refine seg_done (fun _ => ?_)
          refine wpAnyH_done (by kernel_rfl) ?_ _
          have zY := HB.size
          have R1Y := Lib.hid (frw_up R1.out HB)
          have R2Y := Lib.hid (frw_up R2.out HB)
          have hBY := hB.trans (HB.mono (by omega))
          clear x0 x1 x2 x3 x4 x5 x6 xf c0 c1 cf
          obtain ⟨⟨c0, c1⟩, cf⟩ := sl2_open R1Y.out
          obtain ⟨⟨x0, x1, x2, x3, x4, x5, x6⟩, xf⟩ := pk_open QY.out
          cases all with
          | false =>
            have hEn : E < n := by have := of_decide_eq_false HAL.out.symm; omega
            go_wp2_with fail
            go_roundw
            case rel => exact .inr (.inl ⟨(by go_num), A3, n3, c3, lc, lb, G0, k0, d0, G1, k1, d1, rfl, (show RdFr _ _ _ _ (lc ++ lb) from by simpa using OC.out.rd), fap_next HP3.out HE.out HXL.out, HPB.out, R1Y.out, R2Y.out, (fun h => absurd h (by have := HE.out; omega)), (fun h => (HG1.out h).up HB), hBY⟩)
            case measure => simp [intOf]
          | true =>
            have hEn : E = n := of_decide_eq_true HAL.out.symm
            obtain ⟨rfl, ob⟩ := HALL.out rfl
            have OB := Lib.hid ob
            obtain ⟨⟨y0, y1⟩, yf⟩ := sl2_open R2Y.out
            clear ob
            go_wp2_with fail
            have kZ : ButG (w.heap.size + 1) Y (Y.setCell ⟨w.heap.size + 1, 0, none⟩ (.slice G k dd)) := (ButG.refl _ _).set 0 _
            have rZ := setc_rowT (i := 0) (v := .slice G k dd) R2Y.out
            have oZ := OC.out.but kZ (fun a ha => by have := (OC.out.blk a ha).1; omega)
            go_roundw
            case rel => exact .inr (.inl ⟨(by go_num), A3, n3, c3, lc, lb, G, k, dd, G1, k1, d1, rfl, (show RdFr _ _ _ _ (lc ++ lb) from by simpa using oZ.rd), fap_next HP3.out HE.out HXL.out, HPB.out, kZ.row (by omega) R1Y.out, rZ, (fun _ => gotp_own OB.out kZ (by omega)), (fun h => ((HG1.out h).up HB).but kZ), hBY.trans (kZ.below.mono (by omega))⟩)
            case measure => simp [intOf]
    · obtain ⟨L, n2, c2, la, lb, G0, k0, d0, G1, k1, d1, rfl, hfr, hPa, hPb, r1, r2, hg0, hg1, hB⟩ := hS
      obtain ⟨⟨c0, c1⟩, cf⟩ := sl2_open r1
      have lg1 := frw_lt r1
      have lg2 := frw_lt r2
      have HFR := Lib.hid hfr
      have HPA := Lib.hid hPa
      have HPB := Lib.hid hPb
      have R1 := Lib.hid r1
      have R2 := Lib.hid r2
      have HG0 := Lib.hid hg0
      have HG1 := Lib.hid hg1
      clear hfr hPa hPb r1 r2 hg0 hg1
      by_cases hn : m ≤ p
      · have e1 : decide ((m : Int) ≤ (p : Int)) = true := decide_eq_true (by omega)
        have e2 : decide (m ≤ p) = true := decide_eq_true hn
        go_wp2_with fail
        go_roundw
        case rel => exact .inr (.inr ⟨(by go_num), L, n2, c2, la, lb, G0, k0, d0, G1, k1, d1, rfl, HFR.out, HPA.out, fap_skip HPB.out (by have := HYL.out; omega), R1.out, R2.out, HG0.out, (fun _ => HG1.out hn), hB⟩)
        case measure => simp [intOf]
      · have e1 : decide ((m : Int) ≤ (p : Int)) = false := decide_eq_false (by omega)
        have e2 : decide (m ≤ p) = false := decide_eq_false hn
        obtain ⟨E, hE⟩ : ∃ E, E = min (p + 8) m := ⟨_, rfl⟩
        obtain ⟨mo, hmo⟩ : ∃ b, b = decide (E < m) := ⟨_, rfl⟩
        obtain ⟨all, hal⟩ : ∃ b, b = decide (E = m) := ⟨_, rfl⟩
        have e3 : min ((p : Int) + 8) (m : Int) = (E : Int) := by omega
        have e4 : decide ((E : Int) < (m : Int)) = mo := by rw [hmo]; apply decide_eq_decide.2; omega
        have e4n : decide (E < m) = mo := hmo.symm
        have b1 : (p : Int) ≤ (E : Int) := by omega
        have b2 : (E : Int) ≤ (d : Int) := by omega
        have b3 : ¬ (d = p) := by omega
        have hpE : p < E ∧ E ≤ m := by omega
        have e5 : ((E : Int) == (m : Int)) = all := by rw [hal, Bool.eq_iff_iff, beq_iff_eq, decide_eq_true_iff]; omega
        have hn24 : n2 ≤ 3 := by
          have q1 := HFR.out.2.1
          have q2 := HPA.out.l
          have q3 := HPB.out.l
          rw [List.length_append] at q1
          omega
        have HE := Lib.hid hE
        have HMO := Lib.hid hmo
        have HAL := Lib.hid hal
        have C := Lib.hid (fun W (hW : Below w.heap.size w W) (hf : RdFr W L n2 c2 (la ++ lb)) => faTake 1 (by omega) L n2 c2 la lb [] ys m p E (E - p) mo all (some ⟨bb, ob + p, none⟩) (d - p) W (by simpa using hf) (by simpa using FaP.two HPA.out HPB.out (by have := HXL.out; omega) (by have := HYL.out; omega)) (fun x hx => by rw [HPA.out.s x hx]; decide) (by
          have h := ((HB0.out.below hW).take E (by omega)).cutS p (E - p) (by omega) (by omega)
          rw [List.drop_take] at h
          exact h) HYL.out (by omega) (by omega) HPB.out (fun _ => rfl) hn24 hp8 (by omega) HE.out rfl HMO.out HAL.out)
        clear hE hmo hal
        go_wp2_with fail
        refine wp_region_seg (S := fun w' => Below wr.heap.size wr w') 11 #[true, true, true, true, true, true, true, true, true, true, true, true, true, true, true, true, true, true, true, false, false, false, false, false, false, false, false, false, false, false] [(0, true), (1, true), (2, true), (3, true), (4, true), (5, true), (6, true), (7, true), (8, true), (9, true), (10, true), (11, true), (12, true), (13, true), (14, true), (15, true), (16, true), (17, true), (18, true)] (by kernel_rfl) (by kernel_rfl) (fun _ _ d _ _ h => by first | (cases d <;> exact h) | cases h.1) ((Below.refl wr.heap.size wr).drew) ?_
        have HB := (Below.refl wr.heap.size wr).drew
        iterate 19 (refine seg_take (v := ?_) rfl (Or.inl ⟨by rfl, ?_⟩) ?_; rotate_left; (focus (intro w' hw'; have j0 := (hw'.cell (p := ⟨w.heap.size, 1, none⟩) lg1).trans c1; go_simp <;> with_reducible rfl)); try simp only [Act.put, List.setIfInBounds_toArray, List.set_cons_zero, List.set_cons_succ])
        refine seg_done (fun _ => ?_)
        refine wpAnyH_two (i := 19) (j := 25) (f := 10) (by kernel_rfl) ?_ ?_
        · skip
          refine op_run rfl (fun K hK => ?_)
          go_simp
          refine (C.out _ (hB.trans (HB.mono (by omega))) (HFR.out.below HB)).mono ?_
          rintro e wC ⟨A3, n3, c3, q0, q4, q5, q3, G, k, dd, lc, rfl, oC, hbC, hP3, hall⟩
          have OC := Lib.hid (oC.mono (base' := wr.heap.size) HB.size)
          have HALL : Hid (all = true → q0 = 1 ∧ OwnB wC wr.heap.size G k dd ys) := Lib.hid (by have hz := HB.size; exact fun h => ⟨(hall h).1, (hall h).2.mono hz⟩)
          have HP3 := Lib.hid hP3
          have HB := below_then HB hbC
          try (have QX := Lib.hid (frw_up QX.out hbC); obtain ⟨⟨x0, x1, x2, x3, x4, x5, x6⟩, xf⟩ := pk_open QX.out)
          clear oC hall hP3
          refine hK.out _ _ (HB) ?_
          clear hK
          try simp only [Act.put, List.setIfInBounds_toArray, List.set_cons_zero, List.set_cons_succ]
          refine wpAnyH_seg (by kernel_rfl) (fun _ _ d _ _ h => by first | (cases d <;> exact h) | cases h.1) 0 #[true, true, true, true, true, true, true, true, true, true, true, true, true, true, true, true, true, true, true, true, true, true, true, true, true, true, true, true, true, true] [(20, true), (21, true), (22, true), (23, true), (24, true), (25, false), (26, true), (27, false), (28, true), (29, true)] _ _ _ (by kernel_rfl) (HB) ?_
          iterate 5 (refine seg_take (v := ?_) rfl (Or.inl ⟨by rfl, ?_⟩) ?_; rotate_left; (focus (intro w' hw'; have j0 := (hw'.cell (p := ⟨w.heap.size, 1, none⟩) lg1).trans c1; go_simp <;> with_reducible rfl)); try simp only [Act.put, List.setIfInBounds_toArray, List.set_cons_zero, List.set_cons_succ])
          refine seg_run rfl (fun K hK => ?_)
          rw [if_pos (by rfl)]
          refine op_pkNew rfl ?_
          intro X pX hpX qX hbX
          have HGX := Nat.le_trans HB.size (Nat.le_of_eq hpX.symm)
          have QX := Lib.hid qX
          have HB := below_then HB hbX
          try (have OC := Lib.hid (OC.out.up hbX); have HALL := Lib.hid (hall_up HALL.out hbX))
          obtain ⟨⟨x0, x1, x2, x3, x4, x5, x6⟩, xf⟩ := pk_open QX.out
          clear hpX qX hbX
          refine hK.out _ _ (HB) ?_
          clear hK
          try simp only [Act.put, List.setIfInBounds_toArray, List.set_cons_zero, List.set_cons_succ]
          iterate 1 (refine seg_take (v := ?_) rfl (Or.inl ⟨by rfl, ?_⟩) ?_; rotate_left; (focus (intro w' hw'; have j0 := (hw'.cell (p := ⟨w.heap.size, 1, none⟩) lg1).trans c1; go_simp <;> with_reducible rfl)); try simp only [Act.put, List.setIfInBounds_toArray, List.set_cons_zero, List.set_cons_succ])
          refine seg_run rfl (fun K hK => ?_)
          go_simp
          refine named_k ?_
          intro Y hY
          have QY := Lib.hid (pk_row7e QX.out hY)
          have hbY := pk_but7e hY
          have HALL := Lib.hid (hall_but HALL.out hbY QX.out)
          have OC := Lib.hid (ofr_butT OC.out hbY QX.out)
          have HB := HB.trans (hbY.below.mono HGX)
          clear hY hbY
          refine hK.out _ _ (HB) ?_
          clear hK
          try simp only [Act.put, List.setIfInBounds_toArray, List.set_cons_zero, List.set_cons_succ]
          iterate 2 (refine seg_take (v := ?_) rfl (Or.inl ⟨by rfl, ?_⟩) ?_; rotate_left; (focus (intro w' hw'; have j0 := (hw'.cell (p := ⟨w.heap.size, 1, none⟩) lg1).trans c1; go_simp <;> with_reducible rfl)); try simp only [Act.put, List.setIfInBounds_toArray, List.set_cons_zero, List.set_cons_succ])
          refine seg_done (fun _ => ?_)
          refine wpAnyH_done (by kernel_rfl) ?_ _
          have zY := HB.size
          have R1Y := Lib.hid (frw_up R1.out HB)
          have R2Y := Lib.hid (frw_up R2.out HB)
          have hBY := hB.trans (HB.mono (by omega))
          clear x0 x1 x2 x3 x4 x5 x6 xf c0 c1 cf
          obtain ⟨⟨c0, c1⟩, cf⟩ := sl2_open R1Y.out
          obtain ⟨⟨x0, x1, x2, x3, x4, x5, x6⟩, xf⟩ := pk_open QY.out
          cases all with
          | false =>
            have hEn : E < m := by have := of_decide_eq_false HAL.out.symm; omega
            go_wp2_with fail
            go_roundw
            case rel => exact .inr (.inr ⟨(by go_num), A3, n3, c3, la, lc, G0, k0, d0, G1, k1, d1, rfl, (show RdFr _ _ _ _ (la ++ lc) from by simpa using OC.out.rd), HPA.out, fap_next HP3.out HE.out HYL.out, R1Y.out, R2Y.out, (fun h => (HG0.out h).up HB), (fun h => absurd h (by have := HE.out; omega)), hBY⟩)
            case measure => simp [intOf]
          | true =>
            have hEn : E = m := of_decide_eq_true HAL.out.symm
            obtain ⟨rfl, ob⟩ := HALL.out rfl
            have OB := Lib.hid ob
            obtain ⟨⟨y0, y1⟩, yf⟩ := sl2_open R2Y.out
            clear ob
            go_wp2_with fail
            have kZ : ButG (w.heap.size + 1) Y (Y.setCell ⟨w.heap.size + 1, 1, none⟩ (.slice G k dd)) := (ButG.refl _ _).set 1 _
            have rZ := setc_rowT (i := 1) (v := .slice G k dd) R2Y.out
            have oZ := OC.out.but kZ (fun a ha => by have := (OC.out.blk a ha).1; omega)
            go_roundw
            case rel => exact .inr (.inr ⟨(by go_num), A3, n3, c3, la, lc, G0, k0, d0, G, k, dd, rfl, (show RdFr _ _ _ _ (la ++ lc) from by simpa using oZ.rd), HPA.out, fap_next HP3.out HE.out HYL.out, kZ.row (by omega) R1Y.out, rZ, (fun h => ((HG0.out h).up HB).but kZ), (fun _ => gotp_own OB.out kZ (by omega)), hBY.trans (kZ.below.mono (by omega))⟩)
            case measure => simp [intOf]
        · skip
          refine op_run rfl (fun K hK => ?_)
          rw [if_pos (by rfl)]
          refine op_pkNew rfl ?_
          intro X pX hpX qX hbX
          have HGX := Nat.le_trans HB.size (Nat.le_of_eq hpX.symm)
          have QX := Lib.hid qX
          have HB := below_then HB hbX
          try (have OC := Lib.hid (OC.out.up hbX); have HALL := Lib.hid (hall_up HALL.out hbX))
          obtain ⟨⟨x0, x1, x2, x3, x4, x5, x6⟩, xf⟩ := pk_open QX.out
          clear hpX qX hbX
          refine hK.out _ _ (HB) ?_
          clear hK
          try simp only [Act.put, List.setIfInBounds_toArray, List.set_cons_zero, List.set_cons_succ]
          refine wpAnyH_seg (by kernel_rfl) (fun _ _ d _ _ h => by first | (cases d <;> exact h) | cases h.1) 0 #[true, true, true, true, true, true, true, true, true, true, true, true, true, true, true, true, true, true, true, true, true, true, true, true, true, true, true, true, true, true] [(19, false), (20, true), (21, true), (22, true), (23, true), (24, true), (26, true), (27, false), (28, true), (29, true)] _ _ _ (by kernel_rfl) (HB) ?_
          refine seg_run rfl (fun K hK => ?_)
          go_simp
          refine (C.out _ (hB.trans (HB.mono (by omega))) (HFR.out.below HB)).mono ?_
          rintro e wC ⟨A3, n3, c3, q0, q4, q5, q3, G, k, dd, lc, rfl, oC, hbC, hP3, hall⟩
          have OC := Lib.hid (oC.mono (base' := wr.heap.size) HB.size)
          have HALL : Hid (all = true → q0 = 1 ∧ OwnB wC wr.heap.size G k dd ys) := Lib.hid (by have hz := HB.size; exact fun h => ⟨(hall h).1, (hall h).2.mono hz⟩)
          have HP3 := Lib.hid hP3
          have HB := below_then HB hbC
          try (have QX := Lib.hid (frw_up QX.out hbC); obtain ⟨⟨x0, x1, x2, x3, x4, x5, x6⟩, xf⟩ := pk_open QX.out)
          clear oC hall hP3
          refine hK.out _ _ (HB) ?_
          clear hK
          try simp only [Act.put, List.setIfInBounds_toArray, List.set_cons_zero, List.set_cons_succ]
          iterate 6 (refine seg_take (v := ?_) rfl (Or.inl ⟨by rfl, ?_⟩) ?_; rotate_left; (focus (intro w' hw'; have j0 := (hw'.cell (p := ⟨w.heap.size, 1, none⟩) lg1).trans c1; go_simp <;> with_reducible rfl)); try simp only [Act.put, List.setIfInBounds_toArray, List.set_cons_zero, List.set_cons_succ])
          refine seg_run rfl (fun K hK => ?_)
          go_simp
          refine named_k ?_
          intro Y hY
          have QY := Lib.hid (pk_row7e QX.out hY)
          have hbY := pk_but7e hY
          have HALL := Lib.hid (hall_but HALL.out hbY QX.out)
          have OC := Lib.hid (ofr_butT OC.out hbY QX.out)
          have HB := HB.trans (hbY.below.mono HGX)
          clear hY hbY
          refine hK.out _ _ (HB) ?_
          clear hK
          try simp only [Act.put, List.setIfInBounds_toArray, List.set_cons_zero, List.set_cons_succ]
          iterate 2 (refine seg_take (v := ?_) rfl (Or.inl ⟨by rfl, ?_⟩) ?_; rotate_left; (focus (intro w' hw'; have j0 := (hw'.cell (p := ⟨w.heap.size, 1, none⟩) lg1).trans c1; go_simp <;> with_reducible rfl)); try simp only [Act.put, List.setIfInBounds_toArray, List.set_cons_zero, List.set_cons_succ])
          refine seg_done (fun _ => ?_)
          refine wpAnyH_done (by kernel_rfl) ?_ _
          have zY := HB.size
          have R1Y := Lib.hid (frw_up R1.out HB)
          have R2Y := Lib.hid (frw_up R2.out HB)
          have hBY := hB.trans (HB.mono (by omega))
          clear x0 x1 x2 x3 x4 x5 x6 xf c0 c1 cf
          obtain ⟨⟨c0, c1⟩, cf⟩ := sl2_open R1Y.out
          obtain ⟨⟨x0, x1, x2, x3, x4, x5, x6⟩, xf⟩ := pk_open QY.out
          cases all with
          | false =>
            have hEn : E < m := by have := of_decide_eq_false HAL.out.symm; omega
            go_wp2_with fail
            go_roundw
            case rel => exact .inr (.inr ⟨(by go_num), A3, n3, c3, la, lc, G0, k0, d0, G1, k1, d1, rfl, (show RdFr _ _ _ _ (la ++ lc) from by simpa using OC.out.rd), HPA.out, fap_next HP3.out HE.out HYL.out, R1Y.out, R2Y.out, (fun h => (HG0.out h).up HB), (fun h => absurd h (by have := HE.out; omega)), hBY⟩)
            case measure => simp [intOf]
          | true =>
            have hEn : E = m := of_decide_eq_true HAL.out.symm
            obtain ⟨rfl, ob⟩ := HALL.out rfl
            have OB := Lib.hid ob
            obtain ⟨⟨y0, y1⟩, yf⟩ := sl2_open R2Y.out
            clear ob
            go_wp2_with fail
            have kZ : ButG (w.heap.size + 1) Y (Y.setCell ⟨w.heap.size + 1, 1, none⟩ (.slice G k dd)) := (ButG.refl _ _).set 1 _
            have rZ := setc_rowT (i := 1) (v := .slice G k dd) R2Y.out
            have oZ := OC.out.but kZ (fun a ha => by have := (OC.out.blk a ha).1; omega)
            go_roundw
            case rel => exact .inr (.inr ⟨(by go_num), A3, n3, c3, la, lc, G0, k0, d0, G, k, dd, rfl, (show RdFr _ _ _ _ (la ++ lc) from by simpa using oZ.rd), HPA.out, fap_next HP3.out HE.out HYL.out, kZ.row (by omega) R1Y.out, rZ, (fun h => ((HG0.out h).up HB).but kZ), (fun _ => gotp_own OB.out kZ (by omega)), hBY.trans (kZ.below.mono (by omega))⟩)
            case measure => simp [intOf]
    · have HS := Lib.hid hS
      clear hS
      go_wp2_with fail
      go_roundw
      case rel => exact ⟨p + 8, by omega, by omega, by go_num, HS.out⟩
      case measure => simp [intOf]; omega
  · obtain rfl : p = 128 := by omega
    obtain ⟨L, n2, c2, la, lb, G0, k0, d0, G1, k1, d1, rfl, hfr, hPa, hPb, r1, r2, hg0, hg1, hB⟩ := hS
    obtain rfl : la = [] := by
      rcases hPa with ⟨_, h⟩ | ⟨_, h, _⟩
      · exact h
      · have := HXL.out; omega
    obtain rfl : lb = [] := by
      rcases hPb with ⟨_, h⟩ | ⟨_, h, _⟩
      · exact h
      · have := HYL.out; omega
    obtain rfl : 0 = n2 := hfr.2.1
    have RG0 := Lib.hid (hg0 h2).1
    have RG1 := Lib.hid (hg1 h4).1
    have hA1 := Lib.hid (HA.out.below hB)
    have hB1 := Lib.hid (HB0.out.below hB)
    obtain rfl : n = k0 := by rw [← RG0.out.2.1]; exact HXL.out.symm
    obtain rfl : m = k1 := by rw [← RG1.out.2.1]; exact HYL.out.symm
    obtain ⟨⟨y0, y1⟩, yf⟩ := sl2_open r2
    clear hfr hPa hPb r1 r2 hg0 hg1 hlt
    go_wp2_with fail
    have hh := bytes_any G0 (some ⟨ba, oa, none⟩) n d0 n c xs xs wr RG0.out hA1.out
    rw [decide_eq_true rfl] at hh
    refine hh.mono ?_
    clear hh
    rintro e w7 ⟨rfl, rfl⟩
    go_wp2_with fail
    have hh := bytes_any G1 (some ⟨bb, ob, none⟩) m d1 m d ys ys wr RG1.out hB1.out
    rw [decide_eq_true rfl] at hh
    refine hh.mono ?_
    clear hh
    rintro e w7 ⟨rfl, rfl⟩
    go_wp2_with fail
    refine (heads21 _).mono ?_
    rintro e w8 ⟨rfl, hb8⟩
    go_wp2_with fail
    go_ret
    exact ⟨rfl, hB.trans (hb8.mono (by have := hB.size; omega))⟩
theorem fa_law (A : Option Addr) (n c : Nat) (xs : List UInt8) (B : Option Addr) (m d : Nat) (ys : List UInt8) (w : World) (ha : RdB w A n c xs) (hb : RdB w B m d ys) :
    Calls Try.prog 7 #[.slice A n c, .slice B m d] w (RetV w (.bool true)) := by
  by_cases h : n < 9 ∨ 128 < n ∨ m < 9 ∨ 128 < m
  · exact fa_early A n c xs B m d ys w ha hb h
  · exact fa_main A n c xs B m d ys w ha hb (by omega) (by omega) (by omega) (by omega)
end Go.Proofs.Yteajboafcjeagaa
