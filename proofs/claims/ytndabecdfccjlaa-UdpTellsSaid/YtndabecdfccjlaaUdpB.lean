/-
  Layer 23: Get of the package.
-/
import Derived.Test.YtndabecdfccjlaaUdp
namespace Go.Proofs.Ytndabecdfccjlaa
set_option maxRecDepth 20000
open Go.RowKit
set_option linter.unusedVariables false
set_option linter.unusedSimpArgs false
set_option maxHeartbeats 8000000

def udGetE (src dst : Nat) (xs : List UInt8) : Int :=
  if xs.length < 8 then 5 else if xs.length < fld xs 4 2 then 5 else if fld xs 4 2 < 8 ∨ fld xs 0 2 = 0 ∨ fld xs 2 2 = 0 then 3
  else if fld xs 6 2 ≠ 0 ∧ ipSumN src dst 17 (xs.take (fld xs 4 2)) ≠ 0 then 6 else 0
def udF (src dst : Nat) (xs : List UInt8) : Nat := if udGetE src dst xs = 0 then fld xs 0 2 else 0
def udT (src dst : Nat) (xs : List UInt8) : Nat := if udGetE src dst xs = 0 then fld xs 2 2 else 0
def udD (src dst : Nat) (xs : List UInt8) : List UInt8 := if udGetE src dst xs = 0 then (xs.take (fld xs 4 2)).drop 8 else []
def RetUd (w : World) (f t : Nat) (ds : List UInt8) (er : Int) (e : Ending) (w' : World) : Prop := ∃ A n c, e = .returned (.tuple #[.int .i64 (f : Int), .int .i64 (t : Int), .slice A n c, .int .i64 er]) ∧ RdB w' A n c ds ∧ Below w.heap.size w w'
/-- Which way a text goes: n bytes, that say L, F, T, Z; their sum. -/
def UdWay (n L F T Z S : Nat) (er : Int) : Prop :=
  (n < L ∧ er = 5) ∨ (L ≤ n ∧ L < 8 ∧ er = 3) ∨ (L ≤ n ∧ 8 ≤ L ∧ F = 0 ∧ er = 3) ∨ (L ≤ n ∧ 8 ≤ L ∧ F ≠ 0 ∧ T = 0 ∧ er = 3) ∨ (L ≤ n ∧ 8 ≤ L ∧ F ≠ 0 ∧ T ≠ 0 ∧ Z ≠ 0 ∧ S ≠ 0 ∧ er = 6) ∨ (L ≤ n ∧ 8 ≤ L ∧ F ≠ 0 ∧ T ≠ 0 ∧ Z = 0 ∧ er = 0) ∨ (L ≤ n ∧ 8 ≤ L ∧ F ≠ 0 ∧ T ≠ 0 ∧ Z ≠ 0 ∧ S = 0 ∧ er = 0)
theorem ud_cases (src dst : Nat) (xs : List UInt8) (n : Nat) (hn : xs.length = n) : (n < 8 ∧ udGetE src dst xs = 5) ∨ (8 ≤ n ∧ UdWay n (fld xs 4 2) (fld xs 0 2) (fld xs 2 2) (fld xs 6 2) (ipSumN src dst 17 (xs.take (fld xs 4 2))) (udGetE src dst xs)) := by
  unfold udGetE
  rw [hn]
  by_cases h1 : n < 8
  · exact .inl ⟨h1, if_pos h1⟩
  · right
    refine ⟨by omega, ?_⟩
    rw [if_neg h1]
    unfold UdWay
    by_cases h2 : n < fld xs 4 2
    · exact .inl ⟨h2, if_pos h2⟩
    · rw [if_neg h2]; right
      by_cases h3 : fld xs 4 2 < 8
      · exact .inl ⟨by omega, h3, if_pos (.inl h3)⟩
      · right
        by_cases h4 : fld xs 0 2 = 0
        · exact .inl ⟨by omega, by omega, h4, if_pos (.inr (.inl h4))⟩
        · right
          by_cases h5 : fld xs 2 2 = 0
          · exact .inl ⟨by omega, by omega, h4, h5, if_pos (.inr (.inr h5))⟩
          · right
            rw [if_neg (by intro h; rcases h with h | h | h <;> first | exact h3 h | exact h4 h | exact h5 h)]
            by_cases h6 : fld xs 6 2 = 0
            · right; left; exact ⟨by omega, by omega, h4, h5, h6, if_neg (fun h => h.1 h6)⟩
            · by_cases h7 : ipSumN src dst 17 (xs.take (fld xs 4 2)) = 0
              · right; right; exact ⟨by omega, by omega, h4, h5, h6, h7, if_neg (fun h => h.2 h7)⟩
              · left; exact ⟨by omega, by omega, h4, h5, h6, h7, if_pos ⟨h6, h7⟩⟩
theorem portOk_nat (F : Nat) (h : F < 65536) : portOk (F : Int) = decide (F ≠ 0) := by
  unfold portOk; rw [Bool.eq_iff_iff, decide_eq_true_iff, decide_eq_true_iff]; omega

theorem udpGet_short (src dst : Nat) (A : Option Addr) (n c : Nat) (xs : List UInt8) (w : World) (hsrc : src < 4294967296) (hdst : dst < 4294967296) (hr : RdB w A n c xs) (hn : n ≤ 900000) (h : n < 8) : Calls Try.prog 22 #[.int .u32 src, .int .u32 dst, .slice A n c] w (RetUd w 0 0 [] 5) := by
  have d1 : decide ((n : Int) < 8) = true := decide_eq_true (by omega)
  go_enter Try.func22, Try.ntmps22
  go_wp2
  refine bodyPost_ret (v := .tuple #[.int .i64 0, .int .i64 0, .slice none 0 0, .int .i64 5]) (by simp [results, Try.results22, go_sem]) rfl ?_
  exact ⟨none, 0, 0, rfl, RdB.nilB _, (below_self w).alloc (Nat.le_refl _) _⟩

theorem udpGet_ways (src dst : Nat) (A : Option Addr) (n c : Nat) (xs : List UInt8) (w : World) (hsrc : src < 4294967296) (hdst : dst < 4294967296) (hr : RdB w A n c xs) (hn : n ≤ 900000) (h8 : 8 ≤ n) (er : Int) (hw : UdWay n (fld xs 4 2) (fld xs 0 2) (fld xs 2 2) (fld xs 6 2) (ipSumN src dst 17 (xs.take (fld xs 4 2))) er) (f t : Nat) (ds : List UInt8) (hf : (er = 0 ∧ f = fld xs 0 2 ∧ t = fld xs 2 2 ∧ ds = (xs.take (fld xs 4 2)).drop 8) ∨ (er ≠ 0 ∧ f = 0 ∧ t = 0 ∧ ds = [])) : Calls Try.prog 22 #[.int .u32 src, .int .u32 dst, .slice A n c] w (RetUd w f t ds er) := by
  have hl := hr.2.1
  have hnc := hr.2.2.1
  have hc63 := hr.c63
  have d1 : decide ((n : Int) < 8) = false := decide_eq_false (by omega)
  obtain ⟨b, o, u, rfl, hbl, _⟩ := hr.at_ 0 (by omega)
  obtain ⟨L, eL⟩ : ∃ L, fld xs 4 2 = L := ⟨_, rfl⟩
  obtain ⟨F, eF⟩ : ∃ L, fld xs 0 2 = L := ⟨_, rfl⟩
  obtain ⟨T, eT⟩ : ∃ L, fld xs 2 2 = L := ⟨_, rfl⟩
  obtain ⟨Z, eZ⟩ : ∃ L, fld xs 6 2 = L := ⟨_, rfl⟩
  have bL : L < 65536 := by rw [← eL]; exact fld_lt xs 4 2
  have bF : F < 65536 := by rw [← eF]; exact fld_lt xs 0 2
  have bT : T < 65536 := by rw [← eT]; exact fld_lt xs 2 2
  have bZ : Z < 65536 := by rw [← eZ]; exact fld_lt xs 6 2
  rw [eL, eF, eT, eZ] at hw
  rw [eL, eF, eT] at hf
  obtain ⟨S, eS⟩ : ∃ S, ipSumN src dst 17 (xs.take L) = S := ⟨ipSumN src dst 17 (xs.take L), rfl⟩
  rw [eS] at hw
  have HW := Lib.hid hw
  have HFF := Lib.hid hf
  have EL := Lib.hid eL
  have EF := Lib.hid eF
  have ET := Lib.hid eT
  have EZ := Lib.hid eZ
  have ES := Lib.hid eS
  have PF := portOk_nat F bF
  have PT := portOk_nat T bT
  clear hw hf eL eF eT eZ eS
  go_enter Try.func22, Try.ntmps22
  go_wp2_with fail
  refine named ?_
  intro W1 hW1
  have bW1 : Below w.heap.size w W1 := by rw [hW1]; repeat' (first | exact Below.refl _ _ | (refine Below.alloc ?_ ?_ _; rotate_left; (simp <;> omega)) | refine Below.drew ?_)
  have zW1 := bW1.size
  have c1 : W1.cell? ⟨w.heap.size, 0, none⟩ = some (.slice (some ⟨b, o, none⟩) n c) := by rw [hW1]; exact cell_of_row _ _ 0 _ _ _ (row1 ..)
  have HW1 := Lib.hid hW1
  clear hW1
  have r1 := hr.below bW1
  refine (udpget1_any 0 _ n c xs w.heap.size W1 r1 (by omega) c1).mono ?_
  rintro e w2 ⟨rfl, rfl⟩
  rw [EF.out]
  go_wp2_with fail
  refine (udpget1_any 2 _ n c xs w.heap.size W1 r1 (by omega) c1).mono ?_
  rintro e w2 ⟨rfl, rfl⟩
  rw [ET.out]
  go_wp2_with fail
  refine (udpget1_any 4 _ n c xs w.heap.size W1 r1 (by omega) c1).mono ?_
  rintro e w2 ⟨rfl, rfl⟩
  rw [EL.out]
  go_wp2_with fail
  refine (udpget1_any 6 _ n c xs w.heap.size W1 r1 (by omega) c1).mono ?_
  rintro e w2 ⟨rfl, rfl⟩
  rw [EZ.out]
  rcases HW.out with ⟨g1, rfl⟩ | ⟨g1, g2, rfl⟩ | ⟨g1, g2, g3, rfl⟩ | ⟨g1, g2, g3, g4, rfl⟩ | ⟨g1, g2, g3, g4, g5, g6, rfl⟩ | ⟨g1, g2, g3, g4, g5, rfl⟩ | ⟨g1, g2, g3, g4, g5, g6, rfl⟩
  · skip
    have k1 : decide ((n : Int) < (L : Int)) = true := decide_eq_true (by omega)
    have k1n : decide (n < L) = true := decide_eq_true (by omega)
    obtain ⟨f1, f2, f3⟩ := (HFF.out.resolve_left (fun h => absurd h.1 (by decide))).2
    go_wp2
    refine bodyPost_ret (v := .tuple #[.int .i64 0, .int .i64 0, .slice none 0 0, .int .i64 5]) (by simp [results, Try.results22, go_sem]) rfl ?_
    exact ⟨none, 0, 0, by rw [f1, f2]; rfl, by rw [f3]; exact RdB.nilB _, bW1⟩
  · skip
    have k1 : decide ((n : Int) < (L : Int)) = false := decide_eq_false (by omega)
    have k1n : decide (n < L) = false := decide_eq_false (by omega)
    have k2 : decide ((L : Int) < 8) = true := decide_eq_true (by omega)
    have k2n : decide (L < 8) = true := decide_eq_true (by omega)
    obtain ⟨f1, f2, f3⟩ := (HFF.out.resolve_left (fun h => absurd h.1 (by decide))).2
    go_wp2
    refine bodyPost_ret (v := .tuple #[.int .i64 0, .int .i64 0, .slice none 0 0, .int .i64 3]) (by simp [results, Try.results22, go_sem]) rfl ?_
    exact ⟨none, 0, 0, by rw [f1, f2]; rfl, by rw [f3]; exact RdB.nilB _, bW1⟩
  · skip
    have k1 : decide ((n : Int) < (L : Int)) = false := decide_eq_false (by omega)
    have k1n : decide (n < L) = false := decide_eq_false (by omega)
    have k2 : decide ((L : Int) < 8) = false := decide_eq_false (by omega)
    have k2n : decide (L < 8) = false := decide_eq_false (by omega)
    subst g3
    go_wp2_with fail
    have hh := udpPort_any 0 W1
    rw [show portOk 0 = false by decide] at hh
    refine hh.mono ?_
    clear hh
    rintro e w2 ⟨rfl, rfl⟩
    obtain ⟨f1, f2, f3⟩ := (HFF.out.resolve_left (fun h => absurd h.1 (by decide))).2
    go_wp2
    refine bodyPost_ret (v := .tuple #[.int .i64 0, .int .i64 0, .slice none 0 0, .int .i64 3]) (by simp [results, Try.results22, go_sem]) rfl ?_
    exact ⟨none, 0, 0, by rw [f1, f2]; rfl, by rw [f3]; exact RdB.nilB _, bW1⟩
  · skip
    have k1 : decide ((n : Int) < (L : Int)) = false := decide_eq_false (by omega)
    have k1n : decide (n < L) = false := decide_eq_false (by omega)
    have k2 : decide ((L : Int) < 8) = false := decide_eq_false (by omega)
    have k2n : decide (L < 8) = false := decide_eq_false (by omega)
    subst g4
    go_wp2_with fail
    refine (udpPort_any (F : Int) W1).mono ?_
    rintro e w2 ⟨rfl, rfl⟩
    rw [PF, show decide (F ≠ 0) = true from decide_eq_true g3]
    go_wp2_with fail
    have hh := udpPort_any 0 W1
    rw [show portOk 0 = false by decide] at hh
    refine hh.mono ?_
    clear hh
    rintro e w2 ⟨rfl, rfl⟩
    obtain ⟨f1, f2, f3⟩ := (HFF.out.resolve_left (fun h => absurd h.1 (by decide))).2
    go_wp2
    refine bodyPost_ret (v := .tuple #[.int .i64 0, .int .i64 0, .slice none 0 0, .int .i64 3]) (by simp [results, Try.results22, go_sem]) rfl ?_
    exact ⟨none, 0, 0, by rw [f1, f2]; rfl, by rw [f3]; exact RdB.nilB _, bW1⟩
  · skip
    have k1 : decide ((n : Int) < (L : Int)) = false := decide_eq_false (by omega)
    have k1n : decide (n < L) = false := decide_eq_false (by omega)
    have k2 : decide ((L : Int) < 8) = false := decide_eq_false (by omega)
    have k2n : decide (L < 8) = false := decide_eq_false (by omega)
    have k3 : ((Z : Int) != 0) = true := by rw [bne_iff_ne]; omega
    have kc1 : (0 : Int) ≤ (L : Int) := by omega
    have kc2 : (L : Int) ≤ (c : Int) := by omega
    have k4 : ((S : Int) != 0) = true := by rw [bne_iff_ne]; omega
    go_wp2_with fail
    refine (udpPort_any (F : Int) W1).mono ?_
    rintro e w2 ⟨rfl, rfl⟩
    rw [PF, show decide (F ≠ 0) = true from decide_eq_true g3]
    go_wp2_with fail
    refine (udpPort_any (T : Int) W1).mono ?_
    rintro e w2 ⟨rfl, rfl⟩
    rw [PT, show decide (T ≠ 0) = true from decide_eq_true g4]
    go_wp2_with fail
    refine wp_region_plan (S := fun w' => Below W1.heap.size W1 w') [(0, true), (1, true), (2, true), (3, true), (4, true), (6, true), (7, true), (8, true), (5, false), (9, false), (10, true), (11, true), (12, true)] (by kernel_rfl) (by kernel_rfl) (fun _ _ d _ _ h => by cases d <;> exact h) ((Below.refl _ W1).drew) ?_
    iterate 3 (refine plan_take (v := ?_) rfl (Or.inl ⟨by rfl, ?_⟩) ?_; rotate_left; (focus (intro w' hw'; have j1 := (hw'.cell (p := ⟨w.heap.size, 0, none⟩) (by show w.heap.size < W1.heap.size; rw [HW1.out]; simp)).trans c1; go_simp <;> with_reducible rfl)); try simp only [Act.put, List.setIfInBounds_toArray, List.set_cons_zero, List.set_cons_succ])
    iterate 5 ((first | refine plan_take (v := undef) rfl (Or.inr ⟨by rfl, rfl⟩) ?_ | (refine plan_take (v := ?_) rfl (Or.inl ⟨by rfl, ?_⟩) ?_; rotate_left; (focus (intro w' hw'; have j1 := (hw'.cell (p := ⟨w.heap.size, 0, none⟩) (by show w.heap.size < W1.heap.size; rw [HW1.out]; simp)).trans c1; go_simp <;> with_reducible rfl)))); try simp only [Act.put, List.setIfInBounds_toArray, List.set_cons_zero, List.set_cons_succ])
    refine plan_run rfl (fun K hK => ?_)
    go_simp
    refine (summing_any src dst W1.drew).mono ?_
    rintro e v2 ⟨gg, hg_, rfl, cg, ch, hv2⟩
    refine hK.out _ _ (undrew hv2) ?_
    clear hK
    try simp only [Act.put, List.setIfInBounds_toArray, List.set_cons_zero, List.set_cons_succ]
    refine plan_run rfl (fun K hK => ?_)
    go_simp
    have hq := summing1_any src dst gg hg_ (some ⟨b, o, none⟩) L c (xs.take L) v2 hsrc hdst cg ch ((r1.below (undrew hv2)).take L g1) (by omega)
    rw [ES.out] at hq
    refine hq.mono ?_
    clear hq
    rintro e v3 ⟨rfl, hv3⟩
    refine hK.out _ _ (below_then (undrew hv2) hv3) ?_
    clear hK
    try simp only [Act.put, List.setIfInBounds_toArray, List.set_cons_zero, List.set_cons_succ]
    iterate 1 ((first | refine plan_take (v := undef) rfl (Or.inr ⟨by rfl, rfl⟩) ?_ | (refine plan_take (v := ?_) rfl (Or.inl ⟨by rfl, ?_⟩) ?_; rotate_left; (focus (intro w' hw'; have j1 := (hw'.cell (p := ⟨w.heap.size, 0, none⟩) (by show w.heap.size < W1.heap.size; rw [HW1.out]; simp)).trans c1; go_simp <;> with_reducible rfl)))); try simp only [Act.put, List.setIfInBounds_toArray, List.set_cons_zero, List.set_cons_succ])
    iterate 2 (refine plan_take (v := ?_) rfl (Or.inl ⟨by rfl, ?_⟩) ?_; rotate_left; (focus (intro w' hw'; have j1 := (hw'.cell (p := ⟨w.heap.size, 0, none⟩) (by show w.heap.size < W1.heap.size; rw [HW1.out]; simp)).trans c1; go_simp <;> with_reducible rfl)); try simp only [Act.put, List.setIfInBounds_toArray, List.set_cons_zero, List.set_cons_succ])
    refine plan_done ?_
    have B3 := below_then bW1 (below_then (undrew hv2) hv3)
    obtain ⟨f1, f2, f3⟩ := (HFF.out.resolve_left (fun h => absurd h.1 (by decide))).2
    go_wp2
    refine bodyPost_ret (v := .tuple #[.int .i64 0, .int .i64 0, .slice none 0 0, .int .i64 6]) (by simp [results, Try.results22, go_sem]) rfl ?_
    exact ⟨none, 0, 0, by rw [f1, f2]; rfl, by rw [f3]; exact RdB.nilB _, B3⟩
  · skip
    have k1 : decide ((n : Int) < (L : Int)) = false := decide_eq_false (by omega)
    have k1n : decide (n < L) = false := decide_eq_false (by omega)
    have k2 : decide ((L : Int) < 8) = false := decide_eq_false (by omega)
    have k2n : decide (L < 8) = false := decide_eq_false (by omega)
    subst g5
    go_wp2_with fail
    refine (udpPort_any (F : Int) W1).mono ?_
    rintro e w2 ⟨rfl, rfl⟩
    rw [PF, show decide (F ≠ 0) = true from decide_eq_true g3]
    go_wp2_with fail
    refine (udpPort_any (T : Int) W1).mono ?_
    rintro e w2 ⟨rfl, rfl⟩
    rw [PT, show decide (T ≠ 0) = true from decide_eq_true g4]
    go_wp2_with fail
    refine wp_region_plan (S := fun w' => Below W1.heap.size W1 w') [(0, true), (1, true), (2, true), (3, true), (4, true), (6, true), (7, true), (8, true), (5, false), (9, false), (10, true), (11, true), (12, true)] (by kernel_rfl) (by kernel_rfl) (fun _ _ d _ _ h => by cases d <;> exact h) ((Below.refl _ W1).drew) ?_
    iterate 3 (refine plan_take (v := ?_) rfl (Or.inl ⟨by rfl, ?_⟩) ?_; rotate_left; (focus (intro w' hw'; have j1 := (hw'.cell (p := ⟨w.heap.size, 0, none⟩) (by show w.heap.size < W1.heap.size; rw [HW1.out]; simp)).trans c1; go_simp <;> with_reducible rfl)); try simp only [Act.put, List.setIfInBounds_toArray, List.set_cons_zero, List.set_cons_succ])
    iterate 5 ((first | refine plan_take (v := undef) rfl (Or.inr ⟨by rfl, rfl⟩) ?_ | (refine plan_take (v := ?_) rfl (Or.inl ⟨by rfl, ?_⟩) ?_; rotate_left; (focus (intro w' hw'; have j1 := (hw'.cell (p := ⟨w.heap.size, 0, none⟩) (by show w.heap.size < W1.heap.size; rw [HW1.out]; simp)).trans c1; go_simp <;> with_reducible rfl)))); try simp only [Act.put, List.setIfInBounds_toArray, List.set_cons_zero, List.set_cons_succ])
    refine plan_run rfl (fun K hK => ?_)
    go_simp
    skip
    refine hK.out _ _ ((Below.refl _ W1).drew) ?_
    clear hK
    try simp only [Act.put, List.setIfInBounds_toArray, List.set_cons_zero, List.set_cons_succ]
    refine plan_run rfl (fun K hK => ?_)
    go_simp
    skip
    refine hK.out _ _ ((Below.refl _ W1).drew) ?_
    clear hK
    try simp only [Act.put, List.setIfInBounds_toArray, List.set_cons_zero, List.set_cons_succ]
    iterate 1 ((first | refine plan_take (v := undef) rfl (Or.inr ⟨by rfl, rfl⟩) ?_ | (refine plan_take (v := ?_) rfl (Or.inl ⟨by rfl, ?_⟩) ?_; rotate_left; (focus (intro w' hw'; have j1 := (hw'.cell (p := ⟨w.heap.size, 0, none⟩) (by show w.heap.size < W1.heap.size; rw [HW1.out]; simp)).trans c1; go_simp <;> with_reducible rfl)))); try simp only [Act.put, List.setIfInBounds_toArray, List.set_cons_zero, List.set_cons_succ])
    iterate 2 (refine plan_take (v := ?_) rfl (Or.inl ⟨by rfl, ?_⟩) ?_; rotate_left; (focus (intro w' hw'; have j1 := (hw'.cell (p := ⟨w.heap.size, 0, none⟩) (by show w.heap.size < W1.heap.size; rw [HW1.out]; simp)).trans c1; go_simp <;> with_reducible rfl)); try simp only [Act.put, List.setIfInBounds_toArray, List.set_cons_zero, List.set_cons_succ])
    refine plan_done ?_
    obtain ⟨_, f1, f2, f3⟩ := HFF.out.resolve_right (fun h => h.1 rfl)
    have kc1 : (8 : Int) ≤ (L : Int) := by omega
    have kc2 : (L : Int) ≤ (c : Int) := by omega
    have rt := ((r1.drew).take L g1).drop 8 g2
    obtain ⟨D, hD⟩ : ∃ D, (if c = 8 then (some (⟨b, o, none⟩ : Addr)) else Option.map (fun x : Addr => x.add 8) (some (⟨b, o, none⟩ : Addr))) = D := ⟨_, rfl⟩
    rw [hD] at rt
    simp only [Option.map_some, Addr.add_lit] at hD
    go_wp2_with fail
    try rw [hD]
    refine (clone18_any D (L - 8) (c - 8) _ _ rt (by omega)).mono ?_
    rintro e w9 ⟨A9, n9, c9, rfl, ho9, hb9⟩
    go_wp2
    refine bodyPost_ret (v := .tuple #[.int .i64 (F : Int), .int .i64 (T : Int), .slice A9 n9 c9, .int .i64 0]) (by simp [results, Try.results22, go_sem]) rfl ?_
    exact ⟨A9, n9, c9, by rw [f1, f2], by rw [f3]; exact ho9.rd, below_then (bW1.drew) hb9⟩
  · skip
    have k1 : decide ((n : Int) < (L : Int)) = false := decide_eq_false (by omega)
    have k1n : decide (n < L) = false := decide_eq_false (by omega)
    have k2 : decide ((L : Int) < 8) = false := decide_eq_false (by omega)
    have k2n : decide (L < 8) = false := decide_eq_false (by omega)
    have k3 : ((Z : Int) != 0) = true := by rw [bne_iff_ne]; omega
    have kc1 : (0 : Int) ≤ (L : Int) := by omega
    have kc2 : (L : Int) ≤ (c : Int) := by omega
    subst g6
    go_wp2_with fail
    refine (udpPort_any (F : Int) W1).mono ?_
    rintro e w2 ⟨rfl, rfl⟩
    rw [PF, show decide (F ≠ 0) = true from decide_eq_true g3]
    go_wp2_with fail
    refine (udpPort_any (T : Int) W1).mono ?_
    rintro e w2 ⟨rfl, rfl⟩
    rw [PT, show decide (T ≠ 0) = true from decide_eq_true g4]
    go_wp2_with fail
    refine wp_region_plan (S := fun w' => Below W1.heap.size W1 w') [(0, true), (1, true), (2, true), (3, true), (4, true), (6, true), (7, true), (8, true), (5, false), (9, false), (10, true), (11, true), (12, true)] (by kernel_rfl) (by kernel_rfl) (fun _ _ d _ _ h => by cases d <;> exact h) ((Below.refl _ W1).drew) ?_
    iterate 3 (refine plan_take (v := ?_) rfl (Or.inl ⟨by rfl, ?_⟩) ?_; rotate_left; (focus (intro w' hw'; have j1 := (hw'.cell (p := ⟨w.heap.size, 0, none⟩) (by show w.heap.size < W1.heap.size; rw [HW1.out]; simp)).trans c1; go_simp <;> with_reducible rfl)); try simp only [Act.put, List.setIfInBounds_toArray, List.set_cons_zero, List.set_cons_succ])
    iterate 5 ((first | refine plan_take (v := undef) rfl (Or.inr ⟨by rfl, rfl⟩) ?_ | (refine plan_take (v := ?_) rfl (Or.inl ⟨by rfl, ?_⟩) ?_; rotate_left; (focus (intro w' hw'; have j1 := (hw'.cell (p := ⟨w.heap.size, 0, none⟩) (by show w.heap.size < W1.heap.size; rw [HW1.out]; simp)).trans c1; go_simp <;> with_reducible rfl)))); try simp only [Act.put, List.setIfInBounds_toArray, List.set_cons_zero, List.set_cons_succ])
    refine plan_run rfl (fun K hK => ?_)
    go_simp
    refine (summing_any src dst W1.drew).mono ?_
    rintro e v2 ⟨gg, hg_, rfl, cg, ch, hv2⟩
    refine hK.out _ _ (undrew hv2) ?_
    clear hK
    try simp only [Act.put, List.setIfInBounds_toArray, List.set_cons_zero, List.set_cons_succ]
    refine plan_run rfl (fun K hK => ?_)
    go_simp
    have hq := summing1_any src dst gg hg_ (some ⟨b, o, none⟩) L c (xs.take L) v2 hsrc hdst cg ch ((r1.below (undrew hv2)).take L g1) (by omega)
    rw [ES.out] at hq
    refine hq.mono ?_
    clear hq
    rintro e v3 ⟨rfl, hv3⟩
    refine hK.out _ _ (below_then (undrew hv2) hv3) ?_
    clear hK
    try simp only [Act.put, List.setIfInBounds_toArray, List.set_cons_zero, List.set_cons_succ]
    iterate 1 ((first | refine plan_take (v := undef) rfl (Or.inr ⟨by rfl, rfl⟩) ?_ | (refine plan_take (v := ?_) rfl (Or.inl ⟨by rfl, ?_⟩) ?_; rotate_left; (focus (intro w' hw'; have j1 := (hw'.cell (p := ⟨w.heap.size, 0, none⟩) (by show w.heap.size < W1.heap.size; rw [HW1.out]; simp)).trans c1; go_simp <;> with_reducible rfl)))); try simp only [Act.put, List.setIfInBounds_toArray, List.set_cons_zero, List.set_cons_succ])
    iterate 2 (refine plan_take (v := ?_) rfl (Or.inl ⟨by rfl, ?_⟩) ?_; rotate_left; (focus (intro w' hw'; have j1 := (hw'.cell (p := ⟨w.heap.size, 0, none⟩) (by show w.heap.size < W1.heap.size; rw [HW1.out]; simp)).trans c1; go_simp <;> with_reducible rfl)); try simp only [Act.put, List.setIfInBounds_toArray, List.set_cons_zero, List.set_cons_succ])
    refine plan_done ?_
    have B3 := below_then bW1 (below_then (undrew hv2) hv3)
    have c3 := ((below_then (undrew hv2) hv3).cell (p := ⟨w.heap.size, 0, none⟩) (by show w.heap.size < W1.heap.size; rw [HW1.out]; simp)).trans c1
    obtain ⟨_, f1, f2, f3⟩ := HFF.out.resolve_right (fun h => h.1 rfl)
    have kc1 : (8 : Int) ≤ (L : Int) := by omega
    have kc2 : (L : Int) ≤ (c : Int) := by omega
    have rt := (((r1.below (below_then (undrew hv2) hv3))).take L g1).drop 8 g2
    obtain ⟨D, hD⟩ : ∃ D, (if c = 8 then (some (⟨b, o, none⟩ : Addr)) else Option.map (fun x : Addr => x.add 8) (some (⟨b, o, none⟩ : Addr))) = D := ⟨_, rfl⟩
    rw [hD] at rt
    simp only [Option.map_some, Addr.add_lit] at hD
    go_wp2_with fail
    try rw [hD]
    refine (clone18_any D (L - 8) (c - 8) _ _ rt (by omega)).mono ?_
    rintro e w9 ⟨A9, n9, c9, rfl, ho9, hb9⟩
    go_wp2
    refine bodyPost_ret (v := .tuple #[.int .i64 (F : Int), .int .i64 (T : Int), .slice A9 n9 c9, .int .i64 0]) (by simp [results, Try.results22, go_sem]) rfl ?_
    exact ⟨A9, n9, c9, by rw [f1, f2], by rw [f3]; exact ho9.rd, below_then (B3) hb9⟩

theorem udpGet_any (src dst : Nat) (A : Option Addr) (n c : Nat) (xs : List UInt8) (w : World) (hsrc : src < 4294967296) (hdst : dst < 4294967296) (hr : RdB w A n c xs) (hn : n ≤ 900000) : Calls Try.prog 22 #[.int .u32 src, .int .u32 dst, .slice A n c] w (RetUd w (udF src dst xs) (udT src dst xs) (udD src dst xs) (udGetE src dst xs)) := by
  unfold udF udT udD
  rcases ud_cases src dst xs n hr.2.1 with ⟨h1, h2⟩ | ⟨h1, h2⟩
  · rw [h2, if_neg (by decide), if_neg (by decide), if_neg (by decide)]
    exact udpGet_short src dst A n c xs w hsrc hdst hr hn h1
  · refine udpGet_ways src dst A n c xs w hsrc hdst hr hn h1 _ h2 _ _ _ ?_
    by_cases h : udGetE src dst xs = 0
    · left; rw [if_pos h, if_pos h, if_pos h]; exact ⟨h, rfl, rfl, rfl⟩
    · right; rw [if_neg h, if_neg h, if_neg h]; exact ⟨h, rfl, rfl, rfl⟩
end Go.Proofs.Ytndabecdfccjlaa
