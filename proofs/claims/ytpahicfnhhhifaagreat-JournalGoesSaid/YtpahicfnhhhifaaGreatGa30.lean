/-
  Proved here, for the statement JournalGoes:
  Layer 14: the law JournalGoes.
-/
import Derived.Test.YtpahicfnhhhifaaGreatGa29
set_option linter.unusedVariables false
set_option linter.unusedSimpArgs false
namespace Go.Proofs.YtpahicfnhhhifaaGreat
set_option maxRecDepth 20000
open Go.RowKit
set_option maxHeartbeats 8000000
theorem pyHits_g {n : Nat} {p : Py} (hI : PyI n p) (i : Int) : (pyHits p i).J.g = p.J.g := by
  unfold pyHits
  cases hn : pyNone p i with
  | true => rfl
  | false =>
    simp only [Bool.false_eq_true, if_false]
    have h : ¬ (p.todo.length = 0 ∨ i < 0) := of_decide_eq_false hn
    have hk : pyIdx p i < p.todo.length := Nat.mod_lt _ (by omega)
    rcases pyOne_fl hI _ hk with ⟨hf, -⟩ | ⟨hf, hph⟩
    · rw [(pyOne_flush hI _ hk hf).2.2.1]
      split
      · rfl
      · split <;> rfl
    · rw [(pyOne_write hI _ hk hf hph).2.2]
theorem pyDo_g {n : Nat} {p : Py} (hI : PyI n p) (a : Ac) : (pyDo p a).J.g ≤ p.J.g + 1 := by
  unfold pyDo
  split
  · by_cases hz : pyAppE p a.e = 0
    · rw [pyApp_J p _ hz]; exact Nat.le_succ _
    · rw [pyApp_no p _ hz]; exact Nat.le_succ _
  · split
    · rw [(pyAsk_J p).1]; exact Nat.le_succ _
    · split
      · rw [pyHits_g hI]; exact Nat.le_succ _
      · split
        · by_cases hz : jnSaveE p.J a.s = 0
          · rw [pySave_yes p _ hz]; exact Nat.le_refl _
          · rw [pySave_no p _ hz]; exact Nat.le_succ _
        · exact Nat.le_succ _
section
variable {base : Nat} {w : World} {g : Nat} {p : Py} {f : Pf}
theorem PlAt.jc {w : World} {g : Nat} {f : Pf} (q : PlAt w g f) (i : Nat) (hi : i < (jmV f.m).length) : w.cell? ⟨g, i, none⟩ = (jmV f.m)[i]? := by
  rw [cell_of_row w g i _ _ _ q]
  simp only [List.getElem?_toArray, plV]
  rw [List.getElem?_append_left hi]
theorem Pl.nums (h : Pl base w g p f) : w.cell? ⟨g, 0, none⟩ = some (.int .u32 (p.J.g : Int)) ∧ w.cell? ⟨g, 2, none⟩ = some (.int .u32 (p.J.next : Int)) ∧ w.cell? ⟨g, 3, none⟩ = some (.int .u32 (p.J.done : Int)) ∧ w.cell? ⟨g, 38, none⟩ = some (.int .i64 p.J.ph) ∧ (∃ A c, w.cell? ⟨g, 37, none⟩ = some (.slice A p.J.wait.length c)) ∧ (∃ A c, w.cell? ⟨g, 80, none⟩ = some (.slice A p.todo.length c)) := by
  have hz := h.z
  have hl := jmV_len hz
  have e := h.j.2.1
  obtain ⟨us, hws⟩ := h.j.2.2.1.now
  refine ⟨?_, ?_, ?_, ?_, ⟨f.m.wa, f.m.wc, ?_⟩, ⟨f.ta, f.tc, ?_⟩⟩
  · rw [h.row.jc 0 (by omega), ← e]; rfl
  · rw [h.row.jc 2 (by omega), ← e]; rfl
  · rw [h.row.jc 3 (by omega), ← e]; rfl
  · rw [h.row.jc 38 (by omega), show (38 : Nat) = 37 + 1 from rfl, jmV_mid hz 1]; conv => rhs; rw [← e]
    rfl
  · rw [h.row.jc 37 (by omega), show (37 : Nat) = 37 + 0 from rfl, jmV_mid hz 0, hws.len]; rfl
  · rw [h.row.c80 hz, h.lens.1]
end
def GoI (w : World) (g nn n : Nat) (i v8 v9 : Value) (wr : World) : Prop := ∃ k p f, k ≤ n ∧ i = .int .i64 (k : Int) ∧ PyI nn p ∧ Pl w.heap.size wr g p f ∧ Below w.heap.size w wr ∧ p.J.g ≤ k + 1
def Go2I (w : World) (g nn : Nat) (i : Value) (wr : World) : Prop := ∃ (k : Nat) (p : Py) (f : Pf), k ≤ 400 ∧ i = .int .i64 (k : Int) ∧ PyI nn p ∧ Pl w.heap.size wr g p f ∧ Below w.heap.size w wr ∧ p.J.g ≤ 1000 ∧ pyM p ≤ 400 - k
theorem do_const (k : Int) (nn base g : Nat) (p : Py) (f : Pf) (w : World) (hI : PyI nn p) (h : Pl base w g p f) (hb : base ≤ w.heap.size) (hG : p.J.g ≤ 100000) : Calls Tryz.prog 12 #[.pointer (some ⟨g, 0, none⟩), .agg #[.int .i64 k, .int .i64 0, .int .u64 0, .int .i64 0, .int .u64 0, .slice none 0 0, .slice none 0 0]] w (RetPl base g w (pyDo p ⟨k, 0, ⟨0, 0, 0, []⟩, []⟩) true) :=
  do_any nn base g p f ⟨k, 0, ⟨0, 0, 0, []⟩, []⟩ none 0 0 none 0 0 w hI h ⟨⟨by show (0 : Nat) < 18446744073709551616; decide, ⟨by show (-9223372036854775808 : Int) ≤ 0; decide, by show (0 : Int) ≤ 9223372036854775807; decide⟩, by show (0 : Nat) < 18446744073709551616; decide⟩, by show 0 ≤ 3000; decide⟩ hb hG (bin_nil _ _) (bin_nil _ _)
theorem pyDo_hit (p : Py) : pyDo p ⟨2, 0, ⟨0, 0, 0, []⟩, []⟩ = pyHits p 0 := rfl
theorem pyDo_ask (p : Py) : pyDo p ⟨1, 0, ⟨0, 0, 0, []⟩, []⟩ = pyAsk p := rfl
theorem pyHits_nil {p : Py} (h : p.todo = []) : pyHits p 0 = p := by unfold pyHits pyNone; rw [h]; rfl
theorem pyRound_g {n : Nat} {p : Py} (hI : PyI n p) : (pyRound p).J.g = p.J.g := by unfold pyRound; rw [(pyAsk_J _).1, pyHits_g hI]
theorem jrnGoes_out (n : Int) (A : Option Addr) (nl c : Nat) (us : List Value) (l : List Ac) (w : World) (hr : RdAc w A nl c us l) (hn : n < 98 ∨ 256 < n) :
    Calls Tryz.prog 3 #[.int .i64 n, .slice A nl c] w (RetV w (.bool true)) := by
  rcases hn with hn | hn
  · go_enter Tryz.func3, Tryz.ntmps3
    go_wp2_with fail
    refine (heads14 w).mono ?_
    rintro e w1 ⟨rfl, b1⟩
    go_wp2_with fail
    go_ret
    exact ⟨rfl, b1⟩
  · have h2 : ¬ (n < 98) := by omega
    go_enter Tryz.func3, Tryz.ntmps3
    go_wp2_with fail
    refine (heads14 w).mono ?_
    rintro e w1 ⟨rfl, b1⟩
    go_wp2_with fail
    go_ret
    exact ⟨rfl, b1⟩
theorem jrnGoes_law (n : Int) (A : Option Addr) (nl c : Nat) (us : List Value) (l : List Ac) (w : World) (hn64 : -9223372036854775808 ≤ n ∧ n ≤ 9223372036854775807) (hr : RdAc w A nl c us l) :
    Calls Tryz.prog 3 #[.int .i64 n, .slice A nl c] w (RetV w (.bool true)) := by
  by_cases hn : n < 98 ∨ 256 < n
  · exact jrnGoes_out n A nl c us l w hr hn
  obtain ⟨nn, rfl⟩ : ∃ m : Nat, n = (m : Int) := ⟨n.toNat, by omega⟩
  have h1 : ¬ ((nn : Int) < 98) := by omega
  have h2 : ¬ (256 < (nn : Int)) := by omega
  have h3 : 98 ≤ nn ∧ nn ≤ 256 := by omega
  have HR := Lib.hid hr
  have HN3 := Lib.hid h3
  clear hn hn64 hr h3
  go_enter Tryz.func3, Tryz.ntmps3
  go_wp2_with fail
  refine (small_any A nl c us l w HR.out).mono ?_
  rintro e w1 ⟨bs, rfl, b1, hs⟩
  have B1 := Lib.hid b1
  cases bs with
  | false =>
    clear hs b1
    go_wp2_with fail
    refine (heads14 _).mono ?_
    rintro e w2 ⟨rfl, b2⟩
    go_wp2_with fail
    go_ret
    exact ⟨rfl, below_then B1.out b2⟩
  | true =>
    obtain ⟨h80, hst⟩ := hs rfl
    have HST := Lib.hid hst
    clear hs hst b1
    go_wp2_with fail
    refine (begin_any nn HN3.out w1).mono ?_
    rintro e w2 ⟨g, f0, rfl, P0, b2⟩
    have PB := Lib.hid P0
    have BB := Lib.hid b2
    clear P0 b2
    have RW := Lib.hid (HR.out.below B1.out)
    go_wp2_with fail
    go_loopw [7, 8, 9] (GoI w1 g nn nl) (fun i _ _ _ => nl - (intOf i).toNat)
    case atStart => exact ⟨0, _, f0, by omega, rfl, pyBegin_I nn HN3.out, PB.out, BB.out, by unfold pyBegin jnBegin; split <;> simp [jnZ]⟩
    case round =>
    obtain ⟨k, p, f, hk, rfl, hI, hP, hB, hg⟩ := hrel
    by_cases hlt : k < nl
    · have i1 : (k : Int) < (nl : Int) := by omega
      obtain ⟨bo, oo, A1, n1, d1, A2, n2, d2, rfl, hbo, c0, c1, c2, c3, c4, c5, c6, hok, r1, r2⟩ := RW.out.at_ k hlt
      obtain ⟨x0, x2, x3, x38, ⟨Aw, cw, x37⟩, ⟨At, ct, x80⟩⟩ := hP.nums
      have HP := Lib.hid hP
      have HB := Lib.hid hB
      have HI := Lib.hid hI
      have RB1 := Lib.hid (r1.inn' (P := fun j => w1.heap.size ≤ j) hB (fun j hj => hj))
      have RB2 := Lib.hid (r2.inn' (P := fun j => w1.heap.size ≤ j) hB (fun j hj => hj))
      obtain ⟨a, ha⟩ : ∃ a : Ac, a = l.getD k ac0 := ⟨_, rfl⟩
      rw [← ha] at c0 c1 c2 c3 c4 RB1 RB2 hok
      have haok : a.ok := ⟨hok, by rw [ha]; exact HST.out k hlt⟩
      have HAO := Lib.hid haok
      have hmono := pyDo_mono hI a haok
      have hdo := (pyDo_I hI a haok).1
      have hdg := pyDo_g hI a
      obtain ⟨p1, hp1⟩ : ∃ p1, p1 = pyDo p a := ⟨_, rfl⟩
      have HDO : Hid (∀ W, Below wr.heap.size wr W → Calls Tryz.prog 12 #[.pointer (some ⟨g, 0, none⟩), .agg (acV a A1 n1 d1 A2 n2 d2)] W (RetPl w1.heap.size g W p1 true)) := Lib.hid (fun W hW => by
        rw [hp1]
        exact do_any nn w1.heap.size g p f a A1 n1 d1 A2 n2 d2 W hI (hP.below hW) haok (Nat.le_trans hB.size hW.size) (by omega) (RB1.out.below hW) (RB2.out.below hW))
      rw [← hp1] at hmono hdo hdg
      obtain ⟨m1, m2, m3⟩ := hmono
      have HDI := Lib.hid hdo
      clear hdo hp1
      have HC : Hid (∀ w', Below w1.heap.size w1 w' → w'.cell? ⟨bo, oo + k * 7, none⟩ = some (.int .i64 a.k) ∧ w'.cell? ⟨bo, oo + k * 7 + 1, none⟩ = some (.int .i64 a.n) ∧ w'.cell? ⟨bo, oo + k * 7 + 2, none⟩ = some (.int .u64 (a.e.t : Int)) ∧ w'.cell? ⟨bo, oo + k * 7 + 3, none⟩ = some (.int .i64 a.e.k) ∧ w'.cell? ⟨bo, oo + k * 7 + 4, none⟩ = some (.int .u64 (a.e.c : Int)) ∧ w'.cell? ⟨bo, oo + k * 7 + 5, none⟩ = some (.slice A1 n1 d1) ∧ w'.cell? ⟨bo, oo + k * 7 + 6, none⟩ = some (.slice A2 n2 d2)) := Lib.hid (fun w' hw => by
        have u : ∀ i, w'.cell? ⟨bo, i, none⟩ = w1.cell? ⟨bo, i, none⟩ := fun i => World.cell?_of_block (hw.block bo hbo)
        exact ⟨(u _).trans c0, (u _).trans c1, (u _).trans c2, (u _).trans c3, (u _).trans c4, (u _).trans c5, (u _).trans c6⟩)
      clear c0 c1 c2 c3 c4 c5 c6 x2 x38 x37 x80 r1 r2 hok haok
      go_wp2_with fail
      refine wp_region_plan (S := fun w' => w' = wr.drew) [(0, true), (1, true), (2, true), (3, true), (4, true), (5, true), (6, true), (7, true), (8, true), (9, true), (10, true), (11, true)] (by kernel_rfl) (by kernel_rfl) (fun _ _ d _ _ h => by cases d <;> exact h) (rfl) ?_
      iterate 12 (refine plan_take (v := ?_) rfl (Or.inl ⟨by rfl, ?_⟩) ?_; rotate_left; (focus (intro w' hw'; subst hw'; go_simp <;> with_reducible rfl)); try simp only [Act.put, pst3])
      refine plan_done ?_
      clear x0 x3
      have hX : Below wr.heap.size wr wr.drew := (Below.refl _ wr).drew
      have hX1 : Below w1.heap.size w1 wr.drew := HB.out.drew
      generalize wr.drew = X0 at hX hX1 ⊢
      obtain ⟨g0, hg0⟩ : ∃ z : Nat, z = p.J.g := ⟨_, rfl⟩
      obtain ⟨d0, hd0⟩ : ∃ z : Nat, z = p.J.done := ⟨_, rfl⟩
      rw [← hg0] at m1 m2 hdg hg
      rw [← hd0] at m2
      rw [← hg0, ← hd0]
      have l31 : ¬ ((p1.J.next : Int) < (p1.J.done : Int)) := by omega
      have HX := Lib.hid hX
      by_cases hge : p1.J.g = g0
      · have l32 : ¬ ((p1.J.done : Int) < (d0 : Int)) := by have := m2 hge; omega
        have l33 : ¬ ((g0 : Int) < (g0 : Int)) := by omega
        have q31 : decide ((p1.J.next : Int) < (p1.J.done : Int)) = false := decide_eq_false l31
        have q32 : decide ((p1.J.done : Int) < (d0 : Int)) = false := decide_eq_false l32
        have q33 : decide ((g0 : Int) < (g0 : Int)) = false := decide_eq_false l33
        have n31 : decide (p1.J.next < p1.J.done) = false := decide_eq_false (by omega)
        have n32 : decide (p1.J.done < d0) = false := decide_eq_false (by omega)
        have n33 : decide (g0 < g0) = false := decide_eq_false (by omega)
        clear m2 m1 m3 hg0 hd0 ha
        go_wp2_with fail
        refine wp_region_seg (S := fun w' => Below w1.heap.size w1 w') 13 (brw9 47 33285996543) [(0, true), (1, true), (2, true), (3, true), (4, true), (5, false), (6, true), (7, true), (8, true), (9, true), (10, true), (11, true), (13, true), (12, false), (14, true), (15, true), (16, true), (17, true), (18, true), (19, true), (21, true), (20, false), (22, true), (23, true), (24, true), (25, true), (26, true), (27, true), (28, true), (29, true), (31, true), (32, true), (33, true), (34, true)] (by kernel_rfl) (by kernel_rfl) (fun _ _ d _ _ h => by first | (cases d <;> exact h) | cases h.1) (hX1.drew) ?_
        have HB := hX1.drew
        iterate 5 (refine seg_take (v := ?_) rfl (Or.inl ⟨by rfl, ?_⟩) ?_; rotate_left; (focus (intro w' hw'; obtain ⟨c0, c1, c2, c3, c4, c5, c6⟩ := HC.out w' hw'; go_simp <;> with_reducible rfl)); try simp only [Act.put, pst3])
        refine seg_run rfl (fun K hK => ?_)
        go_simp
        refine (HDO.out _ HX.out.drew).mono ?_
        rintro e_ w2 ⟨rfl, b2, f2, P2⟩
        obtain ⟨y0, y2, y3, -, -, -⟩ := P2.nums
        rw [hge] at y0
        have P2h := Lib.hid P2
        clear P2
        have HB := HB.trans b2
        have B2 := Lib.hid HB
        clear b2
        refine hK.out _ _ (HB) ?_
        clear hK
        try simp only [Act.put, pst3]
        iterate 2 (refine seg_take (v := ?_) rfl (Or.inl ⟨by rfl, ?_⟩) ?_; rotate_left; (focus (intro w' hw'; obtain ⟨c0, c1, c2, c3, c4, c5, c6⟩ := HC.out w' hw'; go_simp <;> with_reducible rfl)); try simp only [Act.put, pst3])
        iterate 5 ((first | refine seg_take (v := undef) rfl (Or.inr ⟨by rfl, rfl⟩) ?_ | (refine seg_take (v := ?_) rfl (Or.inl ⟨by rfl, ?_⟩) ?_; rotate_left; (focus (intro w' hw'; obtain ⟨c0, c1, c2, c3, c4, c5, c6⟩ := HC.out w' hw'; go_simp <;> with_reducible rfl)))); try simp only [Act.put, pst3])
        refine seg_run rfl (fun K hK => ?_)
        go_simp
        refine hK.out _ _ (HB) ?_
        clear hK
        try simp only [Act.put, pst3]
        iterate 7 ((first | refine seg_take (v := undef) rfl (Or.inr ⟨by rfl, rfl⟩) ?_ | (refine seg_take (v := ?_) rfl (Or.inl ⟨by rfl, ?_⟩) ?_; rotate_left; (focus (intro w' hw'; obtain ⟨c0, c1, c2, c3, c4, c5, c6⟩ := HC.out w' hw'; go_simp <;> with_reducible rfl)))); try simp only [Act.put, pst3])
        refine seg_run rfl (fun K hK => ?_)
        go_simp
        refine hK.out _ _ (HB) ?_
        clear hK
        try simp only [Act.put, pst3]
        iterate 2 ((first | refine seg_take (v := undef) rfl (Or.inr ⟨by rfl, rfl⟩) ?_ | (refine seg_take (v := ?_) rfl (Or.inl ⟨by rfl, ?_⟩) ?_; rotate_left; (focus (intro w' hw'; obtain ⟨c0, c1, c2, c3, c4, c5, c6⟩ := HC.out w' hw'; go_simp <;> with_reducible rfl)))); try simp only [Act.put, pst3])
        iterate 2 (refine seg_take (v := ?_) rfl (Or.inl ⟨by rfl, ?_⟩) ?_; rotate_left; (focus (intro w' hw'; obtain ⟨c0, c1, c2, c3, c4, c5, c6⟩ := HC.out w' hw'; go_simp <;> with_reducible rfl)); try simp only [Act.put, pst3])
        iterate 8 ((first | refine seg_take (v := undef) rfl (Or.inr ⟨by rfl, rfl⟩) ?_ | (refine seg_take (v := ?_) rfl (Or.inl ⟨by rfl, ?_⟩) ?_; rotate_left; (focus (intro w' hw'; obtain ⟨c0, c1, c2, c3, c4, c5, c6⟩ := HC.out w' hw'; go_simp <;> with_reducible rfl)))); try simp only [Act.put, pst3])
        refine seg_done (fun _ => ?_)
        refine wpAnyH_two (i := 30) (j := 35) (f := 12) (by kernel_rfl) ?_ ?_
        · skip
          refine op_run rfl (fun K hK => ?_)
          go_simp
          refine hK.out _ _ (HB) ?_
          clear hK
          try simp only [Act.put, pst3]
          refine wpAnyH_seg (by kernel_rfl) (fun _ _ d _ _ h => by first | (cases d <;> exact h) | cases h.1) 0 (brw9 47 140737488355327) [(35, false), (36, true), (37, true), (38, true), (39, true), (40, true), (41, true), (42, true), (44, true), (43, false), (45, true), (46, true)] _ _ _ (by kernel_rfl) (HB) ?_
          refine seg_run rfl (fun K hK => ?_)
          go_simp
          refine hK.out _ _ (HB) ?_
          clear hK
          try simp only [Act.put, pst3]
          iterate 1 ((first | refine seg_take (v := undef) rfl (Or.inr ⟨by rfl, rfl⟩) ?_ | (refine seg_take (v := ?_) rfl (Or.inl ⟨by rfl, ?_⟩) ?_; rotate_left; (focus (intro w' hw'; obtain ⟨c0, c1, c2, c3, c4, c5, c6⟩ := HC.out w' hw'; go_simp <;> with_reducible rfl)))); try simp only [Act.put, pst3])
          iterate 2 (refine seg_take (v := ?_) rfl (Or.inl ⟨by rfl, ?_⟩) ?_; rotate_left; (focus (intro w' hw'; obtain ⟨c0, c1, c2, c3, c4, c5, c6⟩ := HC.out w' hw'; go_simp <;> with_reducible rfl)); try simp only [Act.put, pst3])
          iterate 5 ((first | refine seg_take (v := undef) rfl (Or.inr ⟨by rfl, rfl⟩) ?_ | (refine seg_take (v := ?_) rfl (Or.inl ⟨by rfl, ?_⟩) ?_; rotate_left; (focus (intro w' hw'; obtain ⟨c0, c1, c2, c3, c4, c5, c6⟩ := HC.out w' hw'; go_simp <;> with_reducible rfl)))); try simp only [Act.put, pst3])
          refine seg_run rfl (fun K hK => ?_)
          go_simp
          refine hK.out _ _ (HB) ?_
          clear hK
          try simp only [Act.put, pst3]
          iterate 1 ((first | refine seg_take (v := undef) rfl (Or.inr ⟨by rfl, rfl⟩) ?_ | (refine seg_take (v := ?_) rfl (Or.inl ⟨by rfl, ?_⟩) ?_; rotate_left; (focus (intro w' hw'; obtain ⟨c0, c1, c2, c3, c4, c5, c6⟩ := HC.out w' hw'; go_simp <;> with_reducible rfl)))); try simp only [Act.put, pst3])
          iterate 1 (refine seg_take (v := ?_) rfl (Or.inl ⟨by rfl, ?_⟩) ?_; rotate_left; (focus (intro w' hw'; obtain ⟨c0, c1, c2, c3, c4, c5, c6⟩ := HC.out w' hw'; go_simp <;> with_reducible rfl)); try simp only [Act.put, pst3])
          refine seg_done (fun _ => ?_)
          refine wpAnyH_done (by kernel_rfl) ?_ _
          have wk2 : IntKind.i64.wrap ((k : Int) + 1) = (k : Int) + 1 := IntWalk.i64_in _ (by omega)
          clear y0 y2 y3
          go_wp2_with fail
          go_roundw
          case rel => exact ⟨k + 1, p1, f2, by omega, by rw [Int.natCast_add]; rfl, HDI.out, P2h.out, B2.out, by omega⟩
          case measure => simp [intOf]; omega
        · skip
          refine op_run rfl (fun K hK => ?_)
          go_simp
          refine hK.out _ _ (HB) ?_
          clear hK
          try simp only [Act.put, pst3]
          refine wpAnyH_seg (by kernel_rfl) (fun _ _ d _ _ h => by first | (cases d <;> exact h) | cases h.1) 0 (brw9 47 140737488355327) [(30, false), (36, true), (37, true), (38, true), (39, true), (40, true), (41, true), (42, true), (44, true), (43, false), (45, true), (46, true)] _ _ _ (by kernel_rfl) (HB) ?_
          refine seg_run rfl (fun K hK => ?_)
          go_simp
          refine hK.out _ _ (HB) ?_
          clear hK
          try simp only [Act.put, pst3]
          iterate 1 ((first | refine seg_take (v := undef) rfl (Or.inr ⟨by rfl, rfl⟩) ?_ | (refine seg_take (v := ?_) rfl (Or.inl ⟨by rfl, ?_⟩) ?_; rotate_left; (focus (intro w' hw'; obtain ⟨c0, c1, c2, c3, c4, c5, c6⟩ := HC.out w' hw'; go_simp <;> with_reducible rfl)))); try simp only [Act.put, pst3])
          iterate 2 (refine seg_take (v := ?_) rfl (Or.inl ⟨by rfl, ?_⟩) ?_; rotate_left; (focus (intro w' hw'; obtain ⟨c0, c1, c2, c3, c4, c5, c6⟩ := HC.out w' hw'; go_simp <;> with_reducible rfl)); try simp only [Act.put, pst3])
          iterate 5 ((first | refine seg_take (v := undef) rfl (Or.inr ⟨by rfl, rfl⟩) ?_ | (refine seg_take (v := ?_) rfl (Or.inl ⟨by rfl, ?_⟩) ?_; rotate_left; (focus (intro w' hw'; obtain ⟨c0, c1, c2, c3, c4, c5, c6⟩ := HC.out w' hw'; go_simp <;> with_reducible rfl)))); try simp only [Act.put, pst3])
          refine seg_run rfl (fun K hK => ?_)
          go_simp
          refine hK.out _ _ (HB) ?_
          clear hK
          try simp only [Act.put, pst3]
          iterate 1 ((first | refine seg_take (v := undef) rfl (Or.inr ⟨by rfl, rfl⟩) ?_ | (refine seg_take (v := ?_) rfl (Or.inl ⟨by rfl, ?_⟩) ?_; rotate_left; (focus (intro w' hw'; obtain ⟨c0, c1, c2, c3, c4, c5, c6⟩ := HC.out w' hw'; go_simp <;> with_reducible rfl)))); try simp only [Act.put, pst3])
          iterate 1 (refine seg_take (v := ?_) rfl (Or.inl ⟨by rfl, ?_⟩) ?_; rotate_left; (focus (intro w' hw'; obtain ⟨c0, c1, c2, c3, c4, c5, c6⟩ := HC.out w' hw'; go_simp <;> with_reducible rfl)); try simp only [Act.put, pst3])
          refine seg_done (fun _ => ?_)
          refine wpAnyH_done (by kernel_rfl) ?_ _
          have wk2 : IntKind.i64.wrap ((k : Int) + 1) = (k : Int) + 1 := IntWalk.i64_in _ (by omega)
          clear y0 y2 y3
          go_wp2_with fail
          go_roundw
          case rel => exact ⟨k + 1, p1, f2, by omega, by rw [Int.natCast_add]; rfl, HDI.out, P2h.out, B2.out, by omega⟩
          case measure => simp [intOf]; omega
      · have l34 : ((p1.J.g : Int) == (g0 : Int)) = false := beq_eq_false_iff_ne.2 (by omega)
        have n34 : (p1.J.g == g0) = false := beq_eq_false_iff_ne.2 hge
        have l33 : ¬ ((p1.J.g : Int) < (g0 : Int)) := by omega
        have q31 : decide ((p1.J.next : Int) < (p1.J.done : Int)) = false := decide_eq_false l31
        have q33 : decide ((p1.J.g : Int) < (g0 : Int)) = false := decide_eq_false l33
        have n31 : decide (p1.J.next < p1.J.done) = false := decide_eq_false (by omega)
        have n33 : decide (p1.J.g < g0) = false := decide_eq_false (by omega)
        clear m2 m1 m3 hg0 hd0 ha
        go_wp2_with fail
        refine wp_region_seg (S := fun w' => Below w1.heap.size w1 w') 13 (brw9 47 33285996543) [(0, true), (1, true), (2, true), (3, true), (4, true), (5, false), (6, true), (7, true), (8, true), (9, true), (10, true), (11, true), (13, true), (12, false), (14, true), (15, true), (16, true), (17, true), (18, true), (19, true), (21, true), (20, false), (22, true), (23, true), (24, true), (25, true), (26, true), (27, true), (28, true), (29, true), (31, true), (32, true), (33, true), (34, true)] (by kernel_rfl) (by kernel_rfl) (fun _ _ d _ _ h => by first | (cases d <;> exact h) | cases h.1) (hX1.drew) ?_
        have HB := hX1.drew
        iterate 5 (refine seg_take (v := ?_) rfl (Or.inl ⟨by rfl, ?_⟩) ?_; rotate_left; (focus (intro w' hw'; obtain ⟨c0, c1, c2, c3, c4, c5, c6⟩ := HC.out w' hw'; go_simp <;> with_reducible rfl)); try simp only [Act.put, pst3])
        refine seg_run rfl (fun K hK => ?_)
        go_simp
        refine (HDO.out _ HX.out.drew).mono ?_
        rintro e_ w2 ⟨rfl, b2, f2, P2⟩
        obtain ⟨y0, y2, y3, -, -, -⟩ := P2.nums
        have P2h := Lib.hid P2
        clear P2
        have HB := HB.trans b2
        have B2 := Lib.hid HB
        clear b2
        refine hK.out _ _ (HB) ?_
        clear hK
        try simp only [Act.put, pst3]
        iterate 2 (refine seg_take (v := ?_) rfl (Or.inl ⟨by rfl, ?_⟩) ?_; rotate_left; (focus (intro w' hw'; obtain ⟨c0, c1, c2, c3, c4, c5, c6⟩ := HC.out w' hw'; go_simp <;> with_reducible rfl)); try simp only [Act.put, pst3])
        iterate 5 ((first | refine seg_take (v := undef) rfl (Or.inr ⟨by rfl, rfl⟩) ?_ | (refine seg_take (v := ?_) rfl (Or.inl ⟨by rfl, ?_⟩) ?_; rotate_left; (focus (intro w' hw'; obtain ⟨c0, c1, c2, c3, c4, c5, c6⟩ := HC.out w' hw'; go_simp <;> with_reducible rfl)))); try simp only [Act.put, pst3])
        refine seg_run rfl (fun K hK => ?_)
        go_simp
        refine hK.out _ _ (HB) ?_
        clear hK
        try simp only [Act.put, pst3]
        iterate 7 ((first | refine seg_take (v := undef) rfl (Or.inr ⟨by rfl, rfl⟩) ?_ | (refine seg_take (v := ?_) rfl (Or.inl ⟨by rfl, ?_⟩) ?_; rotate_left; (focus (intro w' hw'; obtain ⟨c0, c1, c2, c3, c4, c5, c6⟩ := HC.out w' hw'; go_simp <;> with_reducible rfl)))); try simp only [Act.put, pst3])
        refine seg_run rfl (fun K hK => ?_)
        go_simp
        refine hK.out _ _ (HB) ?_
        clear hK
        try simp only [Act.put, pst3]
        iterate 2 ((first | refine seg_take (v := undef) rfl (Or.inr ⟨by rfl, rfl⟩) ?_ | (refine seg_take (v := ?_) rfl (Or.inl ⟨by rfl, ?_⟩) ?_; rotate_left; (focus (intro w' hw'; obtain ⟨c0, c1, c2, c3, c4, c5, c6⟩ := HC.out w' hw'; go_simp <;> with_reducible rfl)))); try simp only [Act.put, pst3])
        iterate 2 (refine seg_take (v := ?_) rfl (Or.inl ⟨by rfl, ?_⟩) ?_; rotate_left; (focus (intro w' hw'; obtain ⟨c0, c1, c2, c3, c4, c5, c6⟩ := HC.out w' hw'; go_simp <;> with_reducible rfl)); try simp only [Act.put, pst3])
        iterate 8 ((first | refine seg_take (v := undef) rfl (Or.inr ⟨by rfl, rfl⟩) ?_ | (refine seg_take (v := ?_) rfl (Or.inl ⟨by rfl, ?_⟩) ?_; rotate_left; (focus (intro w' hw'; obtain ⟨c0, c1, c2, c3, c4, c5, c6⟩ := HC.out w' hw'; go_simp <;> with_reducible rfl)))); try simp only [Act.put, pst3])
        refine seg_done (fun _ => ?_)
        refine wpAnyH_two (i := 30) (j := 35) (f := 12) (by kernel_rfl) ?_ ?_
        · skip
          refine op_run rfl (fun K hK => ?_)
          go_simp
          refine hK.out _ _ (HB) ?_
          clear hK
          try simp only [Act.put, pst3]
          refine wpAnyH_seg (by kernel_rfl) (fun _ _ d _ _ h => by first | (cases d <;> exact h) | cases h.1) 0 (brw9 47 140737488355327) [(35, false), (36, true), (37, true), (38, true), (39, true), (40, true), (41, true), (42, true), (44, true), (43, false), (45, true), (46, true)] _ _ _ (by kernel_rfl) (HB) ?_
          refine seg_run rfl (fun K hK => ?_)
          go_simp
          refine hK.out _ _ (HB) ?_
          clear hK
          try simp only [Act.put, pst3]
          iterate 1 ((first | refine seg_take (v := undef) rfl (Or.inr ⟨by rfl, rfl⟩) ?_ | (refine seg_take (v := ?_) rfl (Or.inl ⟨by rfl, ?_⟩) ?_; rotate_left; (focus (intro w' hw'; obtain ⟨c0, c1, c2, c3, c4, c5, c6⟩ := HC.out w' hw'; go_simp <;> with_reducible rfl)))); try simp only [Act.put, pst3])
          iterate 2 (refine seg_take (v := ?_) rfl (Or.inl ⟨by rfl, ?_⟩) ?_; rotate_left; (focus (intro w' hw'; obtain ⟨c0, c1, c2, c3, c4, c5, c6⟩ := HC.out w' hw'; go_simp <;> with_reducible rfl)); try simp only [Act.put, pst3])
          iterate 5 ((first | refine seg_take (v := undef) rfl (Or.inr ⟨by rfl, rfl⟩) ?_ | (refine seg_take (v := ?_) rfl (Or.inl ⟨by rfl, ?_⟩) ?_; rotate_left; (focus (intro w' hw'; obtain ⟨c0, c1, c2, c3, c4, c5, c6⟩ := HC.out w' hw'; go_simp <;> with_reducible rfl)))); try simp only [Act.put, pst3])
          refine seg_run rfl (fun K hK => ?_)
          go_simp
          refine hK.out _ _ (HB) ?_
          clear hK
          try simp only [Act.put, pst3]
          iterate 1 ((first | refine seg_take (v := undef) rfl (Or.inr ⟨by rfl, rfl⟩) ?_ | (refine seg_take (v := ?_) rfl (Or.inl ⟨by rfl, ?_⟩) ?_; rotate_left; (focus (intro w' hw'; obtain ⟨c0, c1, c2, c3, c4, c5, c6⟩ := HC.out w' hw'; go_simp <;> with_reducible rfl)))); try simp only [Act.put, pst3])
          iterate 1 (refine seg_take (v := ?_) rfl (Or.inl ⟨by rfl, ?_⟩) ?_; rotate_left; (focus (intro w' hw'; obtain ⟨c0, c1, c2, c3, c4, c5, c6⟩ := HC.out w' hw'; go_simp <;> with_reducible rfl)); try simp only [Act.put, pst3])
          refine seg_done (fun _ => ?_)
          refine wpAnyH_done (by kernel_rfl) ?_ _
          have wk2 : IntKind.i64.wrap ((k : Int) + 1) = (k : Int) + 1 := IntWalk.i64_in _ (by omega)
          clear y0 y2 y3
          go_wp2_with fail
          go_roundw
          case rel => exact ⟨k + 1, p1, f2, by omega, by rw [Int.natCast_add]; rfl, HDI.out, P2h.out, B2.out, by omega⟩
          case measure => simp [intOf]; omega
        · skip
          refine op_run rfl (fun K hK => ?_)
          go_simp
          refine hK.out _ _ (HB) ?_
          clear hK
          try simp only [Act.put, pst3]
          refine wpAnyH_seg (by kernel_rfl) (fun _ _ d _ _ h => by first | (cases d <;> exact h) | cases h.1) 0 (brw9 47 140737488355327) [(30, false), (36, true), (37, true), (38, true), (39, true), (40, true), (41, true), (42, true), (44, true), (43, false), (45, true), (46, true)] _ _ _ (by kernel_rfl) (HB) ?_
          refine seg_run rfl (fun K hK => ?_)
          go_simp
          refine hK.out _ _ (HB) ?_
          clear hK
          try simp only [Act.put, pst3]
          iterate 1 ((first | refine seg_take (v := undef) rfl (Or.inr ⟨by rfl, rfl⟩) ?_ | (refine seg_take (v := ?_) rfl (Or.inl ⟨by rfl, ?_⟩) ?_; rotate_left; (focus (intro w' hw'; obtain ⟨c0, c1, c2, c3, c4, c5, c6⟩ := HC.out w' hw'; go_simp <;> with_reducible rfl)))); try simp only [Act.put, pst3])
          iterate 2 (refine seg_take (v := ?_) rfl (Or.inl ⟨by rfl, ?_⟩) ?_; rotate_left; (focus (intro w' hw'; obtain ⟨c0, c1, c2, c3, c4, c5, c6⟩ := HC.out w' hw'; go_simp <;> with_reducible rfl)); try simp only [Act.put, pst3])
          iterate 5 ((first | refine seg_take (v := undef) rfl (Or.inr ⟨by rfl, rfl⟩) ?_ | (refine seg_take (v := ?_) rfl (Or.inl ⟨by rfl, ?_⟩) ?_; rotate_left; (focus (intro w' hw'; obtain ⟨c0, c1, c2, c3, c4, c5, c6⟩ := HC.out w' hw'; go_simp <;> with_reducible rfl)))); try simp only [Act.put, pst3])
          refine seg_run rfl (fun K hK => ?_)
          go_simp
          refine hK.out _ _ (HB) ?_
          clear hK
          try simp only [Act.put, pst3]
          iterate 1 ((first | refine seg_take (v := undef) rfl (Or.inr ⟨by rfl, rfl⟩) ?_ | (refine seg_take (v := ?_) rfl (Or.inl ⟨by rfl, ?_⟩) ?_; rotate_left; (focus (intro w' hw'; obtain ⟨c0, c1, c2, c3, c4, c5, c6⟩ := HC.out w' hw'; go_simp <;> with_reducible rfl)))); try simp only [Act.put, pst3])
          iterate 1 (refine seg_take (v := ?_) rfl (Or.inl ⟨by rfl, ?_⟩) ?_; rotate_left; (focus (intro w' hw'; obtain ⟨c0, c1, c2, c3, c4, c5, c6⟩ := HC.out w' hw'; go_simp <;> with_reducible rfl)); try simp only [Act.put, pst3])
          refine seg_done (fun _ => ?_)
          refine wpAnyH_done (by kernel_rfl) ?_ _
          have wk2 : IntKind.i64.wrap ((k : Int) + 1) = (k : Int) + 1 := IntWalk.i64_in _ (by omega)
          clear y0 y2 y3
          go_wp2_with fail
          go_roundw
          case rel => exact ⟨k + 1, p1, f2, by omega, by rw [Int.natCast_add]; rfl, HDI.out, P2h.out, B2.out, by omega⟩
          case measure => simp [intOf]; omega
    · obtain ⟨v10, hv10⟩ : ∃ p' : Py, p' = p := ⟨_, rfl⟩
      have HP := Lib.hid hP
      have HB := Lib.hid hB
      have HI := Lib.hid hI
      have hg80 : p.J.g ≤ 1000 := by omega
      clear hv10 hP hB hI
      go_wp2_with fail
      go_loopw [10] (Go2I w1 g nn) (fun i _ => 400 - (intOf i).toNat)
      case atStart => exact ⟨0, p, f, by omega, rfl, HI.out, HP.out, HB.out, hg80, by have := pyM_most HI.out; omega⟩
      case round =>
      clear HP HB HI hg80 hg hlt hk
      obtain ⟨k, p, f, hk, rfl, hI, hP, hB, hg, hM⟩ := hrel
      obtain ⟨x0, x2, x3, x38, ⟨Aw, cw, x37⟩, ⟨At, ct, x80⟩⟩ := hP.nums
      have HB := Lib.hid hB
      have HI := Lib.hid hI
      have HP := Lib.hid hP
      have hbr := hB.size
      have HBr := Lib.hid hB
      have HBz := hB.size
      by_cases hlt : k < 400
      · have i1 : (k : Int) < 400 := by omega
        have wk2 : IntKind.i64.wrap ((k : Int) + 1) = (k : Int) + 1 := IntWalk.i64_in _ (by omega)
        have hR := Lib.hid (pyRound_I hI)
        have hRM := pyRound_M hI
        have hRg := pyRound_g hI
        clear x0 x2 x3 x38 x37
        by_cases ht : p.todo = []
        · have e1 : pyHits p 0 = p := pyHits_nil ht
          have HE1 := Lib.hid e1
          rw [ht] at x80
          have hd := do_const 1 nn w1.heap.size g p f wr hI hP hbr (by omega)
          rw [pyDo_ask] at hd
          have HD := Lib.hid hd
          clear hd e1 hP hB hI ht
          go_wp2_with fail
          refine HD.out.mono ?_
          rintro e w3 ⟨rfl, b3, f3, P3⟩
          have P3h := Lib.hid P3
          have B3 := Lib.hid (HB.out.trans b3)
          clear P3 b3
          go_wp2_with fail
          go_roundw
          case rel => exact ⟨k + 1, pyRound p, f3, by omega, by rw [Int.natCast_add]; rfl, hR.out, by unfold pyRound; rw [HE1.out]; exact P3h.out, B3.out, by omega, by omega⟩
          case measure => simp [intOf]; omega
        · have hl : 0 < p.todo.length := List.length_pos_iff.2 ht
          have hl2 : (0 : Int) < (p.todo.length : Int) := by omega
          have dl : decide ((0 : Int) < (p.todo.length : Int)) = true := decide_eq_true hl2
          have dn : decide (0 < p.todo.length) = true := decide_eq_true hl
          have hd := do_const 2 nn w1.heap.size g p f wr hI hP hbr (by omega)
          rw [pyDo_hit] at hd
          have HD := Lib.hid hd
          clear hd hP hB hI ht
          go_wp2_with fail
          refine HD.out.mono ?_
          rintro e w3 ⟨rfl, b3, f3, P3⟩
          have hd := do_const 1 nn w1.heap.size g (pyHits p 0) f3 w3 (pyHits_I HI.out 0).1 P3 (Nat.le_trans hbr b3.size) (by rw [pyHits_g HI.out]; omega)
          rw [pyDo_ask] at hd
          have HD2 := Lib.hid hd
          have B3 := Lib.hid (HB.out.trans b3)
          clear hd P3 b3
          go_wp2_with fail
          refine HD2.out.mono ?_
          rintro e w4 ⟨rfl, b4, f4, P4⟩
          have P4h := Lib.hid P4
          have B4 := Lib.hid (B3.out.trans b4)
          clear P4 b4
          go_wp2_with fail
          go_roundw
          case rel => exact ⟨k + 1, pyRound p, f4, by omega, by rw [Int.natCast_add]; rfl, hR.out, P4h.out, B4.out, by omega, by omega⟩
          case measure => simp [intOf]; omega
      · obtain rfl : k = 400 := by omega
        obtain ⟨z1, z2, z3⟩ := pyM_zero hI (by omega)
        have lgr := hP.row.lt
        rw [z3] at x37
        rw [z1] at x3
        rw [z2] at x38
        have HS : Hid (∀ w', Below wr.heap.size wr w' → w'.cell? ⟨g, 2, none⟩ = some (.int .u32 (p.J.next : Int)) ∧ w'.cell? ⟨g, 3, none⟩ = some (.int .u32 (p.J.next : Int)) ∧ w'.cell? ⟨g, 38, none⟩ = some (.int .i64 0) ∧ w'.cell? ⟨g, 37, none⟩ = some (.slice Aw 0 cw)) := Lib.hid (fun w' hw => by
          have u : ∀ i, w'.cell? ⟨g, i, none⟩ = wr.cell? ⟨g, i, none⟩ := fun i => World.cell?_of_block (hw.block g lgr)
          exact ⟨(u 2).trans x2, (u 3).trans x3, (u 38).trans x38, (u 37).trans x37⟩)
        clear x0 x2 x3 x38 x37 x80 z1 z2 z3 hP hB hI hM hg
        go_wp2_with fail
        refine wp_region_seg (S := fun w' => Below wr.heap.size wr w') 0 (brw9 32 4294967295) [(0, true), (1, true), (2, true), (3, true), (4, true), (5, true), (6, true), (7, true), (8, true), (9, true), (10, true), (11, true), (12, true), (13, true), (14, true), (15, true), (16, true), (17, true), (18, true), (19, true), (20, true), (21, true), (22, true), (23, true), (24, true), (25, true), (26, true), (27, true), (28, true), (29, false), (30, true), (31, true)] (by kernel_rfl) (by kernel_rfl) (fun _ _ d _ _ h => by first | (cases d <;> exact h) | cases h.1) ((Below.refl wr.heap.size wr).drew) ?_
        have HB := (Below.refl wr.heap.size wr).drew
        iterate 12 (refine seg_take (v := ?_) rfl (Or.inl ⟨by rfl, ?_⟩) ?_; rotate_left; (focus (intro w' hw'; obtain ⟨x2, x3, x38, x37⟩ := HS.out w' hw'; go_simp <;> with_reducible rfl)); try simp only [Act.put, pst3])
        iterate 6 ((first | refine seg_take (v := undef) rfl (Or.inr ⟨by rfl, rfl⟩) ?_ | (refine seg_take (v := ?_) rfl (Or.inl ⟨by rfl, ?_⟩) ?_; rotate_left; (focus (intro w' hw'; obtain ⟨x2, x3, x38, x37⟩ := HS.out w' hw'; go_simp <;> with_reducible rfl)))); try simp only [Act.put, pst3])
        iterate 2 (refine seg_take (v := ?_) rfl (Or.inl ⟨by rfl, ?_⟩) ?_; rotate_left; (focus (intro w' hw'; obtain ⟨x2, x3, x38, x37⟩ := HS.out w' hw'; go_simp <;> with_reducible rfl)); try simp only [Act.put, pst3])
        iterate 7 ((first | refine seg_take (v := undef) rfl (Or.inr ⟨by rfl, rfl⟩) ?_ | (refine seg_take (v := ?_) rfl (Or.inl ⟨by rfl, ?_⟩) ?_; rotate_left; (focus (intro w' hw'; obtain ⟨x2, x3, x38, x37⟩ := HS.out w' hw'; go_simp <;> with_reducible rfl)))); try simp only [Act.put, pst3])
        iterate 2 (refine seg_take (v := ?_) rfl (Or.inl ⟨by rfl, ?_⟩) ?_; rotate_left; (focus (intro w' hw'; obtain ⟨x2, x3, x38, x37⟩ := HS.out w' hw'; go_simp <;> with_reducible rfl)); try simp only [Act.put, pst3])
        refine seg_run rfl (fun K hK => ?_)
        go_simp
        refine (heads14 _).mono ?_
        rintro e_ w9 ⟨rfl, b9⟩
        have HB := below_then HB b9
        have B9 := Lib.hid HB
        refine hK.out _ _ (HB) ?_
        clear hK
        try simp only [Act.put, pst3]
        iterate 2 (refine seg_take (v := ?_) rfl (Or.inl ⟨by rfl, ?_⟩) ?_; rotate_left; (focus (intro w' hw'; obtain ⟨x2, x3, x38, x37⟩ := HS.out w' hw'; go_simp <;> with_reducible rfl)); try simp only [Act.put, pst3])
        refine seg_done (fun _ => ?_)
        refine wpAnyH_done (by kernel_rfl) ?_ _
        go_wp2_with fail
        go_ret
        exact ⟨rfl, below_then B1.out (HBr.out.trans (B9.out.mono HBz))⟩
end Go.Proofs.YtpahicfnhhhifaaGreat
