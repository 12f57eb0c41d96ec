/-
  Layer 5: disks: the document's Write.
-/
import Derived.Test.YteajboafcjeagaaDskR
namespace Go.Proofs.Yteajboafcjeagaa
set_option maxRecDepth 20000
open Go.RowKit
set_option linter.unusedVariables false
set_option linter.unusedSimpArgs false
set_option maxHeartbeats 8000000

/-- The element type's row of the table, for elements of two cells. -/
theorem winfo : ∃ i : TypeInfo, Try.prog.info? 55 = some i ∧ i.zero = some (.agg #[.int .i64 0, .slice none 0 0]) ∧ i.size = 2 ∧ i.bytes = 32 := by
  have h : (Try.prog.info? 55).map (fun i => (i.zero, i.size, i.bytes)) = some (some (.agg #[.int .i64 0, .slice none 0 0]), 2, 32) := by kernel_rfl
  obtain ⟨i, hi, he⟩ := Option.map_eq_some_iff.1 h
  injection he with e1 e2
  injection e2 with e2 e3
  exact ⟨i, hi, e1, e2, e3⟩
theorem run_appW {w : World} (ty : TypeId) (base : Nat) (v : Value) (n : Nat) (xs : List Value) (hown : w.ownsRow base 55 2 v n xs)
    (A : Option Addr) (m c : Nat) (news : List Value) (hr : Rd w A news) (hm : news.length = 2 * m) (h1 : ∀ u ∈ news, u.oneCell' = true)
    (h63 : n + m ≤ 1000000) (hbase : base ≤ w.heap.size) :
    ∃ A' c' w', (Builtin.append_ #[23, 23] ty #[v, .slice A m c]).run Try.prog w = .ok (.slice A' (n + m) c') w' ∧ w'.ownsRow base 55 2 (.slice A' (n + m) c') (n + m) (xs ++ news) ∧ w.grownBy w' v.ownBlock := by
  obtain ⟨i, hi, hz, hsz, hby⟩ := winfo
  have hsl : Try.prog.underlying 23 = some (.slice 55) := Try.underlying23
  have fin : ∀ (v' : Value) (w' : World), w'.ownsRow base 55 2 v' (n + m) (xs ++ news) → ∃ A' c', v' = .slice A' (n + m) c' := fun v' w' h => own2_form h
  by_cases h0 : news = []
  · subst h0
    obtain rfl : m = 0 := by simp at hm; omega
    rcases A with _ | a
    · have hrun : (Builtin.append_ #[23, 23] ty #[v, .slice none 0 c]).run Try.prog w = .ok v w := by
        rcases hown.2 with ⟨rfl, rfl⟩ | ⟨g, cap, cur, rfl, _, _, hnc, _⟩
        · simp [Builtin.append_, run_underlying hsl, sizeOf, typeInfo, hi, Builtin.lenOf, Builtin.firstCells]
        · simp [Builtin.append_, run_underlying hsl, sizeOf, typeInfo, hi, Builtin.lenOf, Builtin.firstCells, hnc, storeCells]
      obtain ⟨A', c', rfl⟩ := fin v w (by simpa using hown)
      exact ⟨A', c', w, by simpa using hrun, by simpa using hown, World.grownBy.refl _ _⟩
    · obtain ⟨v', w', hrun, ho, hg, _⟩ := run_append_own_at (P := Try.prog) w base 23 ty 55 i _ 2 32 hsl hi hz hsz hby rfl (by decide) v n xs hown a 0 c [] (by simp) (by simp) (by simp) (by unfold maxLen; omega) (by omega) hbase
      obtain ⟨A', c', rfl⟩ := fin v' w' ho
      exact ⟨A', c', w', hrun, ho, hg⟩
  · rcases hr with h | ⟨b, o, rfl, hb, hc⟩
    · exact absurd h h0
    · obtain ⟨v', w', hrun, ho, hg, _⟩ := run_append_own_at (P := Try.prog) w base 23 ty 55 i _ 2 32 hsl hi hz hsz hby rfl (by decide) v n xs hown ⟨b, o, none⟩ m c news (by omega) (fun j u hj => by
        have := hc j u hj
        rwa [Addr.add_lit]) h1 (by unfold maxLen; omega) (by omega) hbase
      obtain ⟨A', c', rfl⟩ := fin v' w' ho
      exact ⟨A', c', w', hrun, ho, hg⟩
/-- 'append(s, x...)' of writes: s owned, x whatever is read. -/
theorem wp_appW {w : World} {ops : Array Oper} {rest : List Oper} {o : Oper} {a : Act} {Q : Exit → Act → World → Prop} (hgd : o.guard = none) (s x : Operand)
    (ho : o.op = .call { callee := .builtin .append, args := #[s, x], argTypes := #[23, 23] })
    (base : Nat) (v : Value) (n : Nat) (xs : List Value) (hs : a.eval s = v) (hown : w.ownsRow base 55 2 v n xs)
    (A : Option Addr) (m c : Nat) (news : List Value) (hx : a.eval x = .slice A m c) (hr : Rd w A news) (hm : news.length = 2 * m) (h1 : ∀ u ∈ news, u.oneCell' = true)
    (h63 : n + m ≤ 1000000) (hbase : base ≤ w.heap.size) (k : Nat) (zs : List Value) (hk : n + m = k) (hz : xs ++ news = zs)
    (h : ∀ A' c' w', w'.ownsRow base 55 2 (.slice A' k c') k zs → w.grownBy w' v.ownBlock → wpList Try.prog ops Q rest (a.put o.dst (.slice A' k c')) w') : wpList Try.prog ops Q (o :: rest) a w := by
  subst hk hz
  refine wpList_plain hgd fun K hK => ?_
  obtain ⟨A', c', w', hr, h2, h3⟩ := run_appW (w := w) o.type base v n xs hown A m c news hr hm h1 h63 hbase
  unfold Oper.wp execOp
  simp only [ho, resolve, invoke, builtin, Sem.run_bind, Sem.run_pure, Result.andThen_ok, List.map_toArray, List.map_cons, List.map_nil, hs, hx, hr]
  exact hK _ _ (h A' c' w' h2 h3)
/-- A row of another type stays where one grows. -/
theorem own_grown {X w7 : World} {base e v n size xs} (h : X.ownsRow base e size v n xs) {base2 e2 v2 n2 size2 xs2} (h2 : X.ownsRow base2 e2 size2 v2 n2 xs2) (hne : e2 ≠ e) (hg : X.grownBy w7 v.ownBlock) : w7.ownsRow base2 e2 size2 v2 n2 xs2 := by
  refine down_keepT h2 (fun g' cur' _ hg' => hg.block g' (drw_lt hg') (fun e' => ?_))
  rcases h.2 with ⟨rfl, _⟩ | ⟨g, cap, cur, rfl, hb, hgg, _⟩
  · simp [Value.ownBlock] at e'
  · simp [Value.ownBlock] at e'
    exact dtyp_ne hg' hgg hne (by omega)
theorem wcells_one {w : World} : ∀ {vs : List Value} {l : List (Int × List UInt8)}, WParts w vs l → ∀ v ∈ vs, v.oneCell' = true
  | [], [], _, v, hv => by simp at hv
  | a :: u :: vs, p :: l, hp, v, hv => by
    obtain ⟨e1, _, ⟨A, n, c, e2, _⟩, h⟩ := hp
    rcases List.mem_cons.1 hv with rfl | hv
    · rw [e1]; rfl
    · rcases List.mem_cons.1 hv with rfl | hv
      · rw [e2]; rfl
      · exact wcells_one h v hv
theorem ref_Write_any (S : Option Addr) (sn sc : Nat) (K : Option Addr) (kn kc : Nat) (D : Dk) (a : Int) (B : Option Addr) (m d : Nat) (ys : List UInt8) (w : World) (hr : RdDk w S sn sc K kn kc D) (ha : -9223372036854775808 ≤ a ∧ a ≤ 9223372036854775807) (hd : RdB w B m d ys) :
    Calls Try.prog 19 #[.agg #[.slice S sn sc, .slice K kn kc], .int .i64 a, .slice B m d] w (RetDk w (dkWrite D a ys) (dkWriteE D a ys)) := by
  obtain ⟨hn1, hn2, _, _, _, _⟩ := hr.n63
  have hsl := hr.sl
  have hkl := hr.kl
  have hm63 := hd.n63
  have hml := hd.2.1
  obtain ⟨V, hV⟩ : ∃ V, V = (w.alloc (.cells #[.slice S sn sc, .slice K kn kc] 25)).alloc (.cells #[.slice none 0 0, .slice none 0 0] 25) := ⟨_, rfl⟩
  have bV : Below w.heap.size w V := by rw [hV]; exact ((below_self w).alloc (Nat.le_refl _) _).alloc (by simp) _
  have qV : Hid (DkAt V w.heap.size S sn sc K kn kc) := by rw [hV]; exact Lib.hid (drw_old _ (drw_at _ rfl))
  have rV : Hid (DkAt V (w.heap.size + 1) none 0 0 none 0 0) := by rw [hV]; exact Lib.hid (drw_at _ (by simp))
  have HV := Lib.hid hV
  have C1 := Lib.hid (refDskCheck_any S sn sc K kn kc D V (hr.below bV))
  have C2 := Lib.hid (fun W => refDskHas_any S sn sc K kn kc a W hn1 ha)
  have hno : ¬ dkWriteE D a ys = 0 → dkWrite D a ys = D := fun h => by unfold dkWrite; rw [if_neg h]
  clear hV
  rcases dkAsk_cases hsl a with ⟨h1, h2⟩ | ⟨h1, h2, h3⟩ | ⟨h1, h0, h2, h3, h4⟩
  · have e : dkWriteE D a ys = 3 := by unfold dkWriteE; rw [if_pos (by rw [h2]; decide), h2]
    rw [hno (by rw [e]; decide), e]
    rw [h1] at C1
    clear h1 h2 hno e
    go_enter Try.func19, Try.ntmps19
    go_wp2_with fail
    rw [← HV.out]
    refine C1.out.mono ?_
    rintro e w1 ⟨rfl, hb1⟩
    have B1 := below_then bV hb1
    have q := Lib.hid (qV.out.up hb1)
    have r := Lib.hid (rV.out.up hb1)
    have x0 := q.out.c0
    have x1 := q.out.c1
    have y0 := r.out.c0
    have y1 := r.out.c1
    have f0 := r.out.fr 0
    have f1 := r.out.fr 1
    have QS := Lib.hid (r.out.s01 S sn sc K kn kc)
    go_wp2_with fail
    refine bodyPost_ret (dresults_cell_tmp Try.results19 _ _ (w.heap.size + 1) 25 _ (0, 0) _ rfl QS.out Try.underlying25 rfl (dkInfo ..)) rfl ?_
    exact ⟨S, sn, sc, K, kn, kc, rfl, hr.far2 B1 (by omega) _ _, below2 B1 (by omega) _ _⟩
  · have e : dkWriteE D a ys = 50 := by unfold dkWriteE; rw [if_pos (by rw [h3]; decide), h3]
    rw [hno (by rw [e]; decide), e]
    rw [h1] at C1
    rw [h2] at C2
    clear h1 h2 h3 hno e
    go_enter Try.func19, Try.ntmps19
    go_wp2_with fail
    rw [← HV.out]
    refine C1.out.mono ?_
    rintro e w1 ⟨rfl, hb1⟩
    have B1 := below_then bV hb1
    have q := Lib.hid (qV.out.up hb1)
    have r := Lib.hid (rV.out.up hb1)
    have x0 := q.out.c0
    have x1 := q.out.c1
    go_wp2_with fail
    refine (C2.out w1).mono ?_
    rintro e w2 ⟨rfl, hb2⟩
    have B2 := below_then B1 hb2
    have q := Lib.hid (q.out.up hb2)
    have r := Lib.hid (r.out.up hb2)
    have x0 := q.out.c0
    have x1 := q.out.c1
    have y0 := r.out.c0
    have y1 := r.out.c1
    have f0 := r.out.fr 0
    have f1 := r.out.fr 1
    have QS := Lib.hid (r.out.s01 S sn sc K kn kc)
    go_wp2_with fail
    refine bodyPost_ret (dresults_cell_tmp Try.results19 _ _ (w.heap.size + 1) 25 _ (0, 0) _ rfl QS.out Try.underlying25 rfl (dkInfo ..)) rfl ?_
    exact ⟨S, sn, sc, K, kn, kc, rfl, hr.far2 B2 (by omega) _ _, below2 B2 (by omega) _ _⟩
  · have hok := h1
    rw [h1] at C1
    rw [h3] at C2
    have hk5 : kn ≤ 512 := by rw [← hkl]; exact ((dkOk_iff D).1 hok).2.1
    have hs5 : sn ≤ 256 := by rw [← hsl]; exact ((dkOk_iff D).1 hok).1
    clear h1 h3 hok
    by_cases hm : m = 256
    · have d1 : ((m : Int) != 256) = false := by simp [hm]
      by_cases hk : kn = 512
      · have e : dkWriteE D a ys = 4 := by unfold dkWriteE; rw [if_neg (by simp [h4]), if_neg (by simp [hml, hm]), if_pos (by omega)]
        rw [hno (by rw [e]; decide), e]
        have d2 : decide (512 ≤ (kn : Int)) = true := decide_eq_true (by omega)
        clear hno e hk hm h4
        go_enter Try.func19, Try.ntmps19
        go_wp2_with fail
        rw [← HV.out]
        refine C1.out.mono ?_
        rintro e w1 ⟨rfl, hb1⟩
        have B1 := below_then bV hb1
        have q := Lib.hid (qV.out.up hb1)
        have r := Lib.hid (rV.out.up hb1)
        have x0 := q.out.c0
        have x1 := q.out.c1
        go_wp2_with fail
        refine (C2.out w1).mono ?_
        rintro e w2 ⟨rfl, hb2⟩
        have B2 := below_then B1 hb2
        have q := Lib.hid (q.out.up hb2)
        have r := Lib.hid (r.out.up hb2)
        have x0 := q.out.c0
        have x1 := q.out.c1
        have y0 := r.out.c0
        have y1 := r.out.c1
        have f0 := r.out.fr 0
        have f1 := r.out.fr 1
        have QS := Lib.hid (r.out.s01 S sn sc K kn kc)
        go_wp2_with fail
        refine bodyPost_ret (dresults_cell_tmp Try.results19 _ _ (w.heap.size + 1) 25 _ (0, 0) _ rfl QS.out Try.underlying25 rfl (dkInfo ..)) rfl ?_
        exact ⟨S, sn, sc, K, kn, kc, rfl, hr.far2 B2 (by omega) _ _, below2 B2 (by omega) _ _⟩
      · have e : dkWriteE D a ys = 0 := by unfold dkWriteE; rw [if_neg (by simp [h4]), if_neg (by simp [hml, hm]), if_neg (by omega)]
        rw [e, show dkWrite D a ys = ⟨D.s, D.k ++ [(a, ys)]⟩ by unfold dkWrite; rw [if_pos e]]
        have d2 : decide (512 ≤ (kn : Int)) = false := decide_eq_false (by omega)
        obtain ⟨⟨vs, hs⟩, us, hus⟩ := id hr
        have HUS := Lib.hid hus
        have HS := Lib.hid hs
        have HM := Lib.hid hm
        clear hno e h4 hus hs hm
        go_enter Try.func19, Try.ntmps19
        go_wp2_with fail
        rw [← HV.out]
        refine C1.out.mono ?_
        rintro e w1 ⟨rfl, hb1⟩
        have B1 := below_then bV hb1
        have q := Lib.hid (qV.out.up hb1)
        have r := Lib.hid (rV.out.up hb1)
        have x0 := q.out.c0
        have x1 := q.out.c1
        go_wp2_with fail
        refine (C2.out w1).mono ?_
        rintro e w2 ⟨rfl, hb2⟩
        have B2 := below_then B1 hb2
        have q := Lib.hid (q.out.up hb2)
        have r := Lib.hid (r.out.up hb2)
        have x0 := q.out.c0
        have x1 := q.out.c1
        have hown := World.ownsRow_lit (size := 2) (e := 55) w2 #[] 0 (Nat.le_refl _) (by simp [maxLen]) rfl
        have HO := Lib.hid hown
        clear hown
        have x1a : (w2.alloc (.cells #[] 55)).cell? ⟨w.heap.size, 1, none⟩ = some (.slice K kn kc) := (q.out.up ((below_self w2).alloc (Nat.le_refl _) _)).c1
        have q2 := q
        have r2 := r
        go_wp2_with (first | (at_builtin; refine wp_appW rfl _ _ rfl w2.heap.size _ 0 _ rfl HO.out K kn kc us rfl ((HUS.out.below B2).1.alloc _) (HUS.out.2.1) (wcells_one HUS.out.2.2.2.2) (by omega) (by simp) kn us (by omega) rfl ?_; intro A3 c3 w3 ho3 hg3; have hb3 : Below w2.heap.size w2 w3 := ((Below.refl _ _).alloc (Nat.le_refl _) _).grown hg3 (by simp) (fun q hq => by have := (HO.out.lt q hq).1; omega); have B3 := below_then B2 hb3; have q := Lib.hid (q.out.up hb3); have r := Lib.hid (r.out.up hb3); have HO3 := Lib.hid ho3; have HO2 := Lib.hid (OwnB.lit w3 #[] [] 0 rfl rfl (by simp [maxLen])); clear ho3 hg3 x0 x1 x1a) | (at_builtin; refine wp_appB rfl _ _ rfl ((below_self w3).alloc (Nat.le_refl _) _) (Nat.le_refl _) (by simp) (some ⟨w3.heap.size, 0, none⟩) 0 0 [] rfl HO2.out B m d ys rfl ((hd.below B3).alloc _) (by have := HM.out; omega) m ys (by omega) rfl ?_; intro A5 c5 w5 ho5 hb5 hg5; have B5 := below_then B3 hb5; obtain ⟨X, hX⟩ : ∃ X, X = w5.alloc (.cells #[.int .i64 a, .slice A5 m c5] 55) := ⟨_, rfl⟩; have bX : Below w5.heap.size w5 X := (by rw [hX]; exact (below_self w5).alloc (Nat.le_refl _) _); have rX : Rd X (some ⟨w5.heap.size, 0, none⟩) [.int .i64 a, .slice A5 m c5] := (by rw [hX]; exact Rd.new w5 #[.int .i64 a, .slice A5 m c5] _); have q := Lib.hid ((q.out.up hb5).up bX); have r := Lib.hid ((r.out.up hb5).up bX); have O3 := Lib.hid (down_keep (down_keep HO3.out hb5) bX); have O5 := Lib.hid (ho5.below bX); have BX := below_then B5 bX; have HX := Lib.hid hX; have RX := Lib.hid rX; have hl2 : w2.heap.size ≤ X.heap.size := (by have := hb3.size; have := hb5.size; have := bX.size; omega); clear hX rX ho5 hg5 HO2 HO3) | (at_builtin; rw [← HX.out]; refine wp_appW rfl _ _ rfl w2.heap.size _ kn us rfl O3.out (some ⟨w5.heap.size, 0, none⟩) 1 1 _ rfl RX.out rfl (by intro u hu; simp at hu; rcases hu with rfl | rfl <;> rfl) (by omega) hl2 (kn + 1) _ rfl rfl ?_; intro A7 c7 w7 ho7 hg7; have hb7 : Below w2.heap.size w2 w7 := (below_then (below_then hb3 hb5) bX).grown hg7 hl2 (fun q hq => (O3.out.lt q hq).1); have Q7 := Lib.hid (q2.out.up hb7); have R7 := Lib.hid (r2.out.up hb7); have D7 := Lib.hid (own_grown O3.out O5.out (by decide) hg7); have HO7 := Lib.hid ho7; have z0 := Q7.out.c0; have z1 := Q7.out.c1; have g0 := Q7.out.fr 0; have g1 := Q7.out.fr 1; have y0 := R7.out.c0; have y1 := R7.out.c1; have f0 := R7.out.fr 0; have f1 := R7.out.fr 1; clear ho7 hg7))
        have r8 : DkAt (w7.setCell ⟨w.heap.size, 1, none⟩ (.slice A7 (kn + 1) c7)) (w.heap.size + 1) none 0 0 none 0 0 := (heap_setCell_other _ _ _ _ (by show w.heap.size + 1 ≠ w.heap.size; omega)).trans R7.out
        have QS := Lib.hid (r8.s01 S sn sc A7 (kn + 1) c7)
        have BF := below2 ((below_then B2 hb7).setCell (p := ⟨w.heap.size, 1, none⟩) (Nat.le_refl w.heap.size) (.slice A7 (kn + 1) c7)) (q := w.heap.size + 1) (by omega) (.slice S sn sc) (.slice A7 (kn + 1) c7)
        have oF := own_far (own_far (own_far HO7.out Q7.out (by decide) 1 (.slice A7 (kn + 1) c7)) r8 (by decide) 0 (.slice S sn sc)) (r8.s0 S sn sc) (by decide) 1 (.slice A7 (kn + 1) c7)
        have dF : OwnB _ _ A5 m c5 ys := own_far (own_far (own_far D7.out Q7.out (by decide) 1 (.slice A7 (kn + 1) c7)) r8 (by decide) 0 (.slice S sn sc)) (r8.s0 S sn sc) (by decide) 1 (.slice A7 (kn + 1) c7)
        obtain ⟨e1, e2, e3, e4⟩ := own2_rd oF
        refine bodyPost_ret (dresults_cell_tmp Try.results19 _ _ (w.heap.size + 1) 25 _ (0, 0) _ rfl QS.out Try.underlying25 rfl (dkInfo ..)) rfl ?_
        exact ⟨S, sn, sc, A7, kn + 1, c7, rfl, ⟨⟨vs, HS.out.below BF⟩, _, e1, e2, e3, e4, WParts.snoc ha dF.rd (HUS.out.below BF).2.2.2.2⟩, BF⟩
    · have e : dkWriteE D a ys = 2 := by unfold dkWriteE; rw [if_neg (by simp [h4]), if_pos (by omega)]
      rw [hno (by rw [e]; decide), e]
      have d1 : ((m : Int) != 256) = true := by rw [bne_iff_ne]; omega
      clear hno e hm h4
      go_enter Try.func19, Try.ntmps19
      go_wp2_with fail
      rw [← HV.out]
      refine C1.out.mono ?_
      rintro e w1 ⟨rfl, hb1⟩
      have B1 := below_then bV hb1
      have q := Lib.hid (qV.out.up hb1)
      have r := Lib.hid (rV.out.up hb1)
      have x0 := q.out.c0
      have x1 := q.out.c1
      go_wp2_with fail
      refine (C2.out w1).mono ?_
      rintro e w2 ⟨rfl, hb2⟩
      have B2 := below_then B1 hb2
      have q := Lib.hid (q.out.up hb2)
      have r := Lib.hid (r.out.up hb2)
      have x0 := q.out.c0
      have x1 := q.out.c1
      have y0 := r.out.c0
      have y1 := r.out.c1
      have f0 := r.out.fr 0
      have f1 := r.out.fr 1
      have QS := Lib.hid (r.out.s01 S sn sc K kn kc)
      go_wp2_with fail
      refine bodyPost_ret (dresults_cell_tmp Try.results19 _ _ (w.heap.size + 1) 25 _ (0, 0) _ rfl QS.out Try.underlying25 rfl (dkInfo ..)) rfl ?_
      exact ⟨S, sn, sc, K, kn, kc, rfl, hr.far2 B2 (by omega) _ _, below2 B2 (by omega) _ _⟩
end Go.Proofs.Yteajboafcjeagaa
