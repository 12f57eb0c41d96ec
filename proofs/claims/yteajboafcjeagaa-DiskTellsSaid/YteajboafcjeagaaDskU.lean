/-
  Layer 5: disks: the document's New.
-/
import Derived.Test.YteajboafcjeagaaDskT
namespace Go.Proofs.Yteajboafcjeagaa
set_option maxRecDepth 20000
open Go.RowKit
set_option linter.unusedVariables false
set_option linter.unusedSimpArgs false
set_option maxHeartbeats 8000000

/-- 's = append(s, x...)' at [][]byte. -/
theorem op_appSS {o : Oper} {a : Act} {w : World} {K : Act → World → Prop} {Q : Exit → Act → World → Prop} (s x : Operand)
    (ho : o.op = .call { callee := .builtin .append, args := #[s, x], argTypes := #[22, 22] })
    (base : Nat) (v : Value) (n : Nat) (xs : List Value) (hs : a.eval s = v) (hown : w.ownsRow base 35 1 v n xs)
    (A : Option Addr) (m c : Nat) (news : List Value) (hx : a.eval x = .slice A m c) (hr : Rd w A news) (hm : news.length = m) (h1 : ∀ u ∈ news, u.oneCell' = true)
    (h63 : n + m ≤ 1000000) (hbase : base ≤ w.heap.size) (k : Nat) (zs : List Value) (hk : n + m = k) (hz : xs ++ news = zs)
    (h : ∀ A' c' w', w'.ownsRow base 35 1 (.slice A' k c') k zs → w.grownBy w' v.ownBlock → K (a.put o.dst (.slice A' k c')) w') : o.wp Try.prog a w K Q := by
  subst hk hz
  obtain ⟨A', c', w', hr', h2, h3⟩ := run_app (P := Try.prog) (w := w) delemSS o.type base v n xs hown A m c news hr hm h1 (by unfold maxLen; omega) (by omega) hbase
  unfold Oper.wp execOp
  simp only [ho, resolve, invoke, builtin, Sem.run_bind, Sem.run_pure, Result.andThen_ok, List.map_toArray, List.map_cons, List.map_nil, hs, hx, hr']
  exact h A' c' w' h2 h3
/-- The first k sectors are there. -/
def RnR (V : World) (A : Option Addr) (c k : Nat) (wr : World) : Prop := ∃ vs, wr.ownsRow V.heap.size 35 1 (.slice A k c) k vs ∧ ∀ j, j < k → ∃ B m d, vs[j]? = some (.slice B m d) ∧ OwnB wr V.heap.size B m d (List.replicate 256 0)
def RnI (w V : World) (n : Nat) (v : Value) (wr : World) : Prop := ∃ (k : Nat) (A : Option Addr) (c : Nat), k ≤ n ∧ v = .int .i64 (k : Int) ∧ Hid (RnR V A c k wr) ∧ Hid (DkAt wr w.heap.size none 0 0 none 0 0) ∧ Hid (DkAt wr (w.heap.size + 1) A k c none 0 0) ∧ Below w.heap.size w wr ∧ V.heap.size ≤ wr.heap.size
theorem RnR.far {V wr : World} {A : Option Addr} {c k : Nat} (h : RnR V A c k wr) {q : Nat} {cs : Array Value} {T : TypeId} {fr : Nat × Nat} (hq : wr.heap[q]? = some (.cells cs T fr)) (h1 : T ≠ 5) (h2 : T ≠ 35) (i : Nat) (v : Value) : RnR V A c k (wr.setCell ⟨q, i, none⟩ v) := by
  obtain ⟨vs, a, b⟩ := h
  refine ⟨vs, own_far a hq h2 i v, fun j hj => ?_⟩
  obtain ⟨B, m, d, h3, h4⟩ := b j hj
  exact ⟨B, m, d, h3, own_far h4 hq h1 i v⟩
theorem RnR.done {V wr : World} {A : Option Addr} {c k : Nat} (h : RnR V A c k wr) : RdDk wr A k c none 0 0 ⟨List.replicate k (List.replicate 256 0), []⟩ := by
  obtain ⟨vs, h1, h2⟩ := h
  have hl : vs.length = k := by have := h1.1; omega
  obtain ⟨A9, c9, hv9, e3, e4, _⟩ := own_form h1
  injection hv9 with hv8 _ hv9
  subst hv8 hv9
  refine ⟨⟨vs, Rd.of_own h1, hl, e3, e4, parts_get (by simp [hl]) (fun j hj => ?_)⟩, (rdDk_nil _).2⟩
  obtain ⟨B, m, d, h3, h4⟩ := h2 j (by omega)
  refine ⟨B, m, d, h3, ?_⟩
  have : (List.replicate k (List.replicate 256 (0 : UInt8))).getD j [] = List.replicate 256 0 := by
    rw [List.getD, List.getElem?_replicate, if_pos (by omega)]; rfl
  show RdB wr B m d ((List.replicate k (List.replicate 256 (0 : UInt8))).getD j [])
  rw [this]; exact h4.rd
theorem ref_New_any (n : Int) (w : World) (hn : -9223372036854775808 ≤ n ∧ n ≤ 9223372036854775807) :
    Calls Try.prog 25 #[.int .i64 n] w (RetDk w (dkNew n) (dkNewE n)) := by
  by_cases hb : n < 0 ∨ 256 < n
  · obtain ⟨V, hV⟩ : ∃ V, V = w.alloc (.cells #[.slice none 0 0, .slice none 0 0] 25) := ⟨_, rfl⟩
    have bV : Below w.heap.size w V := by rw [hV]; exact (below_self w).alloc (Nat.le_refl _) _
    have rV : Hid (DkAt V w.heap.size none 0 0 none 0 0) := by rw [hV]; exact Lib.hid (drw_at _ rfl)
    have e1 : dkNewE n = 2 := by unfold dkNewE; rw [if_pos hb]
    rw [e1, show dkNew n = ⟨[], []⟩ by unfold dkNew; rw [if_neg (by rw [e1]; decide)]]
    have HV := Lib.hid hV
    have QS := Lib.hid rV.out
    have BF := bV
    rw [hV] at QS BF
    clear hV
    by_cases h0 : n < 0
    · have d1 : decide (n < 0) = true := decide_eq_true h0
      clear e1 hb
      go_enter Try.func25, Try.ntmps25
      go_wp2_with fail
      refine bodyPost_ret (dresults_cell_tmp Try.results25 _ _ (w.heap.size) 25 _ (0, 0) _ rfl QS.out Try.underlying25 rfl (dkInfo ..)) rfl ?_
      exact ⟨none, 0, 0, none, 0, 0, rfl, rdDk_nil _, BF⟩
    · have d1 : decide (n < 0) = false := decide_eq_false h0
      have d2 : decide (256 < n) = true := decide_eq_true (by omega)
      clear e1 hb
      go_enter Try.func25, Try.ntmps25
      go_wp2_with fail
      refine bodyPost_ret (dresults_cell_tmp Try.results25 _ _ (w.heap.size) 25 _ (0, 0) _ rfl QS.out Try.underlying25 rfl (dkInfo ..)) rfl ?_
      exact ⟨none, 0, 0, none, 0, 0, rfl, rdDk_nil _, BF⟩
  · obtain ⟨k9, rfl⟩ : ∃ k : Nat, n = (k : Int) := ⟨n.toNat, by omega⟩
    have hk9 : k9 ≤ 256 := by omega
    have e1 : dkNewE (k9 : Int) = 0 := by unfold dkNewE; rw [if_neg hb]
    rw [e1, show dkNew (k9 : Int) = ⟨List.replicate k9 (List.replicate 256 0), []⟩ by unfold dkNew; rw [if_pos e1]; simp]
    have d1 : decide ((k9 : Int) < 0) = false := decide_eq_false (by omega)
    have d2 : decide ((256 : Int) < (k9 : Int)) = false := decide_eq_false (by omega)
    obtain ⟨V, hV⟩ : ∃ V, V = (w.alloc (.cells #[.slice none 0 0, .slice none 0 0] 25)).alloc (.cells #[.slice none 0 0, .slice none 0 0] 25) := ⟨_, rfl⟩
    have bV : Below w.heap.size w V := by rw [hV]; exact ((below_self w).alloc (Nat.le_refl _) _).alloc (by simp) _
    have rV : Hid (DkAt V w.heap.size none 0 0 none 0 0) := by rw [hV]; exact Lib.hid (drw_old _ (drw_at _ rfl))
    have qV : Hid (DkAt V (w.heap.size + 1) none 0 0 none 0 0) := by rw [hV]; exact Lib.hid (drw_at _ (by simp))
    have zV : V.heap.size = w.heap.size + 1 + 1 := by rw [hV]; simp
    have HV := Lib.hid hV
    have ZV := Lib.hid zV
    clear hV e1 hb zV
    go_enter Try.func25, Try.ntmps25
    go_wp2_with (rw [← HV.out])
    go_loopw [5] (RnI w V k9) (fun i _ => k9 - (intOf i).toNat)
    case atStart => exact ⟨0, none, 0, by omega, rfl, Lib.hid ⟨[], World.ownsRow_nil _ _ _ _, fun j hj => by omega⟩, rV, qV, bV, Nat.le_refl _⟩
    case round =>
    obtain ⟨k, A, c, hk, rfl, hS, hR, hQ, hB, hz⟩ := hrel
    by_cases hlt : k < k9
    · have c0 := hQ.out.c0
      have c1 := hQ.out.c1
      have lq := hQ.out.lt
      have l1 : (k : Int) < (k9 : Int) := by omega
      have lV : w.heap.size + 1 < V.heap.size := by have := ZV.out; omega
      obtain ⟨vs, hO, hP⟩ := hS.out
      have HO := Lib.hid hO
      have HP := Lib.hid hP
      clear hO hP hS
      go_wp2_with fail
      refine wp_region_last (S := fun w' => Below (V.heap.size) wr w') 6 #[true, true, true, true, true, true, false] [(0, true), (1, true), (2, false), (3, false), (4, false), (5, true)] (by kernel_rfl) (by kernel_rfl) (fun _ _ d _ _ h => by cases d <;> exact h) ((Below.refl _ wr).drew) ?_
      iterate 2 (refine seg_take (v := ?_) rfl (Or.inl ⟨by rfl, ?_⟩) ?_; rotate_left; (focus (intro w' hw'; have j0 := (hw'.cell (p := ⟨w.heap.size + 1, 0, none⟩) lV).trans c0; go_simp <;> with_reducible rfl)); try simp only [Act.put, List.setIfInBounds_toArray, List.set_cons_zero, List.set_cons_succ])
      refine seg_run rfl (fun K hK => ?_)
      rw [if_pos (by rfl)]
      refine op_makeB _ _ rfl .i64 .i64 256 rfl rfl (by omega) ?_
      intro w4 ho4 hb4
      refine hK.out _ _ (((undrew hb4).mono hz)) ?_
      clear hK
      try simp only [Act.put, List.setIfInBounds_toArray, List.set_cons_zero, List.set_cons_succ]
      refine seg_run rfl (fun K hK => ?_)
      rw [if_pos (by rfl)]
      refine op_lit #[.slice (some ⟨wr.drew.heap.size, 0, none⟩) 256 256] 35 1 rfl (fun w => by go_simp) ?_
      intro g5 w5 e5 hr5 hb5 hz5
      refine hK.out _ _ ((((undrew hb4).mono hz).trans (hb5.mono (Nat.le_trans hz (undrew hb4).size)))) ?_
      clear hK
      try simp only [Act.put, List.setIfInBounds_toArray, List.set_cons_zero, List.set_cons_succ]
      refine seg_run rfl (fun K hK => ?_)
      rw [if_pos (by rfl)]
      have hb45 := below_then (undrew hb4) hb5
      have O5 := down_keep HO.out hb45
      refine op_appSS _ _ rfl V.heap.size _ k vs rfl O5 (some ⟨g5, 0, none⟩) 1 1 [.slice (some ⟨wr.drew.heap.size, 0, none⟩) 256 256] rfl (.inr ⟨g5, 0, rfl, drw_lt hr5, fun i v hv => by rw [Nat.zero_add, cell_of_row w5 g5 i _ _ _ hr5]; simpa using hv⟩) rfl (by intro u hu; simp at hu; subst hu; rfl) (by omega) (by have := hb45.size; omega) (k + 1) _ rfl rfl ?_
      intro A7 c7 w7 ho7 hg7
      have hb7 : Below V.heap.size wr w7 := (hb45.mono hz).grown hg7 (by have := hb45.size; omega) (fun q hq => (O5.lt q hq).1)
      refine hK.out _ _ (hb7) ?_
      clear hK
      try simp only [Act.put, List.setIfInBounds_toArray, List.set_cons_zero, List.set_cons_succ]
      iterate 1 (refine seg_take (v := ?_) rfl (Or.inl ⟨by rfl, ?_⟩) ?_; rotate_left; (focus (intro w' hw'; have j0 := (hw'.cell (p := ⟨w.heap.size + 1, 0, none⟩) lV).trans c0; go_simp <;> with_reducible rfl)); try simp only [Act.put, List.setIfInBounds_toArray, List.set_cons_zero, List.set_cons_succ])
      refine seg_done ?_
      refine last_run rfl (fun K hK => ?_)
      go_simp
      have z0 := (hb7.cell (p := ⟨w.heap.size + 1, 0, none⟩) lV).trans c0
      have z1 := (hb7.frozen (p := ⟨w.heap.size + 1, 0, none⟩) lV).trans (hQ.out.fr 0)
      go_simp
      refine hK.out _ _ ?_
      clear hK
      try simp only [Act.put, List.setIfInBounds_toArray, List.set_cons_zero, List.set_cons_succ]
      have RN : RnR V A7 c7 (k + 1) w7 := ⟨_, ho7, fun j hj => by
        have hl : vs.length = k := by have := HO.out.1; omega
        rcases Nat.lt_or_ge j k with hjk | hjk
        · obtain ⟨B, m, d, h3, h4⟩ := HP.out j hjk
          exact ⟨B, m, d, by rw [List.getElem?_append_left (by omega)]; exact h3, own_grown O5 (OwnB.below h4 hb45) (by decide) hg7⟩
        · obtain rfl : j = k := by omega
          refine ⟨_, 256, 256, by rw [List.getElem?_append_right (by omega), hl, Nat.sub_self]; rfl, ?_⟩
          have h4 : OwnB w5 V.heap.size _ 256 256 _ := (OwnB.below ho4 hb5).mono hz
          exact own_grown O5 h4 (by decide) hg7⟩
      have Q7 : DkAt w7 (w.heap.size + 1) A k c none 0 0 := (hb7.block _ lV).trans hQ.out
      have R7 : DkAt w7 w.heap.size none 0 0 none 0 0 := (hb7.block _ (by omega)).trans hR.out
      have RN9 := Lib.hid (RN.far Q7 (by decide) (by decide) 0 (.slice A7 (k + 1) c7))
      have Q9 := Lib.hid (Q7.s0 A7 (k + 1) c7)
      have R9 : Hid (DkAt (w7.setCell ⟨w.heap.size + 1, 0, none⟩ (.slice A7 (k + 1) c7)) w.heap.size none 0 0 none 0 0) := Lib.hid ((heap_setCell_other _ _ _ _ (by show w.heap.size ≠ w.heap.size + 1; omega)).trans R7)
      have B9 : Below w.heap.size w (w7.setCell ⟨w.heap.size + 1, 0, none⟩ (.slice A7 (k + 1) c7)) := (hB.trans (hb7.mono (by omega))).setCell (p := ⟨w.heap.size + 1, 0, none⟩) (by show w.heap.size ≤ w.heap.size + 1; omega) _
      have z9 : V.heap.size ≤ (w7.setCell ⟨w.heap.size + 1, 0, none⟩ (.slice A7 (k + 1) c7)).heap.size := by have := hb7.size; simp; omega
      clear RN Q7 R7
      go_wp2_with fail
      go_roundw
      case rel => exact ⟨k + 1, A7, c7, by omega, by go_num, RN9, R9, Q9, B9, z9⟩
      case measure => simp [intOf]; omega
    · obtain rfl : k9 = k := by omega
      have x0 := hQ.out.c0
      have x1 := hQ.out.c1
      have y0 := hR.out.c0
      have y1 := hR.out.c1
      have f0 := hR.out.fr 0
      have f1 := hR.out.fr 1
      have QS := Lib.hid (hR.out.s01 A k9 c none 0 0)
      have BF := below2 hB (q := w.heap.size) (Nat.le_refl _) (.slice A k9 c) (.slice none 0 0)
      have RF := ((hS.out.far hR.out (by decide) (by decide) 0 (.slice A k9 c)).far (hR.out.s0 A k9 c) (by decide) (by decide) 1 (.slice none 0 0)).done
      go_wp2_with fail
      refine bodyPost_ret (dresults_cell_tmp Try.results25 _ _ (w.heap.size) 25 _ (0, 0) _ rfl QS.out Try.underlying25 rfl (dkInfo ..)) rfl ?_
      exact ⟨A, k9, c, none, 0, 0, rfl, RF, BF⟩
end Go.Proofs.Yteajboafcjeagaa
