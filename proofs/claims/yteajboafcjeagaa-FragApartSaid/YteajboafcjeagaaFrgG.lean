/-
  Layer 21: frag: rows of datagrams of the call's own; Clone, Delete (gfrg.py, out of the texts on neighbours).
-/
import Derived.Test.YteajboafcjeagaaFrgF
import Derived.ArgAppend
import Derived.LoopTactic
namespace Go.Proofs.Yteajboafcjeagaa
set_option maxRecDepth 20000
open Go.RowKit
set_option linter.unusedVariables false
set_option linter.unusedSimpArgs false
set_option maxHeartbeats 8000000

theorem own262_form {w : World} {base : Nat} {e : TypeId} {v : Value} {n : Nat} {xs : List Value} (h : w.ownsRow base e 262 v n xs) : ∃ A c, v = .slice A n c := by
  rcases h.2 with ⟨rfl, rfl⟩ | ⟨g, cap, cur, rfl, _⟩
  · exact ⟨none, 0, by have := h.1; simp at this; subst this; rfl⟩
  · exact ⟨_, _, rfl⟩
theorem own262_rd {w : World} {base : Nat} {e : TypeId} {A : Option Addr} {n c : Nat} {xs : List Value} (h : w.ownsRow base e 262 (.slice A n c) n xs) : Rd w A xs ∧ xs.length = 262 * n ∧ n ≤ c ∧ c ≤ maxLen := by
  have hl := h.1
  rcases h.2 with ⟨h1, h2⟩ | ⟨g, cap, cur, hv, hb, hg, hc, hm, hs, ht⟩
  · injection h1 with e1 e2 e3
    subst e1 e2 e3
    have : xs = [] := List.eq_nil_of_length_eq_zero (by simpa using hl)
    subst this
    exact ⟨.inl rfl, rfl, Nat.le_refl _, by simp [maxLen]⟩
  · injection hv with e1 e2 e3
    subst e1 e3
    refine ⟨.inr ⟨g, 0, rfl, frw_lt hg, fun i u hu => ?_⟩, by omega, hc, hm⟩
    rw [Nat.zero_add, cell_of_row w g i cur e (0, 0) hg, ← hu, ← ht, List.getElem?_take]
    have hi : i < xs.length := (List.getElem?_eq_some_iff.1 hu).1
    rw [if_pos (by omega)]; simp
theorem frInfo : ∃ i : TypeInfo, Try.prog.info? 85 = some i ∧ i.zero = some (.agg (frA fr0)) ∧ i.size = 262 ∧ i.bytes = 296 := elemFr.info
theorem run_appFr {w : World} (ty : TypeId) (base : Nat) (v : Value) (n : Nat) (xs : List Value) (hown : w.ownsRow base 85 262 v n xs)
    (A : Option Addr) (m c : Nat) (news : List Value) (hr : Rd w A news) (hm : news.length = 262 * m) (h1 : ∀ u ∈ news, u.oneCell' = true)
    (h63 : n + m ≤ 1000) (hbase : base ≤ w.heap.size) :
    ∃ A' c' w', (Builtin.append_ #[56, 56] ty #[v, .slice A m c]).run Try.prog w = .ok (.slice A' (n + m) c') w' ∧ w'.ownsRow base 85 262 (.slice A' (n + m) c') (n + m) (xs ++ news) ∧ w.grownBy w' v.ownBlock := by
  obtain ⟨i, hi, hz, hsz, hby⟩ := frInfo
  have hsl : Try.prog.underlying 56 = some (.slice 85) := Try.underlying56
  have fin : ∀ (v' : Value) (w' : World), w'.ownsRow base 85 262 v' (n + m) (xs ++ news) → ∃ A' c', v' = .slice A' (n + m) c' := fun v' w' h => own262_form h
  by_cases h0 : news = []
  · subst h0
    obtain rfl : m = 0 := by simp at hm; omega
    rcases A with _ | a
    · have hrun : (Builtin.append_ #[56, 56] ty #[v, .slice none 0 c]).run Try.prog w = .ok v w := by
        rcases hown.2 with ⟨rfl, rfl⟩ | ⟨g, cap, cur, rfl, _, _, hnc, _⟩
        · simp [Builtin.append_, run_underlying hsl, sizeOf, typeInfo, hi, Builtin.lenOf, Builtin.firstCells]
        · simp [Builtin.append_, run_underlying hsl, sizeOf, typeInfo, hi, Builtin.lenOf, Builtin.firstCells, hnc, storeCells]
      obtain ⟨A', c', rfl⟩ := fin v w (by simpa using hown)
      exact ⟨A', c', w, by simpa using hrun, by simpa using hown, World.grownBy.refl _ _⟩
    · obtain ⟨v', w', hrun, ho, hg, _⟩ := run_append_own_at (P := Try.prog) w base 56 ty 85 i _ 262 296 hsl hi hz hsz hby (by kernel_rfl) (by decide) v n xs hown a 0 c [] (by simp) (by simp) (by simp) (by unfold maxLen; omega) (by omega) hbase
      obtain ⟨A', c', rfl⟩ := fin v' w' ho
      exact ⟨A', c', w', hrun, ho, hg⟩
  · rcases hr with h | ⟨b, o, rfl, hb, hc⟩
    · exact absurd h h0
    · obtain ⟨v', w', hrun, ho, hg, _⟩ := run_append_own_at (P := Try.prog) w base 56 ty 85 i _ 262 296 hsl hi hz hsz hby (by kernel_rfl) (by decide) v n xs hown ⟨b, o, none⟩ m c news (by omega) (fun j u hj => by
        have := hc j u hj
        rwa [Addr.add_lit]) h1 (by unfold maxLen; omega) (by omega) hbase
      obtain ⟨A', c', rfl⟩ := fin v' w' ho
      exact ⟨A', c', w', hrun, ho, hg⟩
/-- 'append(s, x...)' of writes: s owned, x whatever is read. -/
theorem wp_appFr {w : World} {ops : Array Oper} {rest : List Oper} {o : Oper} {a : Act} {Q : Exit → Act → World → Prop} (hgd : o.guard = none) (s x : Operand)
    (ho : o.op = .call { callee := .builtin .append, args := #[s, x], argTypes := #[56, 56] })
    (base : Nat) (v : Value) (n : Nat) (xs : List Value) (hs : a.eval s = v) (hown : w.ownsRow base 85 262 v n xs)
    (A : Option Addr) (m c : Nat) (news : List Value) (hx : a.eval x = .slice A m c) (hr : Rd w A news) (hm : news.length = 262 * m) (h1 : ∀ u ∈ news, u.oneCell' = true)
    (h63 : n + m ≤ 1000) (hbase : base ≤ w.heap.size) (k : Nat) (zs : List Value) (hk : n + m = k) (hz : xs ++ news = zs)
    (h : ∀ A' c' w', w'.ownsRow base 85 262 (.slice A' k c') k zs → w.grownBy w' v.ownBlock → wpList Try.prog ops Q rest (a.put o.dst (.slice A' k c')) w') : wpList Try.prog ops Q (o :: rest) a w := by
  subst hk hz
  refine wpList_plain hgd fun K hK => ?_
  obtain ⟨A', c', w', hr, h2, h3⟩ := run_appFr (w := w) o.type base v n xs hown A m c news hr hm h1 h63 hbase
  unfold Oper.wp execOp
  simp only [ho, resolve, invoke, builtin, Sem.run_bind, Sem.run_pure, Result.andThen_ok, List.map_toArray, List.map_cons, List.map_nil, hs, hx, hr]
  exact hK _ _ (h A' c' w' h2 h3)
/-- Datagrams of the call's own. -/
def OwFr (w : World) (base : Nat) (A : Option Addr) (n c : Nat) (l : List Fr) : Prop := w.ownsRow base 85 262 (.slice A n c) n (l.flatMap frV) ∧ ∀ x ∈ l, x.ok
theorem OwFr.lent {w : World} {base : Nat} {A : Option Addr} {n c : Nat} {l : List Fr} (h : OwFr w base A n c l) : l.length = n := by
  have hl := h.1.1
  rw [frs_len h.2] at hl
  omega
theorem OwFr.rd {w : World} {base : Nat} {A : Option Addr} {n c : Nat} {l : List Fr} (h : OwFr w base A n c l) : RdFr w A n c l := by
  obtain ⟨h1, h2, h3, h4⟩ := own262_rd h.1
  exact ⟨h1, h.lent, h3, h4, h.2⟩
theorem OwFr.up {w w' : World} {base : Nat} {A : Option Addr} {n c : Nat} {l : List Fr} (h : OwFr w base A n c l) (hb : Below w.heap.size w w') : OwFr w' base A n c l := by
  refine ⟨⟨h.1.1, ?_⟩, h.2⟩
  rcases h.1.2 with h1 | ⟨g, cap, cur, hv, hbb, hg, r⟩
  · exact .inl h1
  · exact .inr ⟨g, cap, cur, hv, hbb, (hb.block g (frw_lt hg)).trans hg, r⟩
theorem OwFr.mono {w : World} {base base' : Nat} {A : Option Addr} {n c : Nat} {l : List Fr} (h : OwFr w base A n c l) (hb : base' ≤ base) : OwFr w base' A n c l := by
  refine ⟨⟨h.1.1, ?_⟩, h.2⟩
  rcases h.1.2 with h1 | ⟨g, cap, cur, hv, hbb, r⟩
  · exact .inl h1
  · exact .inr ⟨g, cap, cur, hv, Nat.le_trans hb hbb, r⟩
theorem OwFr.blk {w : World} {base : Nat} {A : Option Addr} {n c : Nat} {l : List Fr} (h : OwFr w base A n c l) : ∀ a, A = some a → base ≤ a.block ∧ a.block < w.heap.size := by
  intro a ha
  subst ha
  exact h.1.lt a.block rfl
theorem OwFr.row {w : World} {base : Nat} {A : Option Addr} {n c : Nat} {l : List Fr} (h : OwFr w base A n c l) (hn : 1 ≤ n) :
    ∃ g zs, A = some ⟨g, 0, none⟩ ∧ base ≤ g ∧ RowAt w 85 g zs ∧ zs.length = c * 262 ∧ n ≤ c ∧ c ≤ maxLen ∧ zs.take (n * 262) = l.flatMap frV ∧ l.length = n := by
  have hl := h.lent
  rcases h.1.2 with ⟨h1, h2⟩ | ⟨g, cap, cur, hv, hb, hg, hc, hm, hs, ht⟩
  · omega
  · injection hv with e1 e2 e3
    subst e1 e3
    exact ⟨g, cur.toList, rfl, hb, hg, by simpa using hs, hc, hm, ht, hl⟩
theorem ofr_of_row {w : World} {base g n c : Nat} {zs : List Value} {l : List Fr} (hb : base ≤ g) (hr : RowAt w 85 g zs) (hz : zs.length = c * 262) (hn : n ≤ c) (hc : c ≤ maxLen) (ht : zs.take (n * 262) = l.flatMap frV) (hl : l.length = n) (hok : ∀ x ∈ l, x.ok) : OwFr w base (some ⟨g, 0, none⟩) n c l := by
  have h3 := frs_len hok
  exact ⟨⟨by rw [h3]; omega, .inr ⟨g, c, zs.toArray, rfl, hb, hr, hn, hc, by simpa using hz, by simpa using ht⟩⟩, hok⟩
theorem frow_tail {w : World} {g n : Nat} {zs : List Value} {l : List Fr} (hok : ∀ x ∈ l, x.ok) (hr : RowAt w 85 g zs) (ht : zs.take (n * 262) = l.flatMap frV) (k : Nat) (hk : k ≤ n) : Rd w (some ⟨g, k * 262, none⟩) ((l.drop k).flatMap frV) := by
  have := hr.rd (k * 262) ((n - k) * 262)
  rw [← frs_drop _ _ hok, ← ht]
  rw [List.drop_take]
  have e : n * 262 - k * 262 = (n - k) * 262 := by omega
  rw [e]
  exact this
theorem cloneFr_any (A : Option Addr) (n c : Nat) (l : List Fr) (w : World) (hr : RdFr w A n c l) (hm : n ≤ 100) :
    Calls Try.prog 62 #[.slice A n c] w (fun e w' => ∃ A' c', e = .returned (.slice A' n c') ∧ OwFr w' w.heap.size A' n c' l ∧ Below w.heap.size w w') := by
  have kn := fun (W : World) (A : Option Addr) (n c n' c' : Nat) => Lib.run_eql_slice_nil (P := Try.prog) W 56 85 A n c n' c' Try.underlying56
  rcases A with _ | a
  · obtain ⟨h1, h2, h3, h4, h5⟩ := hr
    have hx : l = [] := by
      rcases h1 with h1 | ⟨b, o, h, _⟩
      · have := frs_len h5
        rw [h1] at this
        exact List.eq_nil_of_length_eq_zero (by simp at this; omega)
      · cases h
    subst hx
    obtain rfl : 0 = n := h2
    go_enter Try.func62, Try.ntmps62
    go_wp2
    go_ret
    exact ⟨none, 0, rfl, ⟨World.ownsRow_nil _ _ _ _, h5⟩, Below.refl _ _⟩
  · have hown := World.ownsRow_lit (size := 262) (e := 85) w #[] 0 (Nat.le_refl _) (by simp [maxLen]) rfl
    have HL := Lib.hid hr.2.1
    have HOK := Lib.hid hr.2.2.2.2
    go_enter Try.func62, Try.ntmps62
    go_wp2_with (at_builtin; refine wp_appFr rfl _ _ rfl w.heap.size _ 0 _ rfl hown _ n c _ rfl (hr.1.alloc _) (by rw [frs_len HOK.out, HL.out, Nat.mul_comm]) (frs_one l) (by omega) (by simp) n _ (by omega) rfl ?_; intro A4 c4 w4 ho4 hg4)
    have hb4 : Below w.heap.size w w4 := ((Below.refl _ _).alloc (Nat.le_refl _) _).grown hg4 (by simp) (fun q hq => by have := (hown.lt q hq).1; omega)
    go_wp2
    go_ret
    exact ⟨A4, c4, rfl, ⟨by simpa using ho4, HOK.out⟩, hb4⟩
def RetDelF (w : World) (base : Nat) (A : Option Addr) (n c : Nat) (l : List Fr) (e : Ending) (w' : World) : Prop := e = .returned (.slice A n c) ∧ OwFr w' base A n c l ∧ Below base w w' ∧ ∀ j, (∀ q, A = some q → q.block ≠ j) → w'.heap[j]? = w.heap[j]?
set_option maxRecDepth 100000 in
theorem delFr_any (base : Nat) (A : Option Addr) (n c : Nat) (l : List Fr) (k : Nat) (w : World) (hown : OwFr w base A n c l) (hk : k < n) (hn8 : n ≤ 100) (m : Nat) (hm : m + 1 = n) :
    Calls Try.prog 53 #[.slice A n c, .int .i64 (k : Int), .int .i64 ((k : Int) + 1)] w (RetDelF w base A m c (l.take k ++ l.drop (k + 1))) := by
  obtain ⟨g, zs, rfl, hb, hrow, hz, hnc, hcm, ht, hl⟩ := hown.row (by omega)
  have hok0 := hown.2
  have hod : ∀ x ∈ l.drop (k + 1), x.ok := fun x hx => hok0 x (List.mem_of_mem_drop hx)
  have HOKS : Hid (∀ x ∈ l.take k ++ l.drop (k + 1), x.ok) := Lib.hid (fun x hx => by
    rcases List.mem_append.1 hx with h | h
    · exact hok0 x (List.mem_of_mem_take h)
    · exact hok0 x (List.mem_of_mem_drop h))
  have hc63 : c ≤ 9223372036854775807 := by unfold maxLen at hcm; omega
  have e1 : ((k : Int) == (k : Int) + 1) = false := beq_eq_false_iff_ne.2 (by omega)
  have b1 : (0 : Int) ≤ (k : Int) + 1 := by omega
  have b2 : (k : Int) ≤ (k : Int) + 1 := by omega
  have b3 : (k : Int) + 1 ≤ (n : Int) := by omega
  have b4 : (n : Int) ≤ (c : Int) := by omega
  have b5 : ((k : Int) + 1).toNat = k + 1 := by omega
  have b6 : (k : Int) ≤ (c : Int) := by omega
  have hsrc := frow_tail hown.2 hrow ht (k + 1) (by omega)
  have hsl : ((l.drop (k + 1)).flatMap frV).length = (n - (k + 1)) * 262 := by rw [frs_len hod, List.length_drop, hl]
  obtain ⟨zs1, hzs1⟩ : ∃ z, z = zs.take (k * 262) ++ (l.drop (k + 1)).flatMap frV ++ zs.drop (k * 262 + ((l.drop (k + 1)).flatMap frV).length) := ⟨_, rfl⟩
  have hlen1 : zs1.length = c * 262 := by rw [hzs1, List.length_append, List.length_append, List.length_take, List.length_drop, hsl, hz]; omega
  have htk1 : zs1.take (m * 262) = (l.take k ++ l.drop (k + 1)).flatMap frV := by
    have e : (zs.take (k * 262) ++ (l.drop (k + 1)).flatMap frV).length = m * 262 := by rw [List.length_append, List.length_take, hsl, hz]; omega
    rw [hzs1, List.take_left' e, List.flatMap_append]
    congr 1
    rw [← frs_take _ _ hok0, ← ht, List.take_take]
    congr 1; omega
  have ha : ∀ (A : Option Addr) (d q : Nat), q = n - (k + 1) → (A = some ⟨g, (k + 1) * 262, none⟩ ∨ (k + 1 = n)) → ∀ (W : World) ty, RowAt W 85 g zs → ∃ w', (Builtin.append_ #[56, 56] ty #[.slice (some ⟨g, 0, none⟩) k c, .slice A q d]).run Try.prog W = .ok (.slice (some ⟨g, 0, none⟩) m c) w' ∧ Wrote W w' 85 g zs1 := by
    rintro A d q rfl hA W ty hW
    have hs2 : Rd W A ((l.drop (k + 1)).flatMap frV) := by
      rcases hA with rfl | hA
      · exact frow_tail hok0 hW ht (k + 1) (by omega)
      · left
        rw [List.drop_eq_nil_of_le (by omega)]; rfl
    obtain ⟨w', h1, h2⟩ := run_appK_room elemFr hW ty k c A (n - (k + 1)) d _ hs2 hsl (by omega) (by rw [hsl, hz]; omega) (frs_one _)
    rw [← hzs1] at h2
    rw [show k + (n - (k + 1)) = m by omega] at h1
    exact ⟨w', h1, h2⟩
  have hb2 : ∀ (W : World) ty (d q : Nat), q = n - m → RowAt W 85 g zs1 → ∃ w', (Builtin.clear_ #[56] ty #[.slice (some ⟨g, m * 262, none⟩) q d]).run Try.prog W = .ok (.tuple #[]) w' ∧ ∃ zs2, Wrote W w' 85 g zs2 ∧ zs2.length = c * 262 ∧ zs2.take (m * 262) = (l.take k ++ l.drop (k + 1)).flatMap frV := by
    rintro W ty d q rfl hW
    obtain ⟨w', h1, h2⟩ := run_clearK elemFr (by intro v hv; exact frV_one fr0 v (by simpa [frA, Value.cells] using hv)) hW ty (m * 262) (n - m) d (by rw [hlen1]; omega)
    refine ⟨w', h1, _, h2, ?_, ?_⟩
    · rw [List.length_append, List.length_append, List.length_take, List.length_drop, hlen1, zer_len elemFr]; omega
    · rw [List.append_assoc, List.take_left' (by rw [List.length_take, hlen1]; omega), htk1]
  have HA := Lib.hid ha
  have HB2 := Lib.hid hb2
  have HROW := Lib.hid hrow
  have HL := Lib.hid (show (l.take k ++ l.drop (k + 1)).length = m by rw [List.length_append, List.length_take, List.length_drop, hl]; omega)
  clear hown hrow ht hl hz hsrc hsl hzs1 hlen1 htk1 ha hb2
  have b7 : (m : Int) ≤ (n : Int) := by omega
  have b8 : ¬ (c = m) := by omega
  have hkc : k ≤ c := by omega
  by_cases hck : c = k + 1
  · obtain rfl : m = k := by omega
    obtain rfl : m + 1 = n := hm
    obtain rfl : c = m + 1 := hck
    have hle : m ≤ m + 1 := by omega
    go_enter Try.func53, Try.ntmps53
    go_wp2_with fail
    refine wp_region_seg (S := fun _ => True) 0 #[true, true, true, true, true, true, true, true] [(0, true), (1, true), (2, true), (3, true), (4, true), (5, true), (6, false), (7, true)] (by kernel_rfl) (by kernel_rfl) (fun _ _ d _ _ h => by first | (cases d <;> exact h) | cases h.1) (trivial) ?_
    have HB := trivial
    iterate 6 (refine seg_take (v := ?_) rfl (Or.inl ⟨by rfl, ?_⟩) ?_; rotate_left; (focus (intro w' hw'; go_simp <;> with_reducible rfl)); try simp only [Act.put, List.setIfInBounds_toArray, List.set_cons_zero, List.set_cons_succ])
    refine seg_run rfl (fun K hK => ?_)
    rw [if_pos (by rfl)]
    obtain ⟨w1, hr1, hW1⟩ := HA.out (some ⟨g, 0, none⟩) 0 0 (by omega) (.inr trivial) w.drew 56 HROW.out.drew
    have HW1 := Lib.hid hW1.drew
    refine op_appRun _ _ _ _ rfl _ _ rfl rfl hr1 ?_
    clear hr1 hW1
    refine hK.out _ _ (HB) ?_
    clear hK
    try simp only [Act.put, List.setIfInBounds_toArray, List.set_cons_zero, List.set_cons_succ]
    iterate 1 (refine seg_take (v := ?_) rfl (Or.inl ⟨by rfl, ?_⟩) ?_; rotate_left; (focus (intro w' hw'; go_simp <;> with_reducible rfl)); try simp only [Act.put, List.setIfInBounds_toArray, List.set_cons_zero, List.set_cons_succ])
    refine seg_done (fun _ => ?_)
    refine wpAnyH_done (by kernel_rfl) ?_ _
    obtain ⟨w2, hr2, zs2, hW2, hz2, ht2⟩ := HB2.out w1 0 1 1 (by omega) HW1.out.row
    have HW2 := Lib.hid hW2
    have HT2 := Lib.hid ht2
    clear hW2 ht2
    go_wp2_with (refine wp_clearRun rfl _ _ rfl _ rfl hr2 ?_)
    clear hr2
    go_ret
    exact ⟨rfl, ofr_of_row hb HW2.out.row hz2 (by omega) hcm HT2.out HL.out HOKS.out, (HW1.out.below base hb).trans (HW2.out.below base hb), fun j hj => (HW2.out.other j (Ne.symm (hj _ rfl))).trans (HW1.out.other j (Ne.symm (hj _ rfl)))⟩
  · have hck2 : ¬ (k + 1 = c) := by omega
    have HM := Lib.hid hm
    clear hm
    go_enter Try.func53, Try.ntmps53
    go_wp2_with fail
    refine wp_region_seg (S := fun _ => True) 0 #[true, true, true, true, true, true, true, true] [(0, true), (1, true), (2, true), (3, true), (4, true), (5, true), (6, false), (7, true)] (by kernel_rfl) (by kernel_rfl) (fun _ _ d _ _ h => by first | (cases d <;> exact h) | cases h.1) (trivial) ?_
    have HB := trivial
    iterate 6 (refine seg_take (v := ?_) rfl (Or.inl ⟨by rfl, ?_⟩) ?_; rotate_left; (focus (intro w' hw'; go_simp <;> with_reducible rfl)); try simp only [Act.put, List.setIfInBounds_toArray, List.set_cons_zero, List.set_cons_succ])
    refine seg_run rfl (fun K hK => ?_)
    rw [if_pos (by rfl)]
    obtain ⟨w1, hr1, hW1⟩ := HA.out (some ⟨g, (k + 1) * 262, none⟩) (c - (k + 1)) (n - (k + 1)) rfl (.inl rfl) w.drew 56 HROW.out.drew
    have HW1 := Lib.hid hW1.drew
    refine op_appRun _ _ _ _ rfl _ _ rfl rfl hr1 ?_
    clear hr1 hW1
    refine hK.out _ _ (HB) ?_
    clear hK
    try simp only [Act.put, List.setIfInBounds_toArray, List.set_cons_zero, List.set_cons_succ]
    iterate 1 (refine seg_take (v := ?_) rfl (Or.inl ⟨by rfl, ?_⟩) ?_; rotate_left; (focus (intro w' hw'; go_simp <;> with_reducible rfl)); try simp only [Act.put, List.setIfInBounds_toArray, List.set_cons_zero, List.set_cons_succ])
    refine seg_done (fun _ => ?_)
    refine wpAnyH_done (by kernel_rfl) ?_ _
    have hnm : m ≤ n := by omega
    have hr2 := HB2.out w1 56 (c - m) (n - m) rfl HW1.out.row
    obtain ⟨w2, hr2, zs2, hW2, hz2, ht2⟩ := hr2
    have HW2 := Lib.hid hW2
    have HT2 := Lib.hid ht2
    have HR2 := Lib.hid hr2
    clear hW2 ht2 hr2
    go_wp2_with (refine wp_clearRun rfl _ _ rfl _ rfl HR2.out ?_)
    go_ret
    exact ⟨rfl, ofr_of_row hb HW2.out.row hz2 (by omega) hcm HT2.out HL.out HOKS.out, (HW1.out.below base hb).trans (HW2.out.below base hb), fun j hj => (HW2.out.other j (Ne.symm (hj _ rfl))).trans (HW1.out.other j (Ne.symm (hj _ rfl)))⟩
end Go.Proofs.Yteajboafcjeagaa
