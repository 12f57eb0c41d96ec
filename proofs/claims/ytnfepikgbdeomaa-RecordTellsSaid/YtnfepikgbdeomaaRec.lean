/-
  Layer 12: records: an event by value; Check; what writes a sector.
-/
import Derived.Test.YtnfepikgbdeomaaRecP
import Derived.Test.YtnfepikgbdeomaaNumC
import Derived.Test.YtnfepikgbdeomaaOps
import Derived.Test.YtnfepikgbdeomaaAid
import Derived.Deep.MidRow
namespace Go.Proofs.Ytnfepikgbdeomaa
set_option maxRecDepth 20000
open Go.RowKit
set_option linter.unusedVariables false
set_option linter.unusedSimpArgs false
set_option maxHeartbeats 4000000

/-! ### Check -/
theorem recSized_any (g : Nat) (A : Option Addr) (n c : Nat) (lo hi : Int) (w : World) (hn : n ≤ 9223372036854775807) (hc : w.cell? ⟨g, 3, none⟩ = some (.slice A n c)) :
    Calls Try.prog 92 #[.int .i64 lo, .int .i64 hi, .pointer (some ⟨g, 0, none⟩)] w fun e w' => e = .returned (.bool (decide (lo ≤ n ∧ n ≤ hi))) ∧ w = w' := by
  by_cases h1 : lo ≤ n
  · have d1 : decide (lo ≤ (n : Int)) = true := decide_eq_true h1
    have e : decide (lo ≤ n ∧ n ≤ hi) = decide ((n : Int) ≤ hi) := decide_eq_decide.2 ⟨fun h => h.2, fun h => ⟨h1, h⟩⟩
    rw [e]
    go_enter Try.func92, Try.ntmps92
    go_wp2
    go_ret
    exact ⟨rfl, rfl⟩
  · have d1 : decide (lo ≤ (n : Int)) = false := decide_eq_false h1
    have e : decide (lo ≤ n ∧ n ≤ hi) = false := decide_eq_false (fun h => h1 h.1)
    rw [e]
    go_enter Try.func92, Try.ntmps92
    go_wp2
    go_ret
    exact ⟨rfl, rfl⟩
theorem recCheck_yes (t : Nat) (k ci lo hi : Int) (A : Option Addr) (n cp : Nat) (w : World) (hn : n ≤ 9223372036854775807)
    (h : (k = 1 ∧ ci ≤ 1099511627776 ∧ lo = 0 ∧ hi = 0) ∨ (k = 2 ∧ ci = 0 ∧ lo = 1 ∧ hi = 16) ∨ (k = 3 ∧ ci = 0 ∧ lo = 1 ∧ hi = 180)) :
    Calls Try.prog 42 #[.agg #[.int .u64 (t : Int), .int .i64 k, .int .u64 ci, .slice A n cp]] w (RetV w (.bool (decide (lo ≤ n ∧ n ≤ hi)))) := by
  obtain ⟨V, hV⟩ : ∃ V, V = w.alloc (.cells #[.int .u64 (t : Int), .int .i64 k, .int .u64 ci, .slice A n cp] 65) := ⟨_, rfl⟩
  have bV : Below w.heap.size w V := by rw [hV]; exact (below_self w).alloc (Nat.le_refl _) _
  have q3 : V.cell? ⟨w.heap.size, 3, none⟩ = some (.slice A n cp) := by rw [hV]; exact (alloc_box w _ _ 3).trans rfl
  have hs := recSized_any w.heap.size A n cp lo hi V hn q3
  obtain ⟨R, hR⟩ : ∃ R, decide (lo ≤ (n : Int) ∧ (n : Int) ≤ hi) = R := ⟨_, rfl⟩
  rw [hR] at hs ⊢
  clear hR q3
  rcases h with ⟨rfl, h1, rfl, rfl⟩ | ⟨rfl, rfl, rfl, rfl⟩ | ⟨rfl, rfl, rfl, rfl⟩
  · have d1 : decide (ci ≤ 1099511627776) = true := decide_eq_true h1
    have HS := Lib.hid hs
    have HV := Lib.hid hV
    clear hs hV
    go_enter Try.func42, Try.ntmps42
    go_wp2_with fail
    rw [← HV.out]
    refine HS.out.mono ?_
    rintro e w2 ⟨rfl, rfl⟩
    go_wp2
    go_ret
    exact ⟨rfl, bV⟩
  all_goals
    have HS := Lib.hid hs
    have HV := Lib.hid hV
    clear hs hV
    go_enter Try.func42, Try.ntmps42
    go_wp2_with fail
    rw [← HV.out]
    refine HS.out.mono ?_
    rintro e w2 ⟨rfl, rfl⟩
    go_wp2
    go_ret
    exact ⟨rfl, bV⟩
theorem recCheck_no (t : Nat) (k ci : Int) (A : Option Addr) (n cp : Nat) (w : World) (h : (k = 1 ∧ ¬ ci ≤ 1099511627776) ∨ (k = 2 ∧ ¬ ci = 0) ∨ (k = 3 ∧ ¬ ci = 0) ∨ (¬ k = 1 ∧ ¬ k = 2 ∧ ¬ k = 3)) :
    Calls Try.prog 42 #[.agg #[.int .u64 (t : Int), .int .i64 k, .int .u64 ci, .slice A n cp]] w (RetV w (.bool false)) := by
  rcases h with ⟨rfl, h1⟩ | ⟨rfl, h1⟩ | ⟨rfl, h1⟩ | ⟨h1, h2, h3⟩
  · have d1 : decide (ci ≤ 1099511627776) = false := decide_eq_false h1
    go_enter Try.func42, Try.ntmps42
    go_wp2
    go_ret
    exact ⟨rfl, (below_self w).alloc (Nat.le_refl _) _⟩
  · have d2 : (ci == 0) = false := beq_eq_false_iff_ne.2 h1
    go_enter Try.func42, Try.ntmps42
    go_wp2
    go_ret
    exact ⟨rfl, (below_self w).alloc (Nat.le_refl _) _⟩
  · have d2 : (ci == 0) = false := beq_eq_false_iff_ne.2 h1
    go_enter Try.func42, Try.ntmps42
    go_wp2
    go_ret
    exact ⟨rfl, (below_self w).alloc (Nat.le_refl _) _⟩
  · have d1 : (k == 1) = false := beq_eq_false_iff_ne.2 h1
    have d2 : (k == 2) = false := beq_eq_false_iff_ne.2 h2
    have d3 : (k == 3) = false := beq_eq_false_iff_ne.2 h3
    go_enter Try.func42, Try.ntmps42
    go_wp2
    go_ret
    exact ⟨rfl, (below_self w).alloc (Nat.le_refl _) _⟩
/-- Which way an event goes. -/
theorem rcChk_ways (k : Int) (c n : Nat) : (∃ lo hi : Int, ((k = 1 ∧ (c : Int) ≤ 1099511627776 ∧ lo = 0 ∧ hi = 0) ∨ (k = 2 ∧ (c : Int) = 0 ∧ lo = 1 ∧ hi = 16) ∨ (k = 3 ∧ (c : Int) = 0 ∧ lo = 1 ∧ hi = 180)) ∧ rcChk k c n = decide (lo ≤ (n : Int) ∧ (n : Int) ≤ hi)) ∨
    (((k = 1 ∧ ¬ (c : Int) ≤ 1099511627776) ∨ (k = 2 ∧ ¬ (c : Int) = 0) ∨ (k = 3 ∧ ¬ (c : Int) = 0) ∨ (¬ k = 1 ∧ ¬ k = 2 ∧ ¬ k = 3)) ∧ rcChk k c n = false) := by
  unfold rcChk
  by_cases k1 : k = 1
  · rw [if_pos k1]
    by_cases h : c ≤ 1099511627776
    · exact .inl ⟨0, 0, .inl ⟨k1, by omega, rfl, rfl⟩, decide_eq_decide.2 ⟨fun h => by omega, fun h => by omega⟩⟩
    · exact .inr ⟨.inl ⟨k1, by omega⟩, decide_eq_false (fun h2 => h h2.1)⟩
  · rw [if_neg k1]
    by_cases k2 : k = 2
    · rw [if_pos k2]
      by_cases h : c = 0
      · exact .inl ⟨1, 16, .inr (.inl ⟨k2, by omega, rfl, rfl⟩), decide_eq_decide.2 ⟨fun h => by omega, fun h => by omega⟩⟩
      · exact .inr ⟨.inr (.inl ⟨k2, by omega⟩), decide_eq_false (fun h2 => h h2.1)⟩
    · rw [if_neg k2]
      by_cases k3 : k = 3
      · rw [if_pos k3]
        by_cases h : c = 0
        · exact .inl ⟨1, 180, .inr (.inr ⟨k3, by omega, rfl, rfl⟩), decide_eq_decide.2 ⟨fun h => by omega, fun h => by omega⟩⟩
        · exact .inr ⟨.inr (.inr (.inl ⟨k3, by omega⟩)), decide_eq_false (fun h2 => h h2.1)⟩
      · rw [if_neg k3]
        exact .inr ⟨.inr (.inr (.inr ⟨k1, k2, k3⟩)), rfl⟩
theorem recCheck_any (t : Nat) (k : Int) (c : Nat) (A : Option Addr) (n cp : Nat) (w : World) (hn : n ≤ 9223372036854775807) :
    Calls Try.prog 42 #[.agg #[.int .u64 (t : Int), .int .i64 k, .int .u64 (c : Int), .slice A n cp]] w (RetV w (.bool (rcChk k c n))) := by
  rcases rcChk_ways k c n with ⟨lo, hi, h, e⟩ | ⟨h, e⟩
  · rw [e]; exact recCheck_yes t k c lo hi A n cp w hn h
  · rw [e]; exact recCheck_no t k c A n cp w h

/-! ### What writes -/
/-- A sector that is written, and where. -/
def WrAt (w : World) (g : Nat) (xs : List UInt8) (at_ : Nat) : Prop := w.heap[g]? = some (.cells (xs.map vB ++ [Value.int .i64 (at_ : Int)]).toArray 158 (0, 0))
theorem WrAt.lt {w : World} {g at_ : Nat} {xs : List UInt8} (h : WrAt w g xs at_) : g < w.heap.size := (Array.getElem?_eq_some_iff.1 h).1
theorem WrAt.at_ {w : World} {g at_ : Nat} {xs : List UInt8} (h : WrAt w g xs at_) (hx : xs.length = 256) : w.cell? ⟨g, 256, none⟩ = some (.int .i64 (at_ : Int)) := by
  refine (cell_of_row w g 256 _ _ _ h).trans ?_
  rw [List.getElem?_toArray, List.getElem?_append_right (by simp [hx])]
  simp [hx]
theorem WrAt.rd {w : World} {g at_ : Nat} {xs : List UInt8} (h : WrAt w g xs at_) (k : Nat) (hk : k ≤ xs.length) (hm : k ≤ maxLen) : RdB w (some ⟨g, 0, none⟩) k k (xs.take k) := by
  refine rdPart h 0 (xs.take k) k (fun i hi => ?_) (by rw [List.length_take]; omega) hm
  rw [List.length_take] at hi
  rw [Nat.zero_add, List.getElem?_toArray, List.getElem?_append_left (by rw [List.length_map]; omega), List.getElem?_map, List.getElem?_map, List.getElem?_take, if_pos (by omega)]
theorem WrAt.below {w w' : World} {g at_ : Nat} {xs : List UInt8} (h : WrAt w g xs at_) (hb : Below w.heap.size w w') : WrAt w' g xs at_ := (hb.block g h.lt).trans h
/-- All that was there but block g stays. -/
structure Beside (g : Nat) (w w' : World) : Prop where
  size : w.heap.size ≤ w'.heap.size
  block : ∀ j, j < w.heap.size → j ≠ g → w'.heap[j]? = w.heap[j]?
theorem Beside.trans {g : Nat} {w w' w2 : World} (h : Beside g w w') (k : Beside g w' w2) : Beside g w w2 := ⟨Nat.le_trans h.size k.size, fun j hj hn => (k.block j (Nat.lt_of_lt_of_le hj h.size) hn).trans (h.block j hj hn)⟩
theorem beside_of {g : Nat} {w w' : World} (h : Below w.heap.size w w') : Beside g w w' := ⟨h.size, fun j hj _ => h.block j hj⟩
theorem Beside.setCell {g i : Nat} {w w' : World} (h : Beside g w w') (v : Value) : Beside g w (w'.setCell ⟨g, i, none⟩ v) := ⟨by simpa [World.setCell] using h.size, fun j hj hn => (Below.heap_setCell _ _ _ _ hn).trans (h.block j hj hn)⟩
theorem Beside.row {g j : Nat} {w w' : World} {o : Obj} (h : Beside g w w') (hr : w.heap[j]? = some o) (hn : j ≠ g) : w'.heap[j]? = some o := (h.block j (Array.getElem?_eq_some_iff.1 hr).1 hn).trans hr
theorem Beside.rd {w w' : World} {A : Option Addr} {n c g : Nat} {xs : List UInt8} (h : Beside g w w') (hr : RdB w A n c xs) (ho : ∀ a, A = some a → a.block ≠ g) : RdB w' A n c xs := by
  refine ⟨?_, hr.2⟩
  rcases hr.1 with h0 | ⟨b, o, rfl, hl, hc⟩
  · exact .inl h0
  · exact .inr ⟨b, o, rfl, Nat.lt_of_lt_of_le hl h.size, fun i v hv => (World.cell?_of_block (h.block b hl (ho _ rfl))).trans (hc i v hv)⟩
theorem op_copyW {o : Oper} {a : Act} {w : World} {K : Act → World → Prop} {Q : Exit → Act → World → Prop} (hgd : o.guard = none) (d s : Operand)
    (ho : o.op = .call { callee := .builtin .copy, args := #[d, s], argTypes := #[26, 26] })
    (g : Nat) (xs : List UInt8) (at_ : Nat) (hw : WrAt w g xs at_) (hx : xs.length = 256)
    (off m dn dc : Nat) (hd : a.eval d = .slice (some ⟨g, off, none⟩) dn dc) (sp : Option Addr) (sc : Nat) (ys : List UInt8) (hs : a.eval s = .slice sp m sc) (hr : RdB w sp m sc ys) (hle : m ≤ dn) (hoff : off + m ≤ 256)
    (h : ∀ w', WrAt w' g (xs.take off ++ (ys ++ xs.drop (off + m))) at_ → Below g w w' → Beside g w w' → K (a.put o.dst (.int .i64 m)) w') : o.wp Try.prog a w K Q := by
  have hsz : (Try.prog.info? 5).map (·.size) = some 1 := by
    obtain ⟨i, hi, _, hz, _⟩ := info_parts elemB.info
    rw [hi]; simp [hz]
  have hl : (ys.map vB).length = m := by simp [hr.2.1]
  have hn : (ys.map vB).length = Nat.min m dn := by rw [hl]; exact (Nat.min_eq_left hle).symm
  by_cases h0 : m = 0
  · subst h0
    have hy : ys = [] := List.eq_nil_of_length_eq_zero hr.2.1
    subst hy
    have hrun := run_copy_none (P := Try.prog) w 26 26 o.type _ (some ⟨g, off, none⟩) sp dn dc 0 sc elemB.slice hsz (by simp)
    unfold Oper.wp
    simp [execOp, ho, resolve, invoke, builtin, hd, hs, hrun, Result.andThen]
    exact h w (by simpa using hw) (Below.refl _ _) ⟨Nat.le_refl _, fun _ _ _ => rfl⟩
  · obtain ⟨b, o', u, rfl, _⟩ := hr.at_ 0 (by omega)
    have hrun := run_copy_row (P := Try.prog) w 26 26 o.type _ g off dn dc ⟨b, o', none⟩ m sc _ _ (ys.map vB) elemB.slice hsz hw hn (fun j v hj => by
      have hj' : j < m := by have := (List.getElem?_eq_some_iff.1 hj).1; simpa [hr.2.1] using this
      obtain ⟨b2, o2, u2, he, _, hx2, hc⟩ := hr.at_ j hj'
      injection he with he
      injection he with e1 e2
      subst e1 e2
      rw [Addr.add_lit, hc, ← hj]
      simp [hx2, vB]) (by simp [hr.2.1, hx]; omega) (oneCell_vB _)
    unfold Oper.wp
    simp [execOp, ho, resolve, invoke, builtin, hd, hs, hrun, Result.andThen]
    have e : (goInt ys.length) = .int .i64 m := by rw [hr.2.1]; rfl
    rw [e]
    refine h _ ?_ (below_setRow (Below.refl g w) (Nat.le_refl g) _) ⟨by simp, fun j hj hn => ?_⟩
    · have hh := setRow_heap w g _ (splice (xs.map vB ++ [Value.int .i64 (at_ : Int)]) off (ys.map vB)).toArray _ (0, 0) hw
      unfold WrAt
      have e2 : splice (xs.map vB ++ [Value.int .i64 (at_ : Int)]) off (ys.map vB) = (xs.take off ++ (ys ++ xs.drop (off + m))).map vB ++ [Value.int .i64 (at_ : Int)] := by
        unfold splice
        rw [hl, List.take_append_of_le_length (by simp [hx]; omega), List.drop_append_of_le_length (by simp [hx]; omega), List.map_append, List.map_append, List.map_take, List.map_drop]
        simp only [List.append_assoc]
      rw [e2] at hh
      refine Eq.trans ?_ hh
      congr 3
      rw [← e2]
      unfold splice
      simp
    · exact setRow_other _ _ _ _ hn
theorem wrBytes_any (g : Nat) (xs : List UInt8) (at_ : Nat) (B : Option Addr) (m d : Nat) (ys : List UInt8) (w : World) (hw : WrAt w g xs at_) (hx : xs.length = 256) (hr : RdB w B m d ys) (ha : at_ + m ≤ 255) :
    Calls Try.prog 123 #[.pointer (some ⟨g, 0, none⟩), .slice B m d] w fun e w' => e = .returned (.tuple #[]) ∧ WrAt w' g (xs.take at_ ++ (ys ++ xs.drop (at_ + m))) (at_ + m) ∧ Below g w w' ∧ Beside g w w' := by
  have c0 := hw.at_ hx
  have fz : w.frozen? ⟨g, 256, none⟩ = false := frozen_of_row _ _ 256 _ _ hw
  have k0 : ¬ ((256 : Nat) = at_) := by omega
  have k1 : ¬ (at_ = 256) := by omega
  have k2 : (at_ : Int) ≤ 256 := by omega
  have gl := hw.lt
  have HW := Lib.hid hw
  have HL := Lib.hid hr.2.1
  have HX := (Below.refl w.heap.size w).drew
  have cc : w.drew.cell? ⟨g, 256, none⟩ = some (.int .i64 (at_ : Int)) := c0
  clear hw c0
  go_enter Try.func123, Try.ntmps123
  go_wp2_with fail
  refine wp_region_seg (S := fun _ => True) 8 #[true, true, true, false, true, true, true, true, true, true, false, false, true, false, false, false, false, false] [(0, true), (1, true), (2, true), (4, true), (5, true), (6, true), (7, true), (8, true), (9, true), (12, true)] (by kernel_rfl) (by kernel_rfl) (fun _ _ d _ _ h => by first | (cases d <;> exact h) | cases h.1) (trivial) ?_
  have HB := trivial
  iterate 10 (refine seg_take (v := ?_) rfl (Or.inl ⟨by rfl, ?_⟩) ?_; rotate_left; (focus (intro w' hw'; go_simp <;> with_reducible rfl)); try simp only [Act.put, List.setIfInBounds_toArray, List.set_cons_zero, List.set_cons_succ])
  refine seg_done (fun _ => ?_)
  refine wpAnyH_two (i := 3) (j := 10) (f := 7) (by kernel_rfl) ?_ ?_
  · skip
    refine op_run rfl (fun K hK => ?_)
    go_simp
    have q0 := cc
    go_simp
    refine hK.out _ _ (HB) ?_
    clear hK
    try simp only [Act.put, List.setIfInBounds_toArray, List.set_cons_zero, List.set_cons_succ]
    refine wpAnyH_seg (by kernel_rfl) (fun _ _ d _ _ h => by first | (cases d <;> exact h) | cases h.1) 0 #[true, true, true, true, true, true, true, true, true, true, true, true, true, true, true, true, true, true] [(10, false), (11, true), (13, false), (14, true), (15, true), (16, true), (17, false)] _ _ _ (by kernel_rfl) (HB) ?_
    refine seg_run rfl (fun K hK => ?_)
    go_simp
    have q1 := cc
    go_simp
    refine hK.out _ _ (HB) ?_
    clear hK
    try simp only [Act.put, List.setIfInBounds_toArray, List.set_cons_zero, List.set_cons_succ]
    iterate 1 (refine seg_take (v := ?_) rfl (Or.inl ⟨by rfl, ?_⟩) ?_; rotate_left; (focus (intro w' hw'; go_simp <;> with_reducible rfl)); try simp only [Act.put, List.setIfInBounds_toArray, List.set_cons_zero, List.set_cons_succ])
    refine seg_run rfl (fun K hK => ?_)
    rw [if_pos (by rfl)]
    refine op_copyW rfl _ _ rfl g xs at_ (HW.out.below HX) hx at_ m _ _ rfl _ _ ys rfl (hr.below HX) (by omega) (by omega) ?_
    intro w2 HW2 HB2 HE2
    have HL2 := Lib.hid (show (xs.take at_ ++ (ys ++ xs.drop (at_ + m))).length = 256 by have := HL.out; simp; omega)
    have cc := HW2.at_ HL2.out
    have HW2 := Lib.hid HW2
    refine hK.out _ _ (HB) ?_
    clear hK
    try simp only [Act.put, List.setIfInBounds_toArray, List.set_cons_zero, List.set_cons_succ]
    iterate 3 (refine seg_take (v := ?_) rfl (Or.inl ⟨by rfl, ?_⟩) ?_; rotate_left; (focus (intro w' hw'; go_simp <;> with_reducible rfl)); try simp only [Act.put, List.setIfInBounds_toArray, List.set_cons_zero, List.set_cons_succ])
    refine seg_run rfl (fun K hK => ?_)
    go_simp
    have q2 := HW2.out.at_ HL2.out
    have fz2 : w2.frozen? ⟨g, 256, none⟩ = false := frozen_of_row _ _ 256 _ _ HW2.out
    go_simp
    refine hK.out _ _ (HB) ?_
    clear hK
    try simp only [Act.put, List.setIfInBounds_toArray, List.set_cons_zero, List.set_cons_succ]
    refine seg_done (fun _ => ?_)
    refine wpAnyH_done (by kernel_rfl) ?_ _
    refine bodyPost_end (v := .tuple #[]) (by simp [results, Try.results123]) rfl ?_
    have hrow := setc_rowT (i := 256) (v := .int .i64 ((at_ + m : Nat) : Int)) HW2.out
    refine ⟨rfl, ?_, ((HX.mono (Nat.le_of_lt gl)).trans HB2).setCell (p := ⟨g, 256, none⟩) (Nat.le_refl _) _, ((beside_of HX).trans HE2).setCell _⟩
    unfold WrAt
    have e : ((xs.take at_ ++ (ys ++ xs.drop (at_ + m))).map vB ++ [Value.int .i64 (at_ : Int)]).toArray.setIfInBounds 256 (.int .i64 ((at_ + m : Nat) : Int)) = ((xs.take at_ ++ (ys ++ xs.drop (at_ + m))).map vB ++ [Value.int .i64 ((at_ + m : Nat) : Int)]).toArray := by
      have hl := HL2.out
      rw [List.setIfInBounds_toArray, List.set_append_right _ _ (by rw [List.length_map, hl]; omega), List.length_map, hl]
      rfl
    rw [e] at hrow
    have ws : IntKind.i64.wrap ((at_ : Int) + (m : Int)) = ((at_ + m : Nat) : Int) := by rw [show (at_ : Int) + (m : Int) = ((at_ + m : Nat) : Int) by simp]; exact wi64n (by omega)
    rw [ws]
    exact hrow
  · skip
    refine op_run rfl (fun K hK => ?_)
    go_simp
    have q1 := cc
    go_simp
    refine hK.out _ _ (HB) ?_
    clear hK
    try simp only [Act.put, List.setIfInBounds_toArray, List.set_cons_zero, List.set_cons_succ]
    refine wpAnyH_seg (by kernel_rfl) (fun _ _ d _ _ h => by first | (cases d <;> exact h) | cases h.1) 6 #[true, true, true, false, true, true, true, true, true, true, true, true, true, false, false, false, false, false] [(11, true)] _ _ _ (by kernel_rfl) (HB) ?_
    iterate 1 (refine seg_take (v := ?_) rfl (Or.inl ⟨by rfl, ?_⟩) ?_; rotate_left; (focus (intro w' hw'; go_simp <;> with_reducible rfl)); try simp only [Act.put, List.setIfInBounds_toArray, List.set_cons_zero, List.set_cons_succ])
    refine seg_done (fun _ => ?_)
    refine wpAnyH_two (i := 3) (j := 13) (f := 5) (by kernel_rfl) ?_ ?_
    · skip
      refine op_run rfl (fun K hK => ?_)
      go_simp
      have q0 := cc
      go_simp
      refine hK.out _ _ (HB) ?_
      clear hK
      try simp only [Act.put, List.setIfInBounds_toArray, List.set_cons_zero, List.set_cons_succ]
      refine wpAnyH_seg (by kernel_rfl) (fun _ _ d _ _ h => by first | (cases d <;> exact h) | cases h.1) 0 #[true, true, true, true, true, true, true, true, true, true, true, true, true, true, true, true, true, true] [(13, false), (14, true), (15, true), (16, true), (17, false)] _ _ _ (by kernel_rfl) (HB) ?_
      refine seg_run rfl (fun K hK => ?_)
      rw [if_pos (by rfl)]
      refine op_copyW rfl _ _ rfl g xs at_ (HW.out.below HX) hx at_ m _ _ rfl _ _ ys rfl (hr.below HX) (by omega) (by omega) ?_
      intro w2 HW2 HB2 HE2
      have HL2 := Lib.hid (show (xs.take at_ ++ (ys ++ xs.drop (at_ + m))).length = 256 by have := HL.out; simp; omega)
      have cc := HW2.at_ HL2.out
      have HW2 := Lib.hid HW2
      refine hK.out _ _ (HB) ?_
      clear hK
      try simp only [Act.put, List.setIfInBounds_toArray, List.set_cons_zero, List.set_cons_succ]
      iterate 3 (refine seg_take (v := ?_) rfl (Or.inl ⟨by rfl, ?_⟩) ?_; rotate_left; (focus (intro w' hw'; go_simp <;> with_reducible rfl)); try simp only [Act.put, List.setIfInBounds_toArray, List.set_cons_zero, List.set_cons_succ])
      refine seg_run rfl (fun K hK => ?_)
      go_simp
      have q2 := HW2.out.at_ HL2.out
      have fz2 : w2.frozen? ⟨g, 256, none⟩ = false := frozen_of_row _ _ 256 _ _ HW2.out
      go_simp
      refine hK.out _ _ (HB) ?_
      clear hK
      try simp only [Act.put, List.setIfInBounds_toArray, List.set_cons_zero, List.set_cons_succ]
      refine seg_done (fun _ => ?_)
      refine wpAnyH_done (by kernel_rfl) ?_ _
      refine bodyPost_end (v := .tuple #[]) (by simp [results, Try.results123]) rfl ?_
      have hrow := setc_rowT (i := 256) (v := .int .i64 ((at_ + m : Nat) : Int)) HW2.out
      refine ⟨rfl, ?_, ((HX.mono (Nat.le_of_lt gl)).trans HB2).setCell (p := ⟨g, 256, none⟩) (Nat.le_refl _) _, ((beside_of HX).trans HE2).setCell _⟩
      unfold WrAt
      have e : ((xs.take at_ ++ (ys ++ xs.drop (at_ + m))).map vB ++ [Value.int .i64 (at_ : Int)]).toArray.setIfInBounds 256 (.int .i64 ((at_ + m : Nat) : Int)) = ((xs.take at_ ++ (ys ++ xs.drop (at_ + m))).map vB ++ [Value.int .i64 ((at_ + m : Nat) : Int)]).toArray := by
        have hl := HL2.out
        rw [List.setIfInBounds_toArray, List.set_append_right _ _ (by rw [List.length_map, hl]; omega), List.length_map, hl]
        rfl
      rw [e] at hrow
      have ws : IntKind.i64.wrap ((at_ : Int) + (m : Int)) = ((at_ + m : Nat) : Int) := by rw [show (at_ : Int) + (m : Int) = ((at_ + m : Nat) : Int) by simp]; exact wi64n (by omega)
      rw [ws]
      exact hrow
    · skip
      refine op_run rfl (fun K hK => ?_)
      rw [if_pos (by rfl)]
      refine op_copyW rfl _ _ rfl g xs at_ (HW.out.below HX) hx at_ m _ _ rfl _ _ ys rfl (hr.below HX) (by omega) (by omega) ?_
      intro w2 HW2 HB2 HE2
      have HL2 := Lib.hid (show (xs.take at_ ++ (ys ++ xs.drop (at_ + m))).length = 256 by have := HL.out; simp; omega)
      have cc := HW2.at_ HL2.out
      have HW2 := Lib.hid HW2
      refine hK.out _ _ (HB) ?_
      clear hK
      try simp only [Act.put, List.setIfInBounds_toArray, List.set_cons_zero, List.set_cons_succ]
      refine wpAnyH_seg (by kernel_rfl) (fun _ _ d _ _ h => by first | (cases d <;> exact h) | cases h.1) 0 #[true, true, true, true, true, true, true, true, true, true, true, true, true, true, true, true, true, true] [(3, false), (14, true), (15, true), (16, true), (17, false)] _ _ _ (by kernel_rfl) (HB) ?_
      refine seg_run rfl (fun K hK => ?_)
      go_simp
      have q0 := cc
      go_simp
      refine hK.out _ _ (HB) ?_
      clear hK
      try simp only [Act.put, List.setIfInBounds_toArray, List.set_cons_zero, List.set_cons_succ]
      iterate 3 (refine seg_take (v := ?_) rfl (Or.inl ⟨by rfl, ?_⟩) ?_; rotate_left; (focus (intro w' hw'; go_simp <;> with_reducible rfl)); try simp only [Act.put, List.setIfInBounds_toArray, List.set_cons_zero, List.set_cons_succ])
      refine seg_run rfl (fun K hK => ?_)
      go_simp
      have q2 := HW2.out.at_ HL2.out
      have fz2 : w2.frozen? ⟨g, 256, none⟩ = false := frozen_of_row _ _ 256 _ _ HW2.out
      go_simp
      refine hK.out _ _ (HB) ?_
      clear hK
      try simp only [Act.put, List.setIfInBounds_toArray, List.set_cons_zero, List.set_cons_succ]
      refine seg_done (fun _ => ?_)
      refine wpAnyH_done (by kernel_rfl) ?_ _
      refine bodyPost_end (v := .tuple #[]) (by simp [results, Try.results123]) rfl ?_
      have hrow := setc_rowT (i := 256) (v := .int .i64 ((at_ + m : Nat) : Int)) HW2.out
      refine ⟨rfl, ?_, ((HX.mono (Nat.le_of_lt gl)).trans HB2).setCell (p := ⟨g, 256, none⟩) (Nat.le_refl _) _, ((beside_of HX).trans HE2).setCell _⟩
      unfold WrAt
      have e : ((xs.take at_ ++ (ys ++ xs.drop (at_ + m))).map vB ++ [Value.int .i64 (at_ : Int)]).toArray.setIfInBounds 256 (.int .i64 ((at_ + m : Nat) : Int)) = ((xs.take at_ ++ (ys ++ xs.drop (at_ + m))).map vB ++ [Value.int .i64 ((at_ + m : Nat) : Int)]).toArray := by
        have hl := HL2.out
        rw [List.setIfInBounds_toArray, List.set_append_right _ _ (by rw [List.length_map, hl]; omega), List.length_map, hl]
        rfl
      rw [e] at hrow
      have ws : IntKind.i64.wrap ((at_ : Int) + (m : Int)) = ((at_ + m : Nat) : Int) := by rw [show (at_ : Int) + (m : Int) = ((at_ + m : Nat) : Int) by simp]; exact wi64n (by omega)
      rw [ws]
      exact hrow
/-- A sector of which the beginning is written. -/
def WrS (w : World) (g : Nat) (pre : List UInt8) : Prop := WrAt w g (pre ++ List.replicate (256 - pre.length) 0) pre.length
theorem WrS.lt {w : World} {g : Nat} {pre : List UInt8} (h : WrS w g pre) : g < w.heap.size := WrAt.lt h
theorem WrS.below {w w' : World} {g : Nat} {pre : List UInt8} (h : WrS w g pre) (hb : Below w.heap.size w w') : WrS w' g pre := WrAt.below h hb
theorem WrS.rd {w : World} {g : Nat} {pre : List UInt8} (h : WrS w g pre) (hp : pre.length ≤ 220) : RdB w (some ⟨g, 0, none⟩) 220 220 (pre ++ List.replicate (220 - pre.length) 0) := by
  have := WrAt.rd h 220 (by simp; omega) (by simp [maxLen])
  rwa [List.take_append, List.take_of_length_le hp, List.take_replicate, Nat.min_eq_left (by omega)] at this
theorem wrSBytes_any (g : Nat) (pre : List UInt8) (B : Option Addr) (m d : Nat) (ys : List UInt8) (w : World) (hw : WrS w g pre) (hr : RdB w B m d ys) (ha : pre.length + m ≤ 255) :
    Calls Try.prog 123 #[.pointer (some ⟨g, 0, none⟩), .slice B m d] w fun e w' => e = .returned (.tuple #[]) ∧ WrS w' g (pre ++ ys) ∧ Below g w w' ∧ Beside g w w' := by
  refine (wrBytes_any g _ _ B m d ys w hw (by simp; omega) hr ha).mono ?_
  rintro e w2 ⟨rfl, h1, h2⟩
  refine ⟨rfl, ?_, h2⟩
  unfold WrS
  have hl := hr.2.1
  have e : (pre ++ List.replicate (256 - pre.length) (0 : UInt8)).take pre.length ++ (ys ++ (pre ++ List.replicate (256 - pre.length) 0).drop (pre.length + m)) = pre ++ ys ++ List.replicate (256 - (pre ++ ys).length) 0 := by
    rw [List.take_left' rfl, ← List.drop_drop, List.drop_left' rfl, List.drop_replicate, List.append_assoc]
    congr 3
    simp; omega
  rw [e] at h1
  rw [List.length_append, hl] at h1 ⊢
  exact h1
theorem wrSNumber_any (g : Nat) (pre : List UInt8) (s x : Nat) (w : World) (hw : WrS w g pre) (hs : 1 ≤ s ∧ s ≤ 8) (hx : x < 18446744073709551616) (ha : pre.length + s ≤ 255) :
    Calls Try.prog 122 #[.pointer (some ⟨g, 0, none⟩), .int .i64 (s : Int), .int .u64 (x : Int)] w fun e w' => e = .returned (.tuple #[]) ∧ WrS w' g (pre ++ leB x s) ∧ Below g w w' ∧ Beside g w w' := by
  have hcl : clamp (s : Int) = s := by unfold clamp; rw [if_neg (by omega), if_neg (by omega), Int.toNat_natCast]
  have hl := hw.lt
  have H1 := Lib.hid (le_any x s w hx)
  have HC := Lib.hid hcl
  have HW := Lib.hid hw
  clear hcl hw
  go_enter Try.func122, Try.ntmps122
  go_wp2_with fail
  refine H1.out.mono ?_
  rintro e w2 ⟨A2, n2, c2, rfl, ho2, hb2⟩
  rw [HC.out] at ho2
  have hn2 : n2 = s := by rw [← ho2.len, leB_length]
  subst hn2
  go_wp2_with fail
  refine (wrSBytes_any g pre A2 n2 c2 _ w2 (HW.out.below hb2) ho2.rd ha).mono ?_
  rintro e w3 ⟨rfl, h3, hb3, hs3⟩
  go_wp2_with fail
  refine bodyPost_end (v := .tuple #[]) (by simp [results, Try.results122]) rfl ?_
  exact ⟨rfl, h3, (hb2.mono (Nat.le_of_lt hl)).trans hb3, (beside_of hb2).trans hs3⟩
end Go.Proofs.Ytnfepikgbdeomaa
