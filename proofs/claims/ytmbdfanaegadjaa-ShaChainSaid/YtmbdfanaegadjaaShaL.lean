/-
  Layer 3: what must come at any rate.
-/
import Derived.Test.YtmbdfanaegadjaaShaK
import Derived.Test.YtmbdfanaegadjaaSupE
import Derived.Test.YtmbdfanaegadjaaMark
import Derived.Test.YtmbdfanaegadjaaPlanD
namespace Go.Proofs.Ytmbdfanaegadjaa
set_option maxRecDepth 20000
open Go.RowKit
set_option linter.unusedVariables false
set_option linter.unusedSimpArgs false
set_option maxHeartbeats 8000000
attribute [local go_sem] Oper.semAt_some

theorem wp_mark {ops : Array Oper} {rest : List Oper} {o : Oper} {a : Act} {w : World} {Q : Exit → Act → World → Prop} (hgd : o.guard = none) (x : Operand) (ho : o.op = .convert 30 30 x) (g n c : Nat) (hx : a.eval x = .slice (some ⟨g, 0, none⟩) n c)
    (C : Array Value) (fr : Nat × Nat) (hrow : w.heap[g]? = some (.cells C 5 fr))
    (h : ∀ w', SameCells w w' → Below g w w' → wpList Try.prog ops Q rest (a.put o.dst (.slice (some ⟨g, 0, none⟩) n c)) w') : wpList Try.prog ops Q (o :: rest) a w :=
  wpList_plain hgd fun _ hK => op_mark x ho g n c hx C fr hrow (Below.refl g w) (Nat.le_refl _) (fun w' h1 h2 _ => hK _ _ (h w' h1 h2))
/-- 'make([]byte, l, c)', one operation. -/
theorem op_makeLC {o : Oper} {a : Act} {w : World} {K : Act → World → Prop} {Q : Exit → Act → World → Prop} (ll cc : Operand) (ho : o.op = Op.makeSlice 30 ll cc)
    (kl kc : IntKind) (L C : Int) (l c : Nat) (hL : L = (l : Int)) (hC : C = (c : Int)) (hl : a.eval ll = .int kl L) (hc : a.eval cc = .int kc C) (hlc : l ≤ c) (hn : c ≤ 70368744177664)
    (h : ∀ g w', w.heap.size = g → OwnB w' g (some ⟨g, 0, none⟩) l c (List.replicate l 0) → Below w.heap.size w w' → w'.heap.size = g + 1 → K (a.put o.dst (.slice (some ⟨g, 0, none⟩) l c)) w') : o.wp Try.prog a w K Q := by
  subst hL hC
  obtain ⟨i, hi, hz, hsz, hby⟩ := info_parts elemB.info
  have hr := run_make (P := Try.prog) w 30 5 i _ elemB.slice hi hz kl kc l c (by omega) (by omega) (by rw [hby]; omega) (by omega)
  simp only [Int.toNat_natCast, hsz, Nat.mul_one, show (Value.int .u8 0).cells = #[Value.int .u8 0] from rfl] at hr
  unfold Oper.wp
  simp [execOp, ho, hl, hc, hr, Result.andThen]
  refine h _ _ rfl ⟨by simp, .inr ⟨w.heap.size, c, _, rfl, Nat.le_refl _, heap_alloc_new w _, hlc, by unfold maxLen; omega, by rw [size_madeCells]; omega, ?_⟩⟩ ((below_self w).alloc (Nat.le_refl _) _) (by simp)
  have e := toList_madeCells_one (Value.int .u8 0) c
  rw [e, Nat.mul_one, List.take_replicate, Nat.min_eq_left hlc, List.map_replicate]; rfl
set_option maxRecDepth 100000 in
theorem heads03 (w : World) : Calls Try.prog 28 #[] w (RetV w (.bool true)) := by
  obtain ⟨D, hD⟩ : ∃ D, shOf [97, 98, 99] = D := ⟨shOf [97, 98, 99], rfl⟩
  obtain ⟨E, hE⟩ : ∃ D, shOf [] = D := ⟨shOf [], rfl⟩
  have hD4 : D.take 4 = [186, 120, 22, 191] := by rw [← hD]; exact sha_abc
  have hE4 : E.take 4 = [227, 176, 196, 66] := by rw [← hE]; exact sha_nil
  have hDl : D.length = 32 := by rw [← hD]; exact shOf_len _
  have hEl : E.length = 32 := by rw [← hE]; exact shOf_len _
  have HD := Lib.hid hD
  have HE := Lib.hid hE
  have HD4 := Lib.hid hD4
  have HE4 := Lib.hid hE4
  have HDl := Lib.hid hDl
  have HEl := Lib.hid hEl
  clear hD hE hD4 hE4 hDl hEl
  obtain ⟨D0, hD0⟩ : ∃ D0 : Array Value, #[.int .u8 0, .int .u8 0, .int .u8 0, .int .u8 0, .int .u8 0, .int .u8 0, .int .u8 0, .int .u8 0, .int .u8 0, .int .u8 0, .int .u8 0, .int .u8 0, .int .u8 0, .int .u8 0, .int .u8 0, .int .u8 0, .int .u8 0, .int .u8 0, .int .u8 0, .int .u8 0, .int .u8 0, .int .u8 0, .int .u8 0, .int .u8 0, .int .u8 0, .int .u8 0, .int .u8 0, .int .u8 0, .int .u8 0, .int .u8 0, .int .u8 0, .int .u8 0] = D0 := ⟨#[.int .u8 0, .int .u8 0, .int .u8 0, .int .u8 0, .int .u8 0, .int .u8 0, .int .u8 0, .int .u8 0, .int .u8 0, .int .u8 0, .int .u8 0, .int .u8 0, .int .u8 0, .int .u8 0, .int .u8 0, .int .u8 0, .int .u8 0, .int .u8 0, .int .u8 0, .int .u8 0, .int .u8 0, .int .u8 0, .int .u8 0, .int .u8 0, .int .u8 0, .int .u8 0, .int .u8 0, .int .u8 0, .int .u8 0, .int .u8 0, .int .u8 0, .int .u8 0], rfl⟩
  have HD0 := Lib.hid hD0
  go_enter Try.func28, Try.ntmps28
  go_wp2_with (refine wp_mark rfl _ rfl w.heap.size 3 3 rfl _ _ (heap_alloc_new w _) ?_; intro w1 hs1 hb1)
  have r1 : RdB w1 (some ⟨w.heap.size, 0, none⟩) 3 3 [97, 98, 99] := (RdB.litM w _ _ [97, 98, 99] 3 (by rfl) rfl (by simp [maxLen])).same hs1
  have B1 : Below w.heap.size w w1 := ((below_self w).alloc (Nat.le_refl _) _).trans hb1
  clear hs1 hb1
  refine (shaOf_any _ 3 3 [97, 98, 99] w1 r1 (by omega)).mono ?_
  rintro e w2 ⟨rfl, hb2⟩
  rw [HD.out]
  go_wp2_with fail
  refine (shaOf_any none 0 0 [] w2 (RdB.nilB _) (by omega)).mono ?_
  rintro e w3 ⟨rfl, hb3⟩
  rw [HE.out]
  have B3 := below_then B1 (below_then hb2 hb3)
  have q1 := row2a w3 D0 D0 24 24
  have q2 := row2b w3 D0 D0 24 24
  have hD0s : D0.size = 32 := by rw [← HD0.out]; rfl
  have q3 : (((w3.alloc (.cells D0 24)).alloc (.cells D0 24)).setRow w3.heap.size (dgA D)).heap[w3.heap.size + 1]? = some (.cells D0 24 (0, 0)) := (setRow_other _ _ _ _ (by omega)).trans q2
  have Q1 := Lib.hid q1
  have Q3 := Lib.hid q3
  clear q1 q2 q3 hD0
  go_wp2_with (first
    | (refine dig_store rfl _ _ rfl w3.heap.size rfl D D0 rfl 24 (by have := Q1.out; rw [← HD0.out] at this ⊢; exact this) HDl.out hD0s ?_)
    | (refine dig_store rfl _ _ rfl (w3.heap.size + 1) rfl E D0 rfl 24 (by have := Q3.out; rw [← HD0.out] at this ⊢; exact this) HEl.out hD0s ?_))
  obtain ⟨V, hV⟩ : ∃ V, V = ((((w3.alloc (.cells #[.int .u8 0, .int .u8 0, .int .u8 0, .int .u8 0, .int .u8 0, .int .u8 0, .int .u8 0, .int .u8 0, .int .u8 0, .int .u8 0, .int .u8 0, .int .u8 0, .int .u8 0, .int .u8 0, .int .u8 0, .int .u8 0, .int .u8 0, .int .u8 0, .int .u8 0, .int .u8 0, .int .u8 0, .int .u8 0, .int .u8 0, .int .u8 0, .int .u8 0, .int .u8 0, .int .u8 0, .int .u8 0, .int .u8 0, .int .u8 0, .int .u8 0, .int .u8 0] 24)).alloc (.cells #[.int .u8 0, .int .u8 0, .int .u8 0, .int .u8 0, .int .u8 0, .int .u8 0, .int .u8 0, .int .u8 0, .int .u8 0, .int .u8 0, .int .u8 0, .int .u8 0, .int .u8 0, .int .u8 0, .int .u8 0, .int .u8 0, .int .u8 0, .int .u8 0, .int .u8 0, .int .u8 0, .int .u8 0, .int .u8 0, .int .u8 0, .int .u8 0, .int .u8 0, .int .u8 0, .int .u8 0, .int .u8 0, .int .u8 0, .int .u8 0, .int .u8 0, .int .u8 0] 24)).setRow w3.heap.size (dgA D)).setRow (w3.heap.size + 1) (dgA E)) := ⟨_, rfl⟩
  have e1 := setRow_heap _ _ _ (dgA D) _ _ Q1.out
  have e2 := setRow_heap _ _ _ (dgA E) _ _ Q3.out
  have e1' := (setRow_other ((((w3.alloc (.cells D0 24)).alloc (.cells D0 24)).setRow w3.heap.size (dgA D))) (w3.heap.size + 1) w3.heap.size (dgA E) (by omega)).trans e1
  have bV : Below w3.heap.size w3 V := by rw [hV]; exact below_setRow (below_setRow (((below_self w3).alloc (Nat.le_refl _) _).alloc (by simp) _) (Nat.le_refl _) _) (by omega) _
  rw [← HD0.out] at e1' e2
  rw [← hV] at e1' e2
  rw [← hV]
  have rD := rdAt e1' D 32 (by simp [dgA]) HDl.out (by simp [maxLen])
  have rE := rdAt e2 E 32 (by simp [dgA]) HEl.out (by simp [maxLen])
  have BV := below_then B3 bV
  have k32 : (4 : Int) ≤ 32 := by decide
  obtain ⟨L, hL⟩ : ∃ L, shOf (List.replicate 32 0) = L := ⟨shOf (List.replicate 32 0), rfl⟩
  have hLl : L.length = 32 := by rw [← hL]; exact shOf_len _
  have HL := Lib.hid hL
  have HLK := Lib.hid (show shLink (List.replicate 32 0) [] = L by unfold shLink; rw [List.append_nil]; exact hL)
  have HLE := Lib.hid (fun W => run_eqIn_digest 9996 W L L hLl hLl)
  clear hV e1 e1' e2 hL hLl Q1 Q3
  refine wp_region_seg (S := fun w' => Below V.heap.size V w') 6 #[true, true, true, true, true, true, true, true, true, true, true, true, true, true, true, true, true, true, true, true, false, false, false, false, false, false] [(0, true), (1, false), (2, false), (3, true), (4, true), (5, false), (6, false), (7, true), (8, true), (9, false), (10, true), (11, true), (12, true), (13, true), (14, false), (15, true), (16, true), (17, true), (18, true), (19, true)] (by kernel_rfl) (by kernel_rfl) (fun _ _ d _ _ h => by first | (cases d <;> exact h) | cases h.1) ((Below.refl V.heap.size V).drew) ?_
  have HB := (Below.refl V.heap.size V).drew
  iterate 1 (refine seg_take (v := ?_) rfl (Or.inl ⟨by rfl, ?_⟩) ?_; rotate_left; (focus (intro w' hw'; go_simp <;> with_reducible rfl)); try simp only [Act.put, List.setIfInBounds_toArray, List.set_cons_zero, List.set_cons_succ])
  refine seg_run rfl (fun K hK => ?_)
  rw [if_pos (by rfl)]
  refine op_lit #[.int .u8 186, .int .u8 120, .int .u8 22, .int .u8 191] 5 4 rfl (fun w => by go_simp) ?_
  intro gI wI eI hIrow HIb hIsz
  have HB := below_then HB HIb
  have rI := rdAt hIrow [186, 120, 22, 191] 4 rfl rfl (by simp [maxLen])
  refine hK.out _ _ (HB) ?_
  clear hK
  try simp only [Act.put, List.setIfInBounds_toArray, List.set_cons_zero, List.set_cons_succ]
  refine seg_run rfl (fun K hK => ?_)
  go_simp
  have hh := bytes_any _ _ _ _ _ _ _ _ wI ((rD.below HB).take 4 (by omega)) rI
  rw [decide_eq_true HD4.out] at hh
  refine hh.mono ?_
  rintro e_ w8 ⟨rfl, rfl⟩
  refine hK.out _ _ (HB) ?_
  clear hK
  try simp only [Act.put, List.setIfInBounds_toArray, List.set_cons_zero, List.set_cons_succ]
  iterate 1 (refine seg_take (v := ?_) rfl (Or.inl ⟨by rfl, ?_⟩) ?_; rotate_left; (focus (intro w' hw'; go_simp <;> with_reducible rfl)); try simp only [Act.put, List.setIfInBounds_toArray, List.set_cons_zero, List.set_cons_succ])
  iterate 1 ((first | refine seg_take (v := undef) rfl (Or.inr ⟨by rfl, rfl⟩) ?_ | (refine seg_take (v := ?_) rfl (Or.inl ⟨by rfl, ?_⟩) ?_; rotate_left; (focus (intro w' hw'; go_simp <;> with_reducible rfl)))); try simp only [Act.put, List.setIfInBounds_toArray, List.set_cons_zero, List.set_cons_succ])
  refine seg_run rfl (fun K hK => ?_)
  rw [if_pos (by rfl)]
  refine op_lit #[.int .u8 227, .int .u8 176, .int .u8 196, .int .u8 66] 5 4 rfl (fun w => by go_simp) ?_
  intro gJ wJ eJ hJrow HJb hJsz
  have HB := below_then HB HJb
  have rJ := rdAt hJrow [227, 176, 196, 66] 4 rfl rfl (by simp [maxLen])
  refine hK.out _ _ (HB) ?_
  clear hK
  try simp only [Act.put, List.setIfInBounds_toArray, List.set_cons_zero, List.set_cons_succ]
  refine seg_run rfl (fun K hK => ?_)
  go_simp
  have hh := bytes_any _ _ _ _ _ _ _ _ wJ ((rE.below HB).take 4 (by omega)) rJ
  rw [decide_eq_true HE4.out] at hh
  refine hh.mono ?_
  rintro e_ w8 ⟨rfl, rfl⟩
  refine hK.out _ _ (HB) ?_
  clear hK
  try simp only [Act.put, List.setIfInBounds_toArray, List.set_cons_zero, List.set_cons_succ]
  iterate 2 (refine seg_take (v := ?_) rfl (Or.inl ⟨by rfl, ?_⟩) ?_; rotate_left; (focus (intro w' hw'; go_simp <;> with_reducible rfl)); try simp only [Act.put, List.setIfInBounds_toArray, List.set_cons_zero, List.set_cons_succ])
  refine seg_run rfl (fun K hK => ?_)
  go_simp
  refine (shaPad_any 3 wJ (by omega)).mono ?_
  rintro e_ w9 ⟨A9, n9, c9, rfl, ho9, hb9⟩
  obtain rfl : n9 = 61 := by rw [← ho9.len, shPad_len]
  have HB := below_then HB hb9
  refine hK.out _ _ (HB) ?_
  clear hK
  try simp only [Act.put, List.setIfInBounds_toArray, List.set_cons_zero, List.set_cons_succ]
  iterate 2 ((first | refine seg_take (v := undef) rfl (Or.inr ⟨by rfl, rfl⟩) ?_ | (refine seg_take (v := ?_) rfl (Or.inl ⟨by rfl, ?_⟩) ?_; rotate_left; (focus (intro w' hw'; go_simp <;> with_reducible rfl)))); try simp only [Act.put, List.setIfInBounds_toArray, List.set_cons_zero, List.set_cons_succ])
  iterate 2 (refine seg_take (v := ?_) rfl (Or.inl ⟨by rfl, ?_⟩) ?_; rotate_left; (focus (intro w' hw'; go_simp <;> with_reducible rfl)); try simp only [Act.put, List.setIfInBounds_toArray, List.set_cons_zero, List.set_cons_succ])
  refine seg_run rfl (fun K hK => ?_)
  go_simp
  refine (shaPad_any 56 w9 (by omega)).mono ?_
  rintro e_ wA ⟨AA, nA, cA, rfl, hoA, hbA⟩
  obtain rfl : nA = 72 := by rw [← hoA.len, shPad_len]
  have HB := below_then HB hbA
  refine hK.out _ _ (HB) ?_
  clear hK
  try simp only [Act.put, List.setIfInBounds_toArray, List.set_cons_zero, List.set_cons_succ]
  iterate 2 ((first | refine seg_take (v := undef) rfl (Or.inr ⟨by rfl, rfl⟩) ?_ | (refine seg_take (v := ?_) rfl (Or.inl ⟨by rfl, ?_⟩) ?_; rotate_left; (focus (intro w' hw'; go_simp <;> with_reducible rfl)))); try simp only [Act.put, List.setIfInBounds_toArray, List.set_cons_zero, List.set_cons_succ])
  iterate 2 (refine seg_take (v := ?_) rfl (Or.inl ⟨by rfl, ?_⟩) ?_; rotate_left; (focus (intro w' hw'; go_simp <;> with_reducible rfl)); try simp only [Act.put, List.setIfInBounds_toArray, List.set_cons_zero, List.set_cons_succ])
  iterate 1 ((first | refine seg_take (v := undef) rfl (Or.inr ⟨by rfl, rfl⟩) ?_ | (refine seg_take (v := ?_) rfl (Or.inl ⟨by rfl, ?_⟩) ?_; rotate_left; (focus (intro w' hw'; go_simp <;> with_reducible rfl)))); try simp only [Act.put, List.setIfInBounds_toArray, List.set_cons_zero, List.set_cons_succ])
  refine seg_done (fun _ => ?_)
  refine wpAnyH_two (i := 20) (j := 21) (f := 5) (by kernel_rfl) ?_ ?_
  · skip
    refine op_run rfl (fun K hK => ?_)
    go_simp
    refine (shaLink_any (List.replicate 32 0) (by simp) none 0 0 [] _ (RdB.nilB _) (by omega)).mono ?_
    rintro e_ wB ⟨rfl, hbB⟩
    rw [HLK.out]
    have HB := below_then HB hbB
    try have rM := rM.below hbB
    refine hK.out _ _ (HB) ?_
    clear hK
    try simp only [Act.put, List.setIfInBounds_toArray, List.set_cons_zero, List.set_cons_succ]
    refine wpAnyH_seg (by kernel_rfl) (fun _ _ d _ _ h => by first | (cases d <;> exact h) | cases h.1) 0 #[true, true, true, true, true, true, true, true, true, true, true, true, true, true, true, true, true, true, true, true, true, true, true, true, true, true] [(21, false), (22, false), (23, true), (24, true), (25, true)] _ _ _ (by kernel_rfl) (HB) ?_
    refine seg_run rfl (fun K hK => ?_)
    rw [if_pos (by rfl)]
    refine op_makeLC _ _ rfl .i64 .i64 32 32 32 32 rfl rfl rfl rfl (Nat.le_refl _) (by omega) ?_
    intro gM wM eM hoM HMb hMsz
    have HB := below_then HB HMb
    have rM := hoM.rd
    refine hK.out _ _ (HB) ?_
    clear hK
    try simp only [Act.put, List.setIfInBounds_toArray, List.set_cons_zero, List.set_cons_succ]
    refine seg_run rfl (fun K hK => ?_)
    go_simp
    refine (shaOf_any _ 32 32 (List.replicate 32 0) _ rM (by omega)).mono ?_
    rintro e_ wC ⟨rfl, hbC⟩
    rw [HL.out]
    have HB := below_then HB hbC
    refine hK.out _ _ (HB) ?_
    clear hK
    try simp only [Act.put, List.setIfInBounds_toArray, List.set_cons_zero, List.set_cons_succ]
    refine seg_take (v := .bool true) rfl (Or.inl ⟨by rfl, fun w' hw' => ?_⟩) ?_
    focus ((have jj := HLE.out w'; rw [decide_eq_true rfl] at jj; change (Op.equalIn 10000 24 (.agg (dgA L)) (.agg (dgA L))).run Try.prog w' = _ at jj; go_simp))
    try simp only [Act.put, List.setIfInBounds_toArray, List.set_cons_zero, List.set_cons_succ]
    iterate 2 (refine seg_take (v := ?_) rfl (Or.inl ⟨by rfl, ?_⟩) ?_; rotate_left; (focus (intro w' hw'; go_simp <;> with_reducible rfl)); try simp only [Act.put, List.setIfInBounds_toArray, List.set_cons_zero, List.set_cons_succ])
    refine seg_done (fun _ => ?_)
    refine wpAnyH_done (by kernel_rfl) ?_ _
    go_wp2_with fail
    go_ret
    exact ⟨rfl, BV.trans (HB.mono BV.size)⟩
  · skip
    refine op_run rfl (fun K hK => ?_)
    rw [if_pos (by rfl)]
    refine op_makeLC _ _ rfl .i64 .i64 32 32 32 32 rfl rfl rfl rfl (Nat.le_refl _) (by omega) ?_
    intro gM wM eM hoM HMb hMsz
    have HB := below_then HB HMb
    have rM := hoM.rd
    refine hK.out _ _ (HB) ?_
    clear hK
    try simp only [Act.put, List.setIfInBounds_toArray, List.set_cons_zero, List.set_cons_succ]
    refine wpAnyH_seg (by kernel_rfl) (fun _ _ d _ _ h => by first | (cases d <;> exact h) | cases h.1) 0 #[true, true, true, true, true, true, true, true, true, true, true, true, true, true, true, true, true, true, true, true, true, true, true, true, true, true] [(20, false), (22, false), (23, true), (24, true), (25, true)] _ _ _ (by kernel_rfl) (HB) ?_
    refine seg_run rfl (fun K hK => ?_)
    go_simp
    refine (shaLink_any (List.replicate 32 0) (by simp) none 0 0 [] _ (RdB.nilB _) (by omega)).mono ?_
    rintro e_ wB ⟨rfl, hbB⟩
    rw [HLK.out]
    have HB := below_then HB hbB
    try have rM := rM.below hbB
    refine hK.out _ _ (HB) ?_
    clear hK
    try simp only [Act.put, List.setIfInBounds_toArray, List.set_cons_zero, List.set_cons_succ]
    refine seg_run rfl (fun K hK => ?_)
    go_simp
    refine (shaOf_any _ 32 32 (List.replicate 32 0) _ rM (by omega)).mono ?_
    rintro e_ wC ⟨rfl, hbC⟩
    rw [HL.out]
    have HB := below_then HB hbC
    refine hK.out _ _ (HB) ?_
    clear hK
    try simp only [Act.put, List.setIfInBounds_toArray, List.set_cons_zero, List.set_cons_succ]
    refine seg_take (v := .bool true) rfl (Or.inl ⟨by rfl, fun w' hw' => ?_⟩) ?_
    focus ((have jj := HLE.out w'; rw [decide_eq_true rfl] at jj; change (Op.equalIn 10000 24 (.agg (dgA L)) (.agg (dgA L))).run Try.prog w' = _ at jj; go_simp))
    try simp only [Act.put, List.setIfInBounds_toArray, List.set_cons_zero, List.set_cons_succ]
    iterate 2 (refine seg_take (v := ?_) rfl (Or.inl ⟨by rfl, ?_⟩) ?_; rotate_left; (focus (intro w' hw'; go_simp <;> with_reducible rfl)); try simp only [Act.put, List.setIfInBounds_toArray, List.set_cons_zero, List.set_cons_succ])
    refine seg_done (fun _ => ?_)
    refine wpAnyH_done (by kernel_rfl) ?_ _
    go_wp2_with fail
    go_ret
    exact ⟨rfl, BV.trans (HB.mono BV.size)⟩
end Go.Proofs.Ytmbdfanaegadjaa
