/-
 Proved here, for the statement JournalTells:
 Layer 14: journal: Load.
 Layer 14: the document's disk.Write and Flush: what is handed back stays, whatev
-/
import Derived.Laws.CopyRow
import Derived.Laws.IdiomCopy
import Derived.Test.YtpahicfnhhhifaaGreatGt22
set_option linter.unusedVariables false
set_option linter.unusedSimpArgs false
namespace Go.Proofs.YtpahicfnhhhifaaGreat
set_option maxRecDepth 20000
open Go.RowKit
set_option maxHeartbeats 8000000
def RetLd (w : World) (S : Su) (st : List UInt8) (rs : List Rc) (er : Int) (e : Ending) (w' : World) : Prop := ∃ A n c B m d, e = .returned (.tuple #[.agg S.v, .slice A n c, .slice B m d, .int .i64 er]) ∧ OwnB w' w.heap.size A n c st ∧ OwR w' w.heap.size B m d rs ∧ Below w.heap.size w w'
theorem retLd_none {w X : World} (er : Int) (hb : Below w.heap.size w X) : RetLd w suZ [] [] er (.returned (.tuple #[.agg suZ.v, .slice none 0 0, .slice none 0 0, .int .i64 er])) X := ⟨none, 0, 0, none, 0, 0, rfl, OwnB.nilB _ _, owR_nil _ _, hb⟩
theorem dresults1333 {P : Program} {fn : Func} {p q s u : Tmp} {ty : TypeId} (h : fn.results = #[.cell p ty, .tmp q, .tmp s, .tmp u]) (tmps : Array Value) (w : World) (g : Nat) (t : TypeId) (cs : Array Value) (fr : Nat × Nat) (d : TypeDesc)
  (hp : tmps.getD p undef = .pointer (some ⟨g, 0, none⟩)) (hg : w.heap[g]? = some (.cells cs t fr))
  (hu : P.underlying ty = some d) (hd : (match d with | .struct _ | .array _ _ => true | _ => false) = true) (hi : (P.info? ty).map (·.size) = some cs.size) :
  (results fn tmps).run P w = .ok (.tuple #[.agg cs, tmps.getD q undef, tmps.getD s undef, tmps.getD u undef]) w := by
 have hp' : tmps[p]?.getD undef = .pointer (some ⟨g, 0, none⟩) := by simpa using hp
 simp [results, h, hp', asAddr, run_loadVar_row w g t ty cs fr d hg hu hd hi]
theorem suNoneB (w : World) : (Instr.build 33 #[]).run Tryz.prog w = .ok (.agg suZ.v) w := run_build w _ _ _ (by show Tryz.prog.built _ _ = some _; kernel_rfl)
theorem suZ_32 : suZ.D.length = 32 := rfl
set_option maxRecDepth 100000 in
theorem jrnLoad_form (AV : Array Value) (D : Dk) (w : World) (v : DkVal AV w D) (er : Int) (h : (dkOk D = false ∧ er = 3) ∨ (dkOk D = true ∧ D.s.length < 98 ∧ er = 5)) :
  Calls Tryz.prog 31 #[.agg AV] w (RetLd w suZ [] [] er) := by
 obtain ⟨Z0, hZ0⟩ : ∃ Z0 : Array Value, #[.int .u32 0, .int .i64 0, .int .i64 0, .int .u8 0, .int .u8 0, .int .u8 0, .int .u8 0, .int .u8 0, .int .u8 0, .int .u8 0, .int .u8 0, .int .u8 0, .int .u8 0, .int .u8 0, .int .u8 0, .int .u8 0, .int .u8 0, .int .u8 0, .int .u8 0, .int .u8 0, .int .u8 0, .int .u8 0, .int .u8 0, .int .u8 0, .int .u8 0, .int .u8 0, .int .u8 0, .int .u8 0, .int .u8 0, .int .u8 0, .int .u8 0, .int .u8 0, .int .u8 0, .int .u8 0, .int .u8 0] = Z0 := ⟨_, rfl⟩
 have hZe : Z0 = suZ.v := by rw [← hZ0]; rfl
 have HZ0 := Lib.hid hZ0
 obtain ⟨V, hV⟩ : ∃ V, V = (w.alloc (.cells AV 40)).alloc (.cells Z0 33) := ⟨_, rfl⟩
 have bV : Below w.heap.size w V := by rw [hV]; exact ((below_self w).alloc (Nat.le_refl _) _).alloc (by simp) _
 have zV : Hid (V.heap.size = w.heap.size + 2) := by rw [hV]; exact Lib.hid (by simp)
 have qV : Hid (DkV V w.heap.size AV D) := Lib.hid ⟨by rw [hV]; exact drw_old _ (drw_at _ rfl), v.below bV⟩
 have rV : Hid (V.heap[w.heap.size + 1]? = some (.cells suZ.v 33 (0, 0))) := by rw [hV, hZe]; exact Lib.hid (drw_at _ (by simp))
 have HV := Lib.hid hV
 have C1 := Lib.hid (vCheck qV.out.2)
 obtain ⟨NV, hNV⟩ : ∃ z, z = suZ.v := ⟨_, rfl⟩
 have NB := Lib.hid suNoneB
 rw [← hNV] at NB
 have HNV := Lib.hid hNV
 have hs63 : ∃ K0 kc0 vs0, V.cell? ⟨w.heap.size, 0, none⟩ = some (.slice K0 D.s.length kc0) ∧ RdSS V K0 D.s.length kc0 vs0 D.s := qV.out.c0
 have HS := Lib.hid hs63
 clear hV hZ0 hZe v hNV hs63
 rcases h with ⟨h, rfl⟩ | ⟨h, h2, rfl⟩
 ·rw [h] at C1
  clear h
  go_enter Tryz.func31, Tryz.ntmps31
  go_wp2_with (first | (rw [HZ0.out, ← HV.out]) | (refine dk_load rfl _ rfl rfl qV.out ?_))
  refine C1.out.mono ?_
  rintro e w1 ⟨rfl, hb1⟩
  have r1 := Lib.hid (drw_up rV.out hb1)
  go_wp2_with (first | (refine wpList_of_exec rfl (rex_build rfl #[] rfl (NB.out _)) ?_) | (refine su_store rfl _ _ rfl (w.heap.size + 1) rfl suZ suZ (congrArg Value.agg HNV.out) r1.out suZ_32 suZ_32 ?_))
  refine bodyPost_ret (dresults1333 Tryz.results31 _ _ (w.heap.size + 1) 33 suZ.v (0, 0) _ rfl (setRow_heap _ _ _ suZ.v _ _ r1.out) Tryz.underlying33 rfl (suZ.info suZ_32)) rfl ?_
  exact retLd_none _ (below_setRow (below_then bV hb1) (by omega) _)
 ·rw [h] at C1
  clear h
  have d1 : decide ((D.s.length : Int) < 98) = true := decide_eq_true (by omega)
  have d2 : D.s.length < 98 := h2
  go_enter Tryz.func31, Tryz.ntmps31
  go_wp2_with (first | (rw [HZ0.out, ← HV.out]) | (refine dk_load rfl _ rfl rfl qV.out ?_))
  refine C1.out.mono ?_
  rintro e w1 ⟨rfl, hb1⟩
  have r1 := Lib.hid (drw_up rV.out hb1)
  obtain ⟨K0, kc0, vs0, hc0, _⟩ := (qV.out.up hb1).c0
  go_wp2_with (first | (refine wpList_of_exec rfl (rex_build rfl #[] rfl (NB.out _)) ?_) | (refine su_store rfl _ _ rfl (w.heap.size + 1) rfl suZ suZ (congrArg Value.agg HNV.out) r1.out suZ_32 suZ_32 ?_))
  refine bodyPost_ret (dresults1333 Tryz.results31 _ _ (w.heap.size + 1) 33 suZ.v (0, 0) _ rfl (setRow_heap _ _ _ suZ.v _ _ r1.out) Tryz.underlying33 rfl (suZ.info suZ_32)) rfl ?_
  exact retLd_none _ (below_setRow (below_then bV hb1) (by omega) _)
theorem dgs_eq (P Q : List UInt8) (hP : P.length = 32) (hQ : Q.length = 32) (W : World) : (Op.equalIn 10000 30 (.agg (dgA P)) (.agg (dgA Q))).run Tryz.prog W = .ok (decide (P = Q)) W := run_eqIn_digest 9996 W P Q hP hQ
theorem suCh_chk (a b : List UInt8) (h : suChE a b = 0) : suCheck (suCh a b).s (suCh a b).l = true := by
 have hg : ∀ x k, suGood x k = true → suCheck (suGet x).s (suGet x).l = true := fun x k hx => (suGet_ok x (of_decide_eq_true hx).1).2.2.2.1
 unfold suChE at h
 split at h
 ·rename_i hc
  unfold suCh
  split
  ·rename_i h1; exact hg _ _ h1.1
  ·split
   ·rename_i h1; exact hg _ _ h1
   ·rename_i h1 h2
    exfalso
    rcases hc with hc | hc
    ·exact h1 ⟨hc, .inl (by simpa using h2)⟩
    ·exact h2 hc
 ·cases h
set_option maxRecDepth 100000 in
theorem jrnLoad_go (AV : Array Value) (D : Dk) (w : World) (v : DkVal AV w D) (hok : dkOk D = true) (hl : 98 ≤ D.s.length) :
  Calls Tryz.prog 31 #[.agg AV] w (fun e w' =>
   (suChE (dkRead D 0) (dkRead D 1) ≠ 0 → RetLd w suZ [] [] (suChE (dkRead D 0) (dkRead D 1)) e w') ∧
   (suChE (dkRead D 0) (dkRead D 1) = 0 → jnBase (jnHad D (jnLoadS D)) ≠ (jnLoadS D).D → RetLd w suZ [] [] 6 e w') ∧
   (suChE (dkRead D 0) (dkRead D 1) = 0 → jnBase (jnHad D (jnLoadS D)) = (jnLoadS D).D → RetLd w (jnLoadS D) (jnHad D (jnLoadS D)) (jnLoadR D) 0 e w')) := by
 obtain ⟨Z0, hZ0⟩ : ∃ Z0 : Array Value, #[.int .u32 0, .int .i64 0, .int .i64 0, .int .u8 0, .int .u8 0, .int .u8 0, .int .u8 0, .int .u8 0, .int .u8 0, .int .u8 0, .int .u8 0, .int .u8 0, .int .u8 0, .int .u8 0, .int .u8 0, .int .u8 0, .int .u8 0, .int .u8 0, .int .u8 0, .int .u8 0, .int .u8 0, .int .u8 0, .int .u8 0, .int .u8 0, .int .u8 0, .int .u8 0, .int .u8 0, .int .u8 0, .int .u8 0, .int .u8 0, .int .u8 0, .int .u8 0, .int .u8 0, .int .u8 0, .int .u8 0] = Z0 := ⟨_, rfl⟩
 have hZe : Z0 = suZ.v := by rw [← hZ0]; rfl
 have HZ0 := Lib.hid hZ0
 have HZE := Lib.hid hZe
 obtain ⟨V, hV⟩ : ∃ V, V = (w.alloc (.cells AV 40)).alloc (.cells Z0 33) := ⟨_, rfl⟩
 have bV : Below w.heap.size w V := by rw [hV]; exact ((below_self w).alloc (Nat.le_refl _) _).alloc (by simp) _
 have zV : Hid (V.heap.size = w.heap.size + 2) := by rw [hV]; exact Lib.hid (by simp)
 have qV : Hid (DkV V w.heap.size AV D) := Lib.hid ⟨by rw [hV]; exact drw_old _ (drw_at _ rfl), v.below bV⟩
 have rV : Hid (V.heap[w.heap.size + 1]? = some (.cells suZ.v 33 (0, 0))) := by rw [hV, hZe]; exact Lib.hid (drw_at _ (by simp))
 have HV := Lib.hid hV
 have C1 := Lib.hid (vCheck qV.out.2)
 rw [hok] at C1
 have C2 := Lib.hid (fun W (u : DkVal AV W D) => vRead u 0 (by omega))
 have C3 := Lib.hid (fun W (u : DkVal AV W D) => vRead u 1 (by omega))
 rw [show dkAsk D 0 = 0 from dkAsk_in D hok 0 (by omega)] at C2
 rw [show dkAsk D 1 = 0 from dkAsk_in D hok 1 (by omega)] at C3
 obtain ⟨X0, hX0⟩ : ∃ q, dkRead D 0 = q := ⟨_, rfl⟩
 obtain ⟨X1, hX1⟩ : ∃ q, dkRead D 1 = q := ⟨_, rfl⟩
 obtain ⟨SU, hSU⟩ : ∃ q, jnLoadS D = q := ⟨_, rfl⟩
 have hSU2 : suCh X0 X1 = SU := by rw [← hX0, ← hX1]; exact hSU
 rw [hX0] at C2 ⊢
 rw [hX1] at C3 ⊢
 rw [hSU]
 obtain ⟨E, hE⟩ : ∃ q, suChE X0 X1 = q := ⟨_, rfl⟩
 rw [hE]
 have C4 := Lib.hid (fun (A B : Option Addr) (n c m d : Nat) W (a : RdB W A n c X0) (b : RdB W B m d X1) => suChoose_any A n c X0 B m d X1 W a b)
 rw [hSU2, hE] at C4
 obtain ⟨NV, hNV⟩ : ∃ z, z = suZ.v := ⟨_, rfl⟩
 have NB := Lib.hid suNoneB
 rw [← hNV] at NB
 have HNV := Lib.hid hNV
 have d1 : decide ((D.s.length : Int) < 98) = false := decide_eq_false (by omega)
 have d2 : ¬ D.s.length < 98 := by omega
 have hSUl : SU.D.length = 32 ∧ SU.g < 4294967296 := by
  rw [← hSU2]; unfold suCh
  split
  ·exact ⟨suGet_len _, (suGet_bounds _).1⟩
  ·split
   ·exact ⟨suGet_len _, (suGet_bounds _).1⟩
   ·exact ⟨rfl, by decide⟩
 have HSL := Lib.hid hSUl
 have HOK := Lib.hid hok
 have HLN := Lib.hid hl
 have HE := Lib.hid hE
 have HSU := Lib.hid hSU
 have HSU2 := Lib.hid hSU2
 clear hV hZ0 hZe v hNV hX0 hX1 hSU hSU2 hE hSUl hok hl
 go_enter Tryz.func31, Tryz.ntmps31
 go_wp2_with (first | (rw [HZ0.out, ← HV.out]) | (refine dk_load rfl _ rfl rfl qV.out ?_))
 refine C1.out.mono ?_
 rintro e w1 ⟨rfl, hb1⟩
 have q1 := Lib.hid (qV.out.up hb1)
 obtain ⟨K0, kc0, vs0, hc0, hss⟩ := q1.out.c0
 clear hss
 go_wp2_with (refine dk_load rfl _ rfl rfl q1.out ?_)
 refine (C2.out w1 q1.out.2).mono ?_
 rintro e w2 ⟨A2, n2, c2, rfl, o2, b2⟩
 have q2 := Lib.hid (q1.out.up b2)
 have O2 := Lib.hid o2.rd
 clear o2 hc0
 go_wp2_with (refine dk_load rfl _ rfl rfl q2.out ?_)
 refine (C3.out w2 q2.out.2).mono ?_
 rintro e w3 ⟨A3, n3, c3, rfl, o3, b3⟩
 have q3 := Lib.hid (q2.out.up b3)
 have O3 := Lib.hid o3.rd
 clear o3
 go_wp2_with fail
 refine (C4.out A2 A3 n2 c2 n3 c3 w3 (O2.out.below b3) O3.out).mono ?_
 rintro e w4 ⟨rfl, b4⟩
 have r4 := Lib.hid (drw_up (drw_up (drw_up (drw_up rV.out hb1) b2) b3) b4)
 have q4 := Lib.hid (q3.out.up b4)
 have B4 := Lib.hid (below_then bV (below_then hb1 (below_then b2 (below_then b3 b4))))
 obtain ⟨V5, hV5⟩ : ∃ W, W = w4.alloc (.cells Z0 33) := ⟨_, rfl⟩
 have b5 : Below w4.heap.size w4 V5 := by rw [hV5]; exact (below_self w4).alloc (Nat.le_refl _) _
 have r5 : Hid (V5.heap[w4.heap.size]? = some (.cells suZ.v 33 (0, 0))) := by rw [hV5, HZE.out]; exact Lib.hid (drw_at _ rfl)
 have HV5 := Lib.hid hV5
 obtain ⟨V6, hV6⟩ : ∃ W, W = V5.setRow w4.heap.size SU.v := ⟨_, rfl⟩
 have s6 : Hid (V6.heap[w4.heap.size]? = some (.cells SU.v 33 (0, 0))) := by rw [hV6]; exact Lib.hid (setRow_heap _ _ _ _ _ _ r5.out)
 have b6 : Below w4.heap.size w4 V6 := by rw [hV6]; exact below_setRow b5 (Nat.le_refl _) _
 have HV6 := Lib.hid hV6
 have q6 := Lib.hid (q4.out.up b6)
 have r6 := Lib.hid (drw_up r4.out b6)
 have B6 := Lib.hid (below_then B4.out b6)
 clear hV5 hV6
 by_cases hE0 : E = 0
 ·subst hE0
  have hck : suCheck SU.s SU.l = true := by rw [← HSU2.out]; exact suCh_chk _ _ HE.out
  have HCK := Lib.hid hck
  clear hck
  go_wp2_with (first | (rw [HZ0.out, ← HV5.out]; refine su_store rfl _ _ rfl w4.heap.size rfl SU suZ rfl r5.out HSL.out.1 suZ_32 ?_; rw [← HV6.out]) | (refine dk_load rfl _ rfl rfl q6.out ?_) | (refine su_load rfl _ rfl w4.heap.size rfl SU s6.out HSL.out.1 ?_))
  refine (jrnState_any AV D SU V6 q6.out.2 HOK.out HLN.out HCK.out HSL.out.1).mono ?_
  rintro e w7 ⟨A7, n7, c7, rfl, o7, b7⟩
  have q7 := Lib.hid (q6.out.up b7)
  have s7 := Lib.hid (drw_up s6.out b7)
  have r7 := Lib.hid (drw_up r6.out b7)
  have B7 := Lib.hid (below_then B6.out b7)
  obtain ⟨HA, hHA⟩ : ∃ q, jnHad D SU = q := ⟨_, rfl⟩
  rw [hHA] at o7
  have O7 := Lib.hid o7
  have HHA := Lib.hid hHA
  have hn7 : n7 ≤ 12288 := by
   have h1 := o7.len
   have h2 := of_decide_eq_true HCK.out
   rw [← h1, ← hHA]; unfold jnHad; rw [List.length_take]; omega
  obtain ⟨BD, hBD⟩ : ∃ q, jnBase HA = q := ⟨jnBase HA, rfl⟩
  have C8 := Lib.hid (fun W (h : RdB W A7 n7 c7 HA) => jrnBase_any A7 n7 c7 HA W h (by omega))
  rw [hBD] at C8
  have HBD := Lib.hid hBD
  have hBl : BD.length = 32 := by rw [← hBD]; exact shOf_len _
  have HBL := Lib.hid hBl
  clear o7 hHA hBD hBl
  have lo7 : w.heap.size + 1 < w4.heap.size := drw_lt r4.out
  by_cases hd : BD = SU.D
  ·have HD := Lib.hid hd
   have eq1 : ∀ W : World, (Op.equalIn 10000 30 (.agg (dgA BD)) (.agg (dgA SU.D))).run Tryz.prog W = .ok true W := fun W => by have := dgs_eq BD SU.D HBL.out HSL.out.1 W; rw [decide_eq_true hd] at this; exact this
   have EQ := Lib.hid eq1
   clear eq1 hd
   go_wp2_with fail
   refine wp_region_seg (S := fun w' => Below w7.heap.size w7 w') 0 #[true, true, true, true, true] [(0, true), (2, true), (3, true), (1, false), (4, true)] (by kernel_rfl) (by kernel_rfl) (fun _ _ d _ _ h => by first | (cases d <;> exact h) | cases h.1) ((Below.refl w7.heap.size w7).drew) ?_
   have HB := (Below.refl w7.heap.size w7).drew
   iterate 2 (refine seg_take (v := ?_) rfl (Or.inl ⟨by rfl, ?_⟩) ?_; rotate_left; (focus (intro w' hw'; go_simp <;> with_reducible rfl)); try simp only [Act.put, pst3])
   refine seg_take (v := .agg (dgA SU.D)) rfl (Or.inl ⟨by rfl, fun w' hw' => ?_⟩) ?_
   focus (exact rex_load rfl rfl (run_loadVar_mid w' w4.heap.size 3 30 (SU.D.map vB) _ (sup_dig (drw_up s7.out hw')) Tryz.underlying30 rfl (by rw [List.length_map, HSL.out.1]; kernel_rfl)))
   try simp only [Act.put, pst3]
   refine seg_run rfl (fun K hK => ?_)
   go_simp
   refine (C8.out _ (O7.out.rd.below HB)).mono ?_
   rintro e_ wA ⟨rfl, hbA⟩
   have HB := below_then HB hbA
   refine hK.out _ _ (HB) ?_
   clear hK
   try simp only [Act.put, pst3]
   refine seg_take (v := .bool false) rfl (Or.inl ⟨by rfl, fun w' hw' => ?_⟩) ?_
   focus (have hq := EQ.out w'; go_simp)
   try simp only [Act.put, pst3]
   refine seg_done (fun _ => ?_)
   refine wpAnyH_done (by kernel_rfl) ?_ _
   skip
   have BA := Lib.hid HB
   have q8 := Lib.hid (drw_up q7.out.1 HB)
   have v8 := Lib.hid (q7.out.2.below HB)
   have s8 := Lib.hid (drw_up s7.out HB)
   have r8 := Lib.hid (drw_up r7.out HB)
   have O8 := Lib.hid (O7.out.upB HB)
   have C9 := Lib.hid (fun W (u : DkVal AV W D) => jrnRecords_any AV D SU W u HOK.out HLN.out HSL.out.2 HSL.out.1)
   go_wp2_with fail
   refine wp_region_seg (S := fun w' => w'.heap[w.heap.size]? = some (.cells AV 40 (0, 0)) ∧ w'.heap[w4.heap.size]? = some (.cells SU.v 33 (0, 0))) 0 (brw9 9 511) [(0, true), (1, true), (2, true), (3, true), (4, false), (5, false), (6, true), (7, true), (8, true)] (by kernel_rfl) (by kernel_rfl) (fun _ _ d _ _ h => by first | (cases d <;> exact h) | cases h.1) (And.intro q8.out s8.out) ?_
   have HB := And.intro q8.out s8.out
   refine seg_take (v := .agg SU.v) rfl (Or.inl ⟨by rfl, fun w' hw' => ?_⟩) ?_
   focus (exact rex_load rfl rfl (run_loadVar_row w' w4.heap.size 33 33 _ (0, 0) _ hw'.2 Tryz.underlying33 rfl (SU.info HSL.out.1)))
   try simp only [Act.put, pst3]
   iterate 1 (refine seg_take (v := ?_) rfl (Or.inl ⟨by rfl, ?_⟩) ?_; rotate_left; (focus (intro w' hw'; go_simp <;> with_reducible rfl)); try simp only [Act.put, pst3])
   refine seg_take (v := .agg AV) rfl (Or.inl ⟨by rfl, fun w' hw' => ?_⟩) ?_
   focus (exact rex_load rfl rfl (run_loadVar_row w' w.heap.size 40 40 _ (0, 0) _ hw'.1 Tryz.underlying40 rfl v8.out.info))
   try simp only [Act.put, pst3]
   refine seg_take (v := .agg SU.v) rfl (Or.inl ⟨by rfl, fun w' hw' => ?_⟩) ?_
   focus (exact rex_load rfl rfl (run_loadVar_row w' w4.heap.size 33 33 _ (0, 0) _ hw'.2 Tryz.underlying33 rfl (SU.info HSL.out.1)))
   try simp only [Act.put, pst3]
   refine seg_run rfl (fun K hK => ?_)
   go_simp
   refine (C9.out wA.drew (v8.out.below (Below.refl _ wA).drew)).mono ?_
   rintro e_ wB ⟨A9, n9, c9, rfl, o9, b9⟩
   have HB := And.intro ((b9.block _ (drw_lt HB.1)).trans HB.1) ((b9.block _ (drw_lt HB.2)).trans HB.2)
   refine hK.out _ _ (HB) ?_
   clear hK
   try simp only [Act.put, pst3]
   refine seg_run rfl (fun K hK => ?_)
   rw [if_pos (by rfl)]
   refine wp_store_row 33 _ _ rfl (w.heap.size + 1) SU.v rfl rfl 33 suZ.v ((b9.block _ (drw_lt r8.out)).trans r8.out) (SU.info HSL.out.1) (Su.size _ _ suZ_32 HSL.out.1) (suV_one ..) ?_
   have HB := And.intro ((setRow_other wB (w.heap.size + 1) w.heap.size SU.v (by omega)).trans HB.1) ((setRow_other wB (w.heap.size + 1) w4.heap.size SU.v (by omega)).trans HB.2)
   refine hK.out _ _ (HB) ?_
   clear hK
   try simp only [Act.put, pst3]
   iterate 3 (refine seg_take (v := ?_) rfl (Or.inl ⟨by rfl, ?_⟩) ?_; rotate_left; (focus (intro w' hw'; go_simp <;> with_reducible rfl)); try simp only [Act.put, pst3])
   refine seg_done (fun _ => ?_)
   refine wpAnyH_done (by kernel_rfl) ?_ _
   skip
   go_wp2_with fail
   refine bodyPost_ret (dresults1333 Tryz.results31 _ _ (w.heap.size + 1) 33 SU.v (0, 0) _ rfl (setRow_heap _ _ _ SU.v _ _ ((b9.block _ (drw_lt r8.out)).trans r8.out)) Tryz.underlying33 rfl (SU.info HSL.out.1)) rfl ?_
   have hsB : V6.heap.size + 0 ≤ wA.heap.size := by have := b7.size; have := BA.out.size; omega
   have hb0 : w.heap.size + 2 ≤ V6.heap.size := by have := b6.size; omega
   have bX : Below w.heap.size w (wB.setRow (w.heap.size + 1) SU.v) := below_setRow (below_then (below_then B7.out BA.out).drew b9) (by omega) _
   have hag : AgrP (fun j => j = w.heap.size + 1) wB (wB.setRow (w.heap.size + 1) SU.v) := ⟨by simp, fun j _ hn => setRow_other _ _ _ _ hn⟩
   refine ⟨fun h => absurd (by rw [HHA.out, HBD.out]; exact HD.out) h, fun _ => ⟨A7, n7, c7, A9, n9, c9, rfl, ?_, ?_, bX⟩⟩
   ·rw [HHA.out]
    have o1 : OwnB wB V6.heap.size A7 n7 c7 HA := OwnB.upB (w := wA.drew) O8.out b9
    have o2 : OwnB (wB.setRow (w.heap.size + 1) SU.v) V6.heap.size A7 n7 c7 HA := own_agr0 o1 hag (fun j hj => by omega)
    exact own_mono o2 (by omega)
   ·unfold jnLoadR
    rw [HSU.out]
    exact (o9.agr hag (fun j hj => by have : wA.drew.heap.size = wA.heap.size := rfl; omega)).mono (by have : wA.drew.heap.size = wA.heap.size := rfl; omega)
  ·have HD := Lib.hid hd
   have eq1 : ∀ W : World, (Op.equalIn 10000 30 (.agg (dgA BD)) (.agg (dgA SU.D))).run Tryz.prog W = .ok false W := fun W => by have := dgs_eq BD SU.D HBL.out HSL.out.1 W; rw [decide_eq_false hd] at this; exact this
   have EQ := Lib.hid eq1
   clear eq1 hd
   go_wp2_with fail
   refine wp_region_seg (S := fun w' => Below w7.heap.size w7 w') 0 #[true, true, true, true, true] [(0, true), (2, true), (3, true), (1, false), (4, true)] (by kernel_rfl) (by kernel_rfl) (fun _ _ d _ _ h => by first | (cases d <;> exact h) | cases h.1) ((Below.refl w7.heap.size w7).drew) ?_
   have HB := (Below.refl w7.heap.size w7).drew
   iterate 2 (refine seg_take (v := ?_) rfl (Or.inl ⟨by rfl, ?_⟩) ?_; rotate_left; (focus (intro w' hw'; go_simp <;> with_reducible rfl)); try simp only [Act.put, pst3])
   refine seg_take (v := .agg (dgA SU.D)) rfl (Or.inl ⟨by rfl, fun w' hw' => ?_⟩) ?_
   focus (exact rex_load rfl rfl (run_loadVar_mid w' w4.heap.size 3 30 (SU.D.map vB) _ (sup_dig (drw_up s7.out hw')) Tryz.underlying30 rfl (by rw [List.length_map, HSL.out.1]; kernel_rfl)))
   try simp only [Act.put, pst3]
   refine seg_run rfl (fun K hK => ?_)
   go_simp
   refine (C8.out _ (O7.out.rd.below HB)).mono ?_
   rintro e_ wA ⟨rfl, hbA⟩
   have HB := below_then HB hbA
   refine hK.out _ _ (HB) ?_
   clear hK
   try simp only [Act.put, pst3]
   refine seg_take (v := .bool true) rfl (Or.inl ⟨by rfl, fun w' hw' => ?_⟩) ?_
   focus (have hq := EQ.out w'; go_simp)
   try simp only [Act.put, pst3]
   refine seg_done (fun _ => ?_)
   refine wpAnyH_done (by kernel_rfl) ?_ _
   skip
   have BA := Lib.hid HB
   have r8 := Lib.hid (drw_up r7.out HB)
   go_wp2_with (first | (refine wpList_of_exec rfl (rex_build rfl #[] rfl (NB.out _)) ?_) | (refine su_store rfl _ _ rfl (w.heap.size + 1) rfl suZ suZ (congrArg Value.agg HNV.out) r8.out suZ_32 suZ_32 ?_))
   refine bodyPost_ret (dresults1333 Tryz.results31 _ _ (w.heap.size + 1) 33 suZ.v (0, 0) _ rfl (setRow_heap _ _ _ suZ.v _ _ r8.out) Tryz.underlying33 rfl (suZ.info suZ_32)) rfl ?_
   refine ⟨fun _ => retLd_none _ (below_setRow (below_then B7.out BA.out) (by omega) _), fun h => absurd (by rw [← HBD.out, ← HHA.out]; exact h) HD.out⟩
 ·have e5 : (E != 0) = true := by simpa using hE0
  have HE0 := Lib.hid hE0
  clear hE0
  go_wp2_with (first | (rw [HZ0.out, ← HV5.out]; refine su_store rfl _ _ rfl w4.heap.size rfl SU suZ rfl r5.out HSL.out.1 suZ_32 ?_; rw [← HV6.out]) | (refine wpList_of_exec rfl (rex_build rfl #[] rfl (NB.out _)) ?_) | (refine su_store rfl _ _ rfl (w.heap.size + 1) rfl suZ suZ (congrArg Value.agg HNV.out) r6.out suZ_32 suZ_32 ?_))
  refine bodyPost_ret (dresults1333 Tryz.results31 _ _ (w.heap.size + 1) 33 suZ.v (0, 0) _ rfl (setRow_heap _ _ _ suZ.v _ _ r6.out) Tryz.underlying33 rfl (suZ.info suZ_32)) rfl ?_
  exact ⟨fun _ => retLd_none _ (below_setRow B6.out (by omega) _), fun h => absurd h HE0.out, fun h => absurd h HE0.out⟩
theorem jrnLoad_any (AV : Array Value) (D : Dk) (w : World) (v : DkVal AV w D) :
  Calls Tryz.prog 31 #[.agg AV] w (fun e w' => (jnLoadE D = 0 → RetLd w (jnLoadS D) (jnHad D (jnLoadS D)) (jnLoadR D) 0 e w') ∧ (jnLoadE D ≠ 0 → RetLd w suZ [] [] (jnLoadE D) e w')) := by
 cases hok : dkOk D with
 | false =>
  have e : jnLoadE D = 3 := by unfold jnLoadE; rw [if_pos hok]
  rw [e]
  exact (jrnLoad_form AV D w v 3 (.inl ⟨hok, rfl⟩)).mono fun _ _ h => ⟨fun h3 => absurd h3 (by decide), fun _ => h⟩
 | true =>
  by_cases hl : D.s.length < 98
  ·have e : jnLoadE D = 5 := by unfold jnLoadE; rw [if_neg (by simp [hok]), if_pos hl]
   rw [e]
   exact (jrnLoad_form AV D w v 5 (.inr ⟨hok, hl, rfl⟩)).mono fun _ _ h => ⟨fun h3 => absurd h3 (by decide), fun _ => h⟩
  ·refine (jrnLoad_go AV D w v hok (by omega)).mono fun e w' ⟨h1, h2, h3⟩ => ?_
   by_cases hE : suChE (dkRead D 0) (dkRead D 1) = 0
   ·by_cases hB : jnBase (jnHad D (jnLoadS D)) = (jnLoadS D).D
    ·have e : jnLoadE D = 0 := by unfold jnLoadE; rw [if_neg (by simp [hok]), if_neg hl, if_neg (fun h => h hE), if_neg (fun h => h hB)]
     rw [e]
     exact ⟨fun _ => h3 hE hB, fun h => absurd rfl h⟩
    ·have e : jnLoadE D = 6 := by unfold jnLoadE; rw [if_neg (by simp [hok]), if_neg hl, if_neg (fun h => h hE), if_pos hB]
     rw [e]
     exact ⟨fun h => absurd h (by decide), fun _ => h2 hE hB⟩
   ·have e : jnLoadE D = suChE (dkRead D 0) (dkRead D 1) := by unfold jnLoadE; rw [if_neg (by simp [hok]), if_neg hl, if_pos hE]
    rw [e]
    exact ⟨fun h => absurd h hE, fun _ => h1 hE⟩
set_option maxHeartbeats 8000000
def RetDkS (w : World) (S : Option Addr) (sn sc : Nat) (K : Option Addr) (kn kc : Nat) (D D' : Dk) (er : Int) (e : Ending) (w' : World) : Prop :=
 ∃ K2 kn2 kc2, e = .returned (.tuple #[.agg #[.slice S sn sc, .slice K2 kn2 kc2], .int .i64 er]) ∧ D'.s = D.s ∧ Below w.heap.size w w' ∧ ∀ us, RdWs w K kn kc us D.k → ∃ us2, ∀ W, (∀ j, w.heap.size ≤ j → j < w'.heap.size → W.heap[j]? = w'.heap[j]?) → RdWs W K kn kc us D.k → RdWs W K2 kn2 kc2 us2 D'.k
theorem ref_WriteS_any (S : Option Addr) (sn sc : Nat) (K : Option Addr) (kn kc : Nat) (D : Dk) (a : Int) (B : Option Addr) (m d : Nat) (ys : List UInt8) (w : World) (hr : RdDk w S sn sc K kn kc D) (ha : -9223372036854775808 ≤ a ∧ a ≤ 9223372036854775807) (hd : RdB w B m d ys) :
  Calls Tryz.prog 46 #[.agg #[.slice S sn sc, .slice K kn kc], .int .i64 a, .slice B m d] w (RetDkS w S sn sc K kn kc D (dkWrite D a ys) (dkWriteE D a ys)) := by
 obtain ⟨hn1, hn2, _, _, _, _⟩ := hr.n63
 have hsl := hr.sl
 have hkl := hr.kl
 have hm63 := hd.n63
 have hml := hd.2.1
 obtain ⟨V, hV⟩ : ∃ V, V = (w.alloc (.cells #[.slice S sn sc, .slice K kn kc] 40)).alloc (.cells #[.slice none 0 0, .slice none 0 0] 40) := ⟨_, rfl⟩
 have bV : Below w.heap.size w V := by rw [hV]; exact ((below_self w).alloc (Nat.le_refl _) _).alloc (by simp) _
 have qV : Hid (DkAt V w.heap.size S sn sc K kn kc) := by rw [hV]; exact Lib.hid (drw_old _ (drw_at _ rfl))
 have rV : Hid (DkAt V (w.heap.size + 1) none 0 0 none 0 0) := by rw [hV]; exact Lib.hid (drw_at _ (by simp))
 have HV := Lib.hid hV
 have C1 := Lib.hid (refDskCheck_any S sn sc K kn kc D V (hr.below bV))
 have C2 := Lib.hid (fun W => refDskHas_any S sn sc K kn kc a W hn1 ha)
 have hno : ¬ dkWriteE D a ys = 0 → dkWrite D a ys = D := fun h => by unfold dkWrite; rw [if_neg h]
 clear hV
 rcases dkAsk_cases hsl a with ⟨h1, h2⟩ | ⟨h1, h2, h3⟩ | ⟨h1, h0, h2, h3, h4⟩
 ·have e : dkWriteE D a ys = 3 := by unfold dkWriteE; rw [if_pos (by rw [h2]; decide), h2]
  rw [hno (by rw [e]; decide), e]
  rw [h1] at C1
  clear h1 h2 hno e
  go_enter Tryz.func46, Tryz.ntmps46
  go_wp2_with fail
  rw [← HV.out]
  refine C1.out.mono ?_
  rintro e w1 ⟨rfl, hb1⟩
  have B1 := below_then bV hb1
  have q := Lib.hid (qV.out.up hb1)
  have r := Lib.hid (rV.out.up hb1)
  have x0 := q.out.c0
  have x1 := q.out.c1
  have y0 := r.out.c0
  have y1 := r.out.c1
  have f0 := r.out.fr 0
  have f1 := r.out.fr 1
  have QS := Lib.hid (r.out.s01 S sn sc K kn kc)
  go_wp2_with fail
  refine bodyPost_ret (dresults_cell_tmp Tryz.results46 _ _ (w.heap.size + 1) 40 _ (0, 0) _ rfl QS.out Tryz.underlying40 rfl (dkInfo ..)) rfl ?_
  exact ⟨K, kn, kc, rfl, rfl, below2 B1 (by omega) _ _, fun us hus => ⟨us, fun W hag hin2 => hin2⟩⟩
 ·have e : dkWriteE D a ys = 50 := by unfold dkWriteE; rw [if_pos (by rw [h3]; decide), h3]
  rw [hno (by rw [e]; decide), e]
  rw [h1] at C1
  rw [h2] at C2
  clear h1 h2 h3 hno e
  go_enter Tryz.func46, Tryz.ntmps46
  go_wp2_with fail
  rw [← HV.out]
  refine C1.out.mono ?_
  rintro e w1 ⟨rfl, hb1⟩
  have B1 := below_then bV hb1
  have q := Lib.hid (qV.out.up hb1)
  have r := Lib.hid (rV.out.up hb1)
  have x0 := q.out.c0
  have x1 := q.out.c1
  go_wp2_with fail
  refine (C2.out w1).mono ?_
  rintro e w2 ⟨rfl, hb2⟩
  have B2 := below_then B1 hb2
  have q := Lib.hid (q.out.up hb2)
  have r := Lib.hid (r.out.up hb2)
  have x0 := q.out.c0
  have x1 := q.out.c1
  have y0 := r.out.c0
  have y1 := r.out.c1
  have f0 := r.out.fr 0
  have f1 := r.out.fr 1
  have QS := Lib.hid (r.out.s01 S sn sc K kn kc)
  go_wp2_with fail
  refine bodyPost_ret (dresults_cell_tmp Tryz.results46 _ _ (w.heap.size + 1) 40 _ (0, 0) _ rfl QS.out Tryz.underlying40 rfl (dkInfo ..)) rfl ?_
  exact ⟨K, kn, kc, rfl, rfl, below2 B2 (by omega) _ _, fun us hus => ⟨us, fun W hag hin2 => hin2⟩⟩
 ·have hok := h1
  rw [h1] at C1
  rw [h3] at C2
  have hk5 : kn ≤ 512 := by rw [← hkl]; exact ((dkOk_iff D).1 hok).2.1
  have hs5 : sn ≤ 256 := by rw [← hsl]; exact ((dkOk_iff D).1 hok).1
  clear h1 h3 hok
  by_cases hm : m = 256
  ·have d1 : ((m : Int) != 256) = false := by simp [hm]
   by_cases hk : kn = 512
   ·have e : dkWriteE D a ys = 4 := by unfold dkWriteE; rw [if_neg (by simp [h4]), if_neg (by simp [hml, hm]), if_pos (by omega)]
    rw [hno (by rw [e]; decide), e]
    have d2 : decide (512 ≤ (kn : Int)) = true := decide_eq_true (by omega)
    clear hno e hk hm h4
    go_enter Tryz.func46, Tryz.ntmps46
    go_wp2_with fail
    rw [← HV.out]
    refine C1.out.mono ?_
    rintro e w1 ⟨rfl, hb1⟩
    have B1 := below_then bV hb1
    have q := Lib.hid (qV.out.up hb1)
    have r := Lib.hid (rV.out.up hb1)
    have x0 := q.out.c0
    have x1 := q.out.c1
    go_wp2_with fail
    refine (C2.out w1).mono ?_
    rintro e w2 ⟨rfl, hb2⟩
    have B2 := below_then B1 hb2
    have q := Lib.hid (q.out.up hb2)
    have r := Lib.hid (r.out.up hb2)
    have x0 := q.out.c0
    have x1 := q.out.c1
    have y0 := r.out.c0
    have y1 := r.out.c1
    have f0 := r.out.fr 0
    have f1 := r.out.fr 1
    have QS := Lib.hid (r.out.s01 S sn sc K kn kc)
    go_wp2_with fail
    refine bodyPost_ret (dresults_cell_tmp Tryz.results46 _ _ (w.heap.size + 1) 40 _ (0, 0) _ rfl QS.out Tryz.underlying40 rfl (dkInfo ..)) rfl ?_
    exact ⟨K, kn, kc, rfl, rfl, below2 B2 (by omega) _ _, fun us hus => ⟨us, fun W hag hin2 => hin2⟩⟩
   ·have e : dkWriteE D a ys = 0 := by unfold dkWriteE; rw [if_neg (by simp [h4]), if_neg (by simp [hml, hm]), if_neg (by omega)]
    rw [e, show dkWrite D a ys = ⟨D.s, D.k ++ [(a, ys)]⟩ by unfold dkWrite; rw [if_pos e]]
    have d2 : decide (512 ≤ (kn : Int)) = false := decide_eq_false (by omega)
    obtain ⟨⟨vs, hs⟩, us, hus⟩ := id hr
    have HUS := Lib.hid hus
    have HS := Lib.hid hs
    have HM := Lib.hid hm
    clear hno e h4 hus hs hm
    go_enter Tryz.func46, Tryz.ntmps46
    go_wp2_with fail
    rw [← HV.out]
    refine C1.out.mono ?_
    rintro e w1 ⟨rfl, hb1⟩
    have B1 := below_then bV hb1
    have q := Lib.hid (qV.out.up hb1)
    have r := Lib.hid (rV.out.up hb1)
    have x0 := q.out.c0
    have x1 := q.out.c1
    go_wp2_with fail
    refine (C2.out w1).mono ?_
    rintro e w2 ⟨rfl, hb2⟩
    have B2 := below_then B1 hb2
    have q := Lib.hid (q.out.up hb2)
    have r := Lib.hid (r.out.up hb2)
    have x0 := q.out.c0
    have x1 := q.out.c1
    have hown := World.ownsRow_lit (size := 2) (e := 119) w2 #[] 0 (Nat.le_refl _) (by simp [maxLen]) rfl
    have HO := Lib.hid hown
    clear hown
    have x1a : (w2.alloc (.cells #[] 119)).cell? ⟨w.heap.size, 1, none⟩ = some (.slice K kn kc) := (q.out.up ((below_self w2).alloc (Nat.le_refl _) _)).c1
    have q2 := q
    have r2 := r
    go_wp2_with (first | (at_builtin; refine wp_appW rfl _ _ rfl w2.heap.size _ 0 _ rfl HO.out K kn kc us rfl ((HUS.out.below B2).1.alloc _) (HUS.out.2.1) (wcells_one HUS.out.2.2.2.2) (by omega) (by simp) kn us (by omega) rfl ?_; intro A3 c3 w3 ho3 hg3; have hb3 : Below w2.heap.size w2 w3 := ((Below.refl _ _).alloc (Nat.le_refl _) _).grown hg3 (by simp) (fun q hq => by have := (HO.out.lt q hq).1; omega); have B3 := below_then B2 hb3; have q := Lib.hid (q.out.up hb3); have r := Lib.hid (r.out.up hb3); have HO3 := Lib.hid ho3; have HO2 := Lib.hid (OwnB.lit w3 #[] [] 0 rfl rfl (by simp [maxLen])); clear ho3 hg3 x0 x1 x1a) | (at_builtin; refine wp_appB rfl _ _ rfl ((below_self w3).alloc (Nat.le_refl _) _) (Nat.le_refl _) (by simp) (some ⟨w3.heap.size, 0, none⟩) 0 0 [] rfl HO2.out B m d ys rfl ((hd.below B3).alloc _) (by have := HM.out; omega) m ys (by omega) rfl ?_; intro A5 c5 w5 ho5 hb5 hg5; have B5 := below_then B3 hb5; obtain ⟨X, hX⟩ : ∃ X, X = w5.alloc (.cells #[.int .i64 a, .slice A5 m c5] 119) := ⟨_, rfl⟩; have bX : Below w5.heap.size w5 X := (by rw [hX]; exact (below_self w5).alloc (Nat.le_refl _) _); have rX : Rd X (some ⟨w5.heap.size, 0, none⟩) [.int .i64 a, .slice A5 m c5] := (by rw [hX]; exact Rd.new w5 #[.int .i64 a, .slice A5 m c5] _); have q := Lib.hid ((q.out.up hb5).up bX); have r := Lib.hid ((r.out.up hb5).up bX); have O3 := Lib.hid (down_keep (down_keep HO3.out hb5) bX); have O5 := Lib.hid (ho5.below bX); have BX := below_then B5 bX; have HX := Lib.hid hX; have RX := Lib.hid rX; have hl2 : w2.heap.size ≤ X.heap.size := (by have := hb3.size; have := hb5.size; have := bX.size; omega); clear hX rX ho5 hg5 HO2 HO3) | (at_builtin; rw [← HX.out]; refine wp_appW rfl _ _ rfl w2.heap.size _ kn us rfl O3.out (some ⟨w5.heap.size, 0, none⟩) 1 1 _ rfl RX.out rfl (by intro u hu; simp at hu; rcases hu with rfl | rfl <;> rfl) (by omega) hl2 (kn + 1) _ rfl rfl ?_; intro A7 c7 w7 ho7 hg7; have hb7 : Below w2.heap.size w2 w7 := (below_then (below_then hb3 hb5) bX).grown hg7 hl2 (fun q hq => (O3.out.lt q hq).1); have Q7 := Lib.hid (q2.out.up hb7); have R7 := Lib.hid (r2.out.up hb7); have D7 := Lib.hid (own_grown O3.out O5.out (by decide) hg7); have HO7 := Lib.hid ho7; have z0 := Q7.out.c0; have z1 := Q7.out.c1; have g0 := Q7.out.fr 0; have g1 := Q7.out.fr 1; have y0 := R7.out.c0; have y1 := R7.out.c1; have f0 := R7.out.fr 0; have f1 := R7.out.fr 1; clear ho7 hg7))
    have r8 : DkAt (w7.setCell ⟨w.heap.size, 1, none⟩ (.slice A7 (kn + 1) c7)) (w.heap.size + 1) none 0 0 none 0 0 := (heap_setCell_other _ _ _ _ (by show w.heap.size + 1 ≠ w.heap.size; omega)).trans R7.out
    have QS := Lib.hid (r8.s01 S sn sc A7 (kn + 1) c7)
    have BF := below2 ((below_then B2 hb7).setCell (p := ⟨w.heap.size, 1, none⟩) (Nat.le_refl w.heap.size) (.slice A7 (kn + 1) c7)) (q := w.heap.size + 1) (by omega) (.slice S sn sc) (.slice A7 (kn + 1) c7)
    have oF := own_far (own_far (own_far HO7.out Q7.out (by decide) 1 (.slice A7 (kn + 1) c7)) r8 (by decide) 0 (.slice S sn sc)) (r8.s0 S sn sc) (by decide) 1 (.slice A7 (kn + 1) c7)
    have dF : OwnB _ _ A5 m c5 ys := own_far (own_far (own_far D7.out Q7.out (by decide) 1 (.slice A7 (kn + 1) c7)) r8 (by decide) 0 (.slice S sn sc)) (r8.s0 S sn sc) (by decide) 1 (.slice A7 (kn + 1) c7)
    obtain ⟨e1, e2, e3, e4⟩ := own2_rd oF
    refine bodyPost_ret (dresults_cell_tmp Tryz.results46 _ _ (w.heap.size + 1) 40 _ (0, 0) _ rfl QS.out Tryz.underlying40 rfl (dkInfo ..)) rfl ?_
    refine ⟨A7, kn + 1, c7, rfl, rfl, BF, fun us' hus' => ⟨us ++ [.int .i64 a, .slice A5 m c5], fun W hag hin2 => ?_⟩⟩
    have hz2 := B2.size
    have hz3 := B3.size
    have oQ := own_agr oF (fun j hj hj2 => hag j (by omega) hj2)
    have dQ : OwnB _ _ A5 m c5 ys := own_agr dF (fun j hj hj2 => hag j (by omega) hj2)
    obtain ⟨f1, f2, f3, f4⟩ := own2_rd oQ
    have eu := ws_one hus' HUS.out
    subst eu
    exact ⟨f1, f2, f3, f4, WParts.snoc ha dQ.rd hin2.2.2.2.2⟩
  ·have e : dkWriteE D a ys = 2 := by unfold dkWriteE; rw [if_neg (by simp [h4]), if_pos (by omega)]
   rw [hno (by rw [e]; decide), e]
   have d1 : ((m : Int) != 256) = true := by rw [bne_iff_ne]; omega
   clear hno e hm h4
   go_enter Tryz.func46, Tryz.ntmps46
   go_wp2_with fail
   rw [← HV.out]
   refine C1.out.mono ?_
   rintro e w1 ⟨rfl, hb1⟩
   have B1 := below_then bV hb1
   have q := Lib.hid (qV.out.up hb1)
   have r := Lib.hid (rV.out.up hb1)
   have x0 := q.out.c0
   have x1 := q.out.c1
   go_wp2_with fail
   refine (C2.out w1).mono ?_
   rintro e w2 ⟨rfl, hb2⟩
   have B2 := below_then B1 hb2
   have q := Lib.hid (q.out.up hb2)
   have r := Lib.hid (r.out.up hb2)
   have x0 := q.out.c0
   have x1 := q.out.c1
   have y0 := r.out.c0
   have y1 := r.out.c1
   have f0 := r.out.fr 0
   have f1 := r.out.fr 1
   have QS := Lib.hid (r.out.s01 S sn sc K kn kc)
   go_wp2_with fail
   refine bodyPost_ret (dresults_cell_tmp Tryz.results46 _ _ (w.heap.size + 1) 40 _ (0, 0) _ rfl QS.out Tryz.underlying40 rfl (dkInfo ..)) rfl ?_
   exact ⟨K, kn, kc, rfl, rfl, below2 B2 (by omega) _ _, fun us hus => ⟨us, fun W hag hin2 => hin2⟩⟩
def DkS (P : Nat → Prop) (w : World) (AV : Array Value) (D : Dk) : Prop := ∃ S sn sc K kn kc vs us, AV = #[.slice S sn sc, .slice K kn kc] ∧ ∀ W, Agr P w W → RdSS W S sn sc vs D.s ∧ RdWs W K kn kc us D.k
theorem DkS.val {P : Nat → Prop} {w : World} {AV : Array Value} {D : Dk} (h : DkS P w AV D) : DkVal AV w D := by
 obtain ⟨S, sn, sc, K, kn, kc, vs, us, e, f⟩ := h
 obtain ⟨f1, f2⟩ := f w ⟨rfl, rfl, rfl, Nat.le_refl _, fun _ _ _ => rfl⟩
 exact ⟨S, sn, sc, K, kn, kc, e, ⟨vs, f1⟩, us, f2⟩
theorem DkVal.ins {P : Nat → Prop} {w w' : World} {AV : Array Value} {D : Dk} (v : DkVal AV w D) (hb : Below w.heap.size w w') (hs : ∀ j, P j → w.heap.size ≤ j) : DkS P w' AV D := by
 obtain ⟨S, sn, sc, K, kn, kc, e, ⟨vs, r1⟩, us, r2⟩ := v
 refine ⟨S, sn, sc, K, kn, kc, vs, us, e, fun W hW => ?_⟩
 have hB : Below w.heap.size w W := ⟨hW.1.trans hb.os, hW.2.1.trans hb.tape, hW.2.2.1.trans hb.output, Nat.le_trans hb.size hW.2.2.2.1, fun j hj => (hW.2.2.2.2 j (Nat.lt_of_lt_of_le hj hb.size) (fun hp => by have := hs j hp; omega)).trans (hb.block j hj)⟩
 exact ⟨r1.below hB, r2.below hB⟩
theorem vRWriteS {P : Nat → Prop} {w : World} {AV : Array Value} {D : Dk} (v : DkS P w AV D) (hP : ∀ j, P j → j < w.heap.size) (a : Int) (B : Option Addr) (m d : Nat) (ys : List UInt8) (ha : -9223372036854775808 ≤ a ∧ a ≤ 9223372036854775807) (hd : RdB w B m d ys) : Calls Tryz.prog 46 #[.agg AV, .int .i64 a, .slice B m d] w (fun e w' => ∃ AV', e = .returned (.tuple #[.agg AV', .int .i64 (dkWriteE D a ys)]) ∧ DkS P w' AV' (dkWrite D a ys) ∧ Below w.heap.size w w') := by
 obtain ⟨_, _, _, _, _, _, _, r0⟩ := v.val
 obtain ⟨S, sn, sc, K, kn, kc, vs, us, rfl, f⟩ := v
 obtain ⟨f1, f2⟩ := f w ⟨rfl, rfl, rfl, Nat.le_refl _, fun _ _ _ => rfl⟩
 refine (ref_WriteS_any S sn sc K kn kc D a B m d ys w ⟨⟨vs, f1⟩, us, f2⟩ ha hd).mono ?_
 rintro e w' ⟨K2, kn2, kc2, h1, hs, h3, h4⟩
 obtain ⟨us2, h5⟩ := h4 us f2
 refine ⟨_, h1, ⟨S, sn, sc, K2, kn2, kc2, vs, us2, rfl, fun W hW => ?_⟩, h3⟩
 have hW2 := hW.of h3
 rw [hs]
 exact ⟨(f W hW2).1, h5 W (fun j hj hj2 => hW.2.2.2.2 j hj2 (fun hp => by have := hP j hp; omega)) (f W hW2).2⟩
end Go.Proofs.YtpahicfnhhhifaaGreat
namespace Go.Proofs.YtpahicfnhhhifaaGreat
set_option maxRecDepth 20000
set_option maxHeartbeats 1000000
theorem jnBase_len (st : List UInt8) : (jnBase st).length = 32 := shOf_len _
end Go.Proofs.YtpahicfnhhhifaaGreat
namespace Go.Proofs.YtpahicfnhhhifaaGreat
set_option maxRecDepth 20000
open Go.RowKit
structure ElemK (P : Program) (t e : TypeId) (z : Value) (K bytes : Nat) : Prop where
 slice : P.underlying t = some (.slice e)
 info : ∃ i : TypeInfo, P.info? e = some i ∧ i.zero = some z ∧ i.size = K ∧ i.bytes = bytes
 zs : z.cells.size = K
 pos : 0 < K
theorem ElemK.of {P : Program} {t e : TypeId} {z : Value} {K bytes : Nat} (h1 : P.underlying t = some (.slice e)) (h2 : (P.info? e).map (fun i => (i.zero, i.size, i.bytes)) = some (some z, K, bytes)) (h3 : z.cells.size = K) (h4 : 0 < K) : ElemK P t e z K bytes := by
 refine ⟨h1, ?_, h3, h4⟩
 obtain ⟨i, hi, he⟩ := Option.map_eq_some_iff.1 h2
 injection he with e1 e2
 injection e2 with e2 e3
 exact ⟨i, hi, e1, e2, e3⟩
set_option maxHeartbeats 4000000
section
variable {P P' : Nat → Prop} {w w' W : World}
theorem AgrP.comp (h : AgrP P w w') (h' : AgrP P' w' W) (hs : ∀ j, P' j → P j ∨ w.heap.size ≤ j) : AgrP P w W :=
 ⟨Nat.le_trans h.1 h'.1, fun j hj hn => (h'.2 j (Nat.lt_of_lt_of_le hj h.1) (fun hp => by rcases hs j hp with q | q; exact hn q; omega)).trans (h.2 j hj hn)⟩
theorem Agr.p (h : Agr P w w') : AgrP P w w' := ⟨h.2.2.2.1, h.2.2.2.2⟩
theorem Agr.comp (h : Agr P w w') (h' : Agr P' w' W) (hs : ∀ j, P' j → P j ∨ w.heap.size ≤ j) : Agr P w W :=
 ⟨h'.1.trans h.1, h'.2.1.trans h.2.1, h'.2.2.1.trans h.2.2.1, (h.p.comp h'.p hs).1, (h.p.comp h'.p hs).2⟩
theorem DkS.to {AV : Array Value} {D : Dk} (h : DkS P w AV D) (ha : Agr P w w') (hs : ∀ j, P' j → P j ∨ w.heap.size ≤ j) : DkS P' w' AV D := by
 obtain ⟨S, sn, sc, K, kn, kc, vs, us, e, f⟩ := h
 exact ⟨S, sn, sc, K, kn, kc, vs, us, e, fun W hW => f W (ha.comp hW hs)⟩
end
section
variable {α : Type} {K : Nat} {E E' : List Value → α → Prop}
def Rows (K : Nat) (E : List Value → α → Prop) : List Value → List α → Prop
 | us, [] => us = []
 | us, x :: l => ∃ c r, us = c ++ r ∧ c.length = K ∧ (∀ v ∈ c, v.oneCell' = true) ∧ E c x ∧ Rows K E r l
end
theorem run_appO {P : Program} {t e : TypeId} {z : Value} {K bytes : Nat} (he : ElemK P t e z K bytes) (hb0 : bytes ≤ 1000) {w : World} (ty : TypeId) (base : Nat) (v : Value) (n : Nat) (xs : List Value) (hown : w.ownsRow base e K v n xs)
  (A : Option Addr) (m c : Nat) (news : List Value) (hr : Rd w A news) (hm : news.length = m * K) (h1 : ∀ u ∈ news, u.oneCell' = true) (h63 : n + m ≤ 100000000) (hbase : base ≤ w.heap.size) :
  ∃ A' c' w', (Builtin.append_ #[t, t] ty #[v, .slice A m c]).run P w = .ok (.slice A' (n + m) c') w' ∧ w'.ownsRow base e K (.slice A' (n + m) c') (n + m) (xs ++ news) ∧ w.grownBy w' v.ownBlock ∧ ((Value.slice A' (n + m) c').ownBlock = v.ownBlock ∨ (Value.slice A' (n + m) c').ownBlock = some w.heap.size) := by
 obtain ⟨hsl, ⟨i, hi, hz, hsz, hby⟩, hzs, hpos⟩ := he
 have fin : ∀ (v' : Value) (w' : World), w'.ownsRow base e K v' (n + m) (xs ++ news) → ∃ A' c', v' = .slice A' (n + m) c' := fun v' w' h => by
  rcases h.2 with ⟨rfl, h0⟩ | ⟨g, cap, cur, rfl, _⟩
  ·exact ⟨none, 0, by rw [h0]⟩
  ·exact ⟨_, _, rfl⟩
 have hbyt : (n + m) * bytes ≤ 140737488355328 := Nat.le_trans (Nat.mul_le_mul h63 hb0) (by decide)
 by_cases h0 : news = []
 ·subst h0
  obtain rfl : m = 0 := by rcases Nat.eq_zero_or_pos m with h | h; exact h; have := Nat.mul_pos h hpos; simp at hm; omega
  rcases A with _ | a
  ·have hrun : (Builtin.append_ #[t, t] ty #[v, .slice none 0 c]).run P w = .ok v w := by
    rcases hown.2 with ⟨rfl, rfl⟩ | ⟨g, cap, cur, rfl, _, _, hnc, _⟩
    ·simp [Builtin.append_, run_underlying hsl, sizeOf, typeInfo, hi, Builtin.lenOf, Builtin.firstCells]
    ·simp [Builtin.append_, run_underlying hsl, sizeOf, typeInfo, hi, Builtin.lenOf, Builtin.firstCells, hnc, storeCells]
   obtain ⟨A', c', rfl⟩ := fin v w (by simpa using hown)
   exact ⟨A', c', w, by simpa using hrun, by simpa using hown, World.grownBy.refl _ _, .inl rfl⟩
  ·obtain ⟨v', w', hrun, ho, hg, _, hb2⟩ := run_append_own_at (P := P) w base t ty e i _ K bytes hsl hi hz hsz hby hzs hpos v n xs hown a 0 c [] (by simp) (by simp) (by simp) (by unfold maxLen; omega) hbyt hbase
   obtain ⟨A', c', rfl⟩ := fin v' w' ho
   exact ⟨A', c', w', hrun, ho, hg, hb2⟩
 ·rcases hr with h | ⟨b, o, rfl, hb, hc⟩
  ·exact absurd h h0
  ·obtain ⟨v', w', hrun, ho, hg, _, hb2⟩ := run_append_own_at (P := P) w base t ty e i _ K bytes hsl hi hz hsz hby hzs hpos v n xs hown ⟨b, o, none⟩ m c news hm (fun j u hj => by
    have := hc j u hj
    rwa [Addr.add_lit]) h1 (by unfold maxLen; omega) hbyt hbase
   obtain ⟨A', c', rfl⟩ := fin v' w' ho
   exact ⟨A', c', w', hrun, ho, hg, hb2⟩
theorem op_appO {P : Program} {t e : TypeId} {z : Value} {K bytes : Nat} (he : ElemK P t e z K bytes) (hb0 : bytes ≤ 1000) {o : Oper} {a : Act} {w : World} {Q : Exit → Act → World → Prop} {Kq : Act → World → Prop} (s x : Operand)
  (ho : o.op = .call { callee := .builtin .append, args := #[s, x], argTypes := #[t, t] }) (base : Nat) (v : Value) (n : Nat) (xs : List Value) (hs : a.eval s = v) (hown : w.ownsRow base e K v n xs)
  (A : Option Addr) (m c : Nat) (news : List Value) (hx : a.eval x = .slice A m c) (hr : Rd w A news) (hm : news.length = m * K) (h1 : ∀ u ∈ news, u.oneCell' = true) (h63 : n + m ≤ 100000000) (hbase : base ≤ w.heap.size)
  (h : ∀ A' c' w', w'.ownsRow base e K (.slice A' (n + m) c') (n + m) (xs ++ news) → w.grownBy w' v.ownBlock → ((Value.slice A' (n + m) c').ownBlock = v.ownBlock ∨ (Value.slice A' (n + m) c').ownBlock = some w.heap.size) → Kq (a.put o.dst (.slice A' (n + m) c')) w') : o.wp P a w Kq Q := by
 obtain ⟨A', c', w', hr, h2, h3, h4⟩ := run_appO he hb0 o.type base v n xs hown A m c news hr hm h1 h63 hbase
 unfold Oper.wp execOp
 simp only [ho, resolve, invoke, builtin, Sem.run_bind, Sem.run_pure, Result.andThen_ok, List.map_toArray, List.map_cons, List.map_nil, hs, hx, hr]
 exact h A' c' w' h2 h3 h4
theorem elJ : ElemK Tryz.prog 31 60 (.agg #[.int .i64 0, .slice none 0 0]) 2 32 := .of Tryz.underlying31 (by kernel_rfl) rfl (by decide)
def Blk (A : Option Addr) (j : Nat) : Prop := ∃ a, A = some a ∧ a.block = j
theorem blk_own {A : Option Addr} {n c j : Nat} : some j = (Value.slice A n c).ownBlock ↔ Blk A j := by
 rcases A with _ | a
 ·exact ⟨fun h => (by cases h), fun ⟨a, h, _⟩ => (by cases h)⟩
 ·exact ⟨fun h => ⟨a, rfl, (by simp [Value.ownBlock] at h; exact h.symm)⟩, fun ⟨b, h, e⟩ => (by injection h with h; subst h; simp [Value.ownBlock, e])⟩
section
variable {base : Nat} {w w' : World} {g : Nat}
theorem own_typ {e : TypeId} {size n : Nat} {A : Option Addr} {c : Nat} {xs : List Value} (h : w.ownsRow base e size (.slice A n c) n xs) {j : Nat} (hj : Blk A j) : base ≤ j ∧ ∃ cur, w.heap[j]? = some (.cells cur e (0, 0)) := by
 obtain ⟨a, rfl, e2⟩ := hj
 rcases h.2 with ⟨h1, _⟩ | ⟨g, cap, cur, hv, hb, hg, r⟩
 ·cases h1
 ·injection hv with hv; injection hv with hv; subst hv
  simp only at e2
  subst e2
  exact ⟨hb, cur, hg⟩
end
set_option maxHeartbeats 4000000
theorem own_emptyK {w : World} {g : Nat} {T : TypeId} {K : Nat} (h : w.heap[g]? = some (.cells #[] T (0, 0))) : w.ownsRow g T K (.slice (some ⟨g, 0, none⟩) 0 0) 0 [] :=
 ⟨by simp, .inr ⟨g, 0, #[], rfl, Nat.le_refl _, h, Nat.le_refl _, by simp [maxLen], by simp, by simp⟩⟩
theorem op_appQ {P : Program} {t e : TypeId} {z : Value} {K bytes : Nat} (he : ElemK P t e z K bytes) (hb0 : bytes ≤ 1000) {o : Oper} {a : Act} {w : World} {Q : Exit → Act → World → Prop} {Kq : Act → World → Prop} (s x : Operand)
  (ho : o.op = .call { callee := .builtin .append, args := #[s, x], argTypes := #[t, t] }) (base : Nat) (v : Value) (n : Nat) (xs : List Value) (hs : a.eval s = v) (hown : w.ownsRow base e K v n xs)
  (A : Option Addr) (m c : Nat) (news : List Value) (hx : a.eval x = .slice A m c) (hr : Rd w A news) (hm : news.length = m * K) (h1 : ∀ u ∈ news, u.oneCell' = true) (h63 : n + m ≤ 100000000) (hbase : base ≤ w.heap.size) (k : Nat) (zs : List Value) (hk : n + m = k) (hz : xs ++ news = zs)
  (h : ∀ A' c' w', w'.ownsRow base e K (.slice A' k c') k zs → w.grownBy w' v.ownBlock → ((Value.slice A' k c').ownBlock = v.ownBlock ∨ (Value.slice A' k c').ownBlock = some w.heap.size) → Kq (a.put o.dst (.slice A' k c')) w') : o.wp P a w Kq Q := by
 subst hk hz
 exact op_appO he hb0 s x ho base v n xs hs hown A m c news hx hr hm h1 h63 hbase h
theorem rd_rowC {w : World} {g : Nat} {cs : Array Value} {T : TypeId} (h : w.heap[g]? = some (.cells cs T (0, 0))) : Rd w (some ⟨g, 0, none⟩) cs.toList := .inr ⟨g, 0, rfl, drw_lt h, fun i v hv => by rw [cell_of_row w g (0 + i) _ _ _ h, Nat.zero_add]; simpa using hv⟩
theorem grown_beyond {X w w' : World} {A : Option Addr} {n c : Nat} (hb : Below X.heap.size X w) (hg : w.grownBy w' (Value.slice A n c).ownBlock) (hr : ∀ j, Blk A j → X.heap.size ≤ j) : Below X.heap.size X w' := hb.grown hg hb.size (fun q hq => hr q (blk_own.1 hq.symm))
set_option maxHeartbeats 8000000
theorem op_litK {P : Program} {o : Oper} {a : Act} {w : World} {K : Act → World → Prop} {Q : Exit → Act → World → Prop} (cs : Array Value) (T : TypeId) (n : Nat) (hrun : ∀ w : World, (execOp a.eval o).run P w = .ok (.value (.slice (some ⟨w.heap.size, 0, none⟩) n n)) (w.alloc (.cells cs T)))
  (h : ∀ g w', w.heap.size = g → w'.heap[g]? = some (.cells cs T (0, 0)) → Below w.heap.size w w' → w'.heap.size = g + 1 → K (a.put o.dst (.slice (some ⟨g, 0, none⟩) n n)) w') : o.wp P a w K Q :=
 op_value (hrun w) (h _ _ rfl (heap_alloc_new w _) ((below_self w).alloc (Nat.le_refl _) _) (by simp))
set_option maxHeartbeats 8000000
theorem rcBody_eq2 (r : Rc) (kn n : Nat) (hk : r.k = (kn : Int)) (hn : r.b.length = n) (M : Nat) (hM : M = 34 + n) :
  [80, 72, 82, 67] ++ leB r.g 4 ++ leB r.s 4 ++ leB r.m 4 ++ leB r.t 8 ++ [UInt8.ofNat kn, UInt8.ofNat n] ++ leB r.c 8 ++ r.b ++ List.replicate (220 - M) 0 = rcBody r := by
 subst hM
 unfold rcBody
 rw [hk, Int.toNat_natCast, hn, show 220 - (34 + n) = 186 - n by omega]
 simp only [List.append_assoc, List.cons_append, List.nil_append]
theorem refBody_any (r : Rc) (A : Option Addr) (n c : Nat) (w : World) (hok : r.ok) (hchk : r.chk = true) (hr : RdB w A n c r.b) :
  Calls Tryz.prog 94 #[.agg (rcV r A n c).toArray] w (RetB w (rcBody r)) := by
 have hn63 := hr.n63
 have hl := hr.2.1
 obtain ⟨hb_, hk1, hk3, hcc⟩ := rcChk_len hchk
 obtain ⟨kn, hkn⟩ : ∃ j : Nat, r.k = (j : Int) := ⟨r.k.toNat, by omega⟩
 obtain ⟨hgl, hsl, hml, htl, -, hcl, hD⟩ := hok
 have hn180 : n ≤ 180 := by omega
 have hfin := rcBody_eq2 r kn n hkn hl (34 + n) rfl
 have wk : IntKind.u8.wrap (kn : Int) = ((UInt8.ofNat kn).toNat : Int) := by rw [UInt8.toNat_ofNat', IntKind.wrap_u8]; omega
 have wn : IntKind.u8.wrap (n : Int) = ((UInt8.ofNat n).toNat : Int) := by rw [UInt8.toNat_ofNat', IntKind.wrap_u8]; omega
 have wg := w64n (k := r.g) (by omega)
 have ws := w64n (k := r.s) (by omega)
 have wm := w64n (k := r.m) (by omega)
 obtain ⟨V, hV⟩ : ∃ V, V = w.alloc (.cells (rcV r A n c).toArray 90) := ⟨_, rfl⟩
 have bV : Below w.heap.size w V := by rw [hV]; exact (below_self w).alloc (Nat.le_refl _) _
 have rV := hr.below bV
 have zV : V.heap.size = w.heap.size + 1 := by rw [hV]; simp
 have Q := Lib.hid (show RcAt V w.heap.size r A n c by rw [hV]; exact rw_at _ rfl)
 have k0 := (Q.out.up ((below_self V).alloc (Nat.le_refl _) (.cells #[.int .u8 80, .int .u8 72, .int .u8 82, .int .u8 67] 5))).c0
 obtain ⟨R1, hR1⟩ : ∃ z, z = (rcV r A n c).toArray := ⟨_, rfl⟩
 rw [← hR1] at hV ⊢
 rw [hV] at k0
 have HV := Lib.hid hV
 have HFIN := Lib.hid hfin
 have HK := Lib.hid hkn
 clear hV hR1 hfin hkn hchk
 go_enter Tryz.func94, Tryz.ntmps94
 go_wp2_with fail
 rw [← HV.out]
 refine named ?_
 intro W1 hW1
 have bW1 : Below V.heap.size V W1 := by rw [hW1]; repeat' (first | exact Below.refl _ _ | (refine Below.alloc ?_ ?_ _; rotate_left; (simp <;> omega)) | refine Below.drew ?_)
 have zW1 := bW1.size
 have HW1 := Lib.hid hW1
 clear hW1
 have o1 : OwnB W1 V.heap.size (some ⟨w.heap.size + 1, 0, none⟩) 4 4 [80, 72, 82, 67] := by rw [HW1.out, ← zV]; exact OwnB.lit _ _ _ _ rfl rfl (by simp [maxLen])
 have b1 : Below V.heap.size V W1 := by rw [HW1.out]; exact (below_self V).alloc (Nat.le_refl _) _
 refine (refLe_any r.g 4 W1 (by omega)).mono ?_
 rw [show clamp 4 = 4 from rfl]
 rintro e u1 ⟨E1, n1, d1, rfl, le1, hb1⟩
 obtain rfl : n1 = 4 := by rw [← le1.len, leB_length]
 have B1 := below_then b1 hb1
 go_wp2_with (at_builtin; refine wp_appB rfl _ _ rfl B1 (Nat.le_refl _) B1.size (some ⟨w.heap.size + 1, 0, none⟩) 4 4 ([80, 72, 82, 67]) rfl (o1.below hb1) E1 4 d1 (leB r.g 4) rfl le1.rd (by omega) 8 ([80, 72, 82, 67] ++ leB r.g 4) rfl rfl ?_; intro X1 y1 z1 ao1 ab1 ag1; have jc1 := (Q.out.up ab1).c1)
 refine (refLe_any r.s 4 z1 (by omega)).mono ?_
 rw [show clamp 4 = 4 from rfl]
 rintro e u2 ⟨E2, n2, d2, rfl, le2, hb2⟩
 obtain rfl : n2 = 4 := by rw [← le2.len, leB_length]
 have B2 := below_then ab1 hb2
 go_wp2_with (at_builtin; refine wp_appB rfl _ _ rfl B2 (Nat.le_refl _) B2.size X1 8 y1 ([80, 72, 82, 67] ++ leB r.g 4) rfl (ao1.below hb2) E2 4 d2 (leB r.s 4) rfl le2.rd (by omega) 12 ([80, 72, 82, 67] ++ leB r.g 4 ++ leB r.s 4) rfl rfl ?_; intro X2 y2 z2 ao2 ab2 ag2; have jc2 := (Q.out.up ab2).c2)
 refine (refLe_any r.m 4 z2 (by omega)).mono ?_
 rw [show clamp 4 = 4 from rfl]
 rintro e u3 ⟨E3, n3, d3, rfl, le3, hb3⟩
 obtain rfl : n3 = 4 := by rw [← le3.len, leB_length]
 have B3 := below_then ab2 hb3
 go_wp2_with (at_builtin; refine wp_appB rfl _ _ rfl B3 (Nat.le_refl _) B3.size X2 12 y2 ([80, 72, 82, 67] ++ leB r.g 4 ++ leB r.s 4) rfl (ao2.below hb3) E3 4 d3 (leB r.m 4) rfl le3.rd (by omega) 16 ([80, 72, 82, 67] ++ leB r.g 4 ++ leB r.s 4 ++ leB r.m 4) rfl rfl ?_; intro X3 y3 z3 ao3 ab3 ag3; have jc3 := (Q.out.up ab3).c3)
 refine (refLe_any r.t 8 z3 (by omega)).mono ?_
 rw [show clamp 8 = 8 from rfl]
 rintro e u4 ⟨E4, n4, d4, rfl, le4, hb4⟩
 obtain rfl : n4 = 8 := by rw [← le4.len, leB_length]
 have B4 := below_then ab3 hb4
 go_wp2_with (first
  | (at_builtin; refine wp_appB rfl _ _ rfl (ab4.alloc ab4.size _) (Nat.le_refl _) (by have := ab4.size; simp; omega) X4 24 y4 ([80, 72, 82, 67] ++ leB r.g 4 ++ leB r.s 4 ++ leB r.m 4 ++ leB r.t 8) rfl (ao4.alloc _) (some ⟨z4.heap.size, 0, none⟩) 2 2 [UInt8.ofNat kn, UInt8.ofNat n] rfl (rdK rfl _ _ _ (by rfl) rfl (by simp [maxLen])) (by omega) 26 ([80, 72, 82, 67] ++ leB r.g 4 ++ leB r.s 4 ++ leB r.m 4 ++ leB r.t 8 ++ [UInt8.ofNat kn, UInt8.ofNat n]) rfl rfl ?_; intro X9 y9 z9 ao9 ab9 ag9; have jc5 := (Q.out.up ab9).c5)
  | (at_builtin; refine wp_appB rfl _ _ rfl B4 (Nat.le_refl _) B4.size X3 16 y3 ([80, 72, 82, 67] ++ leB r.g 4 ++ leB r.s 4 ++ leB r.m 4) rfl (ao3.below hb4) E4 8 d4 (leB r.t 8) rfl le4.rd (by omega) 24 ([80, 72, 82, 67] ++ leB r.g 4 ++ leB r.s 4 ++ leB r.m 4 ++ leB r.t 8) rfl rfl ?_; intro X4 y4 z4 ao4 ab4 ag4; have jc4 := (Q.out.up ab4).c4; have jc6 := (Q.out.up ab4).c6; rw [HK.out] at jc4))
 refine (refLe_any r.c 8 z9 (by omega)).mono ?_
 rw [show clamp 8 = 8 from rfl]
 rintro e u5 ⟨E5, n5, d5, rfl, le5, hb5⟩
 obtain rfl : n5 = 8 := by rw [← le5.len, leB_length]
 have B5 := below_then ab9 hb5
 go_wp2_with (first
  | (at_builtin; refine wp_appZ rfl _ _ rfl ab11 (Nat.le_refl _) ab11.size X11 (34 + n) y11 ([80, 72, 82, 67] ++ leB r.g 4 ++ leB r.s 4 ++ leB r.m 4 ++ leB r.t 8 ++ [UInt8.ofNat kn, UInt8.ofNat n] ++ leB r.c 8 ++ r.b) rfl ao11 (220 - (34 + n)) .i64 _ rfl (by omega) (by omega) 220 (rcBody r) (by omega) HFIN.out ?_; intro X12 y12 z12 ao12 ab12 ag12)
  | (at_builtin; refine wp_appB rfl _ _ rfl ab10 (Nat.le_refl _) ab10.size X10 34 y10 ([80, 72, 82, 67] ++ leB r.g 4 ++ leB r.s 4 ++ leB r.m 4 ++ leB r.t 8 ++ [UInt8.ofNat kn, UInt8.ofNat n] ++ leB r.c 8) rfl ao10 A n c r.b rfl (rV.below ab10) (by omega) (34 + n) ([80, 72, 82, 67] ++ leB r.g 4 ++ leB r.s 4 ++ leB r.m 4 ++ leB r.t 8 ++ [UInt8.ofNat kn, UInt8.ofNat n] ++ leB r.c 8 ++ r.b) rfl rfl ?_; intro X11 y11 z11 ao11 ab11 ag11)
  | (at_builtin; refine wp_appB rfl _ _ rfl B5 (Nat.le_refl _) B5.size X9 26 y9 ([80, 72, 82, 67] ++ leB r.g 4 ++ leB r.s 4 ++ leB r.m 4 ++ leB r.t 8 ++ [UInt8.ofNat kn, UInt8.ofNat n]) rfl (ao9.below hb5) E5 8 d5 (leB r.c 8) rfl le5.rd (by omega) 34 ([80, 72, 82, 67] ++ leB r.g 4 ++ leB r.s 4 ++ leB r.m 4 ++ leB r.t 8 ++ [UInt8.ofNat kn, UInt8.ofNat n] ++ leB r.c 8) rfl rfl ?_; intro X10 y10 z10 ao10 ab10 ag10; have jc6 := (Q.out.up ab10).c6))
 go_ret
 exact ⟨_, _, _, rfl, OwnB.mono ao12 bV.size, below_then bV ab12⟩
end Go.Proofs.YtpahicfnhhhifaaGreat
