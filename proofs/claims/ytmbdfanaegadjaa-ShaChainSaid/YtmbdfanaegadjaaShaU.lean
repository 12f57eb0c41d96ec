/-
  Layer 3: the law ShaChain: the walk.
-/
import Derived.Test.YtmbdfanaegadjaaShaT
namespace Go.Proofs.Ytmbdfanaegadjaa
set_option maxRecDepth 20000
open Go.RowKit
set_option linter.unusedVariables false
set_option linter.unusedSimpArgs false
set_option maxHeartbeats 8000000

/-- Between two rounds of ShaChain's first loop. -/
def ChI (w : World) (gp gq : Nat) (C D : List UInt8) (ats bts : List (List UInt8)) (n : Nat) (vx vy vs vi : Value) (wr : World) : Prop :=
  ∃ k : Nat, k ≤ n ∧ vi = .int .i64 k ∧ vs = .bool (chSame C D ats bts k) ∧ ∃ vxs vys, ChS w gp gq (chP C ats k) (chP D bts k) vx vy k k vxs vys ((List.range k).map (chX C ats)) ((List.range k).map (chX D bts)) wr ∧ ∀ j, j < k → (chX C ats j).length ≤ 132 ∧ (chX D bts j).length ≤ 132
/-- The frame of ShaChain behind its two digests. -/
def chF (A : Option Addr) (n c : Nat) (A' : Option Addr) (m d : Nat) (C D : List UInt8) (g gp gq : Nat) (s : Bool) : Act := { tmps := #[.slice A n c, .slice A' m d, .agg (dgA C), .agg (dgA D), undef, undef, .pointer (some ⟨g, 0, none⟩), .pointer (some ⟨g + 1, 0, none⟩), .bool false, .slice none 0 0, .slice none 0 0, .pointer (some ⟨gp, 0, none⟩), .pointer (some ⟨gq, 0, none⟩), .bool s, undef, undef, .slice A n c, .int .i64 (n : Int), .bool false, .bool false, .slice A' m d, .int .i64 (m : Int), .slice A n c, .int .i64 (n : Int), .bool false, .bool false, undef, .agg (dgA C), .agg (dgA D), .agg (dgA C), .agg (dgA D), .bool s, undef, undef, undef, undef, undef, undef, undef, undef, undef, undef, undef, undef, undef, undef, undef, undef, undef, undef, undef, undef, undef, undef, undef, undef, undef, undef, undef, undef, undef, undef, undef, undef, undef, undef, undef, undef, undef, undef, undef, undef, undef, undef, undef, undef, undef, undef, undef, undef, undef, undef, undef, undef, undef, undef, undef, undef, undef, undef, undef, undef, undef, undef, undef, undef, undef, undef, undef, undef, undef, undef, undef, undef, undef, undef, undef, undef, undef, undef, undef, undef, undef, undef, undef, undef, undef, undef, undef, undef, undef, undef, undef, undef, undef, undef, undef, undef, undef, undef, undef, undef, undef, undef, undef, undef, undef, undef, undef, undef, undef, undef, undef, undef, undef, undef, undef, undef, undef, undef, undef], defers := [] }
def ChQ (A : Option Addr) (n c : Nat) (A' : Option Addr) (m d : Nat) (C D : List UInt8) (g : Nat) (W : World) (e : Exit) (a : Act) (w' : World) : Prop :=
  e = .normal ∧ ∃ gp gq, a = chF A n c A' m d C D g gp gq (decide (C = D)) ∧ w'.heap[gp]? = some (.cells (dgA C) 24 (0, 0)) ∧ w'.heap[gq]? = some (.cells (dgA D) 24 (0, 0)) ∧ W.heap.size ≤ gp ∧ W.heap.size ≤ gq ∧ gp ≠ gq ∧ Below W.heap.size W w'
theorem dig_eq (P Q : List UInt8) (hP : P.length = 32) (hQ : Q.length = 32) (W : World) : (Op.equalIn 10000 24 (.agg (dgA P)) (.agg (dgA Q))).run Try.prog W = .ok (decide (P = Q)) W := run_eqIn_digest 9996 W P Q hP hQ
theorem dig_true (P : List UInt8) (hP : P.length = 32) (W : World) : (Op.equalIn 10000 24 (.agg (dgA P)) (.agg (dgA P))).run Try.prog W = .ok true W := dig_self P hP W
theorem dig_false (P Q : List UInt8) (hP : P.length = 32) (hQ : Q.length = 32) (hne : P ≠ Q) (W : World) : (Op.equalIn 10000 24 (.agg (dgA P)) (.agg (dgA Q))).run Try.prog W = .ok false W := by
  have := dig_eq P Q hP hQ W
  rw [decide_eq_false hne] at this
  exact this
theorem own_base {w : World} {B B' : Nat} {A : Option Addr} {n c : Nat} {xs : List UInt8} (h : OwnB w B' A n c xs) (hb : B ≤ B') : OwnB w B A n c xs := by
  refine ⟨h.1, ?_⟩
  rcases h.2 with h0 | ⟨g, cap, cur, e, hB, rest⟩
  · exact .inl h0
  · exact .inr ⟨g, cap, cur, e, Nat.le_trans hb hB, rest⟩
set_option maxRecDepth 100000 in
theorem shaChain_main (A : Option Addr) (n c : Nat) (vs : List Value) (ats : List (List UInt8)) (A' : Option Addr) (m d : Nat) (us : List Value) (bts : List (List UInt8)) (C D : List UInt8) (w : World)
    (ha : RdSS w A n c vs ats) (hb : RdSS w A' m d us bts) (hC : C.length = 32) (hD : D.length = 32) (hn : n ≤ 8) (hm : n ≤ m) :
    Calls Try.prog 10 #[.slice A n c, .slice A' m d, .agg (dgA C), .agg (dgA D)] w (RetV w (.bool true)) := by
  have d1 : decide ((8 : Int) < (n : Int)) = false := decide_eq_false (by omega)
  have d2 : decide ((m : Int) < (n : Int)) = false := decide_eq_false (by omega)
  have d3 : decide (m < n) = false := decide_eq_false (by omega)
  have hszC : (dgA C).size = 32 := by rw [dgA_size, hC]
  have hszD : (dgA D).size = 32 := by rw [dgA_size, hD]
  obtain ⟨W, hW⟩ : ∃ W, W = (w.alloc (.cells (dgA C) 24)).alloc (.cells (dgA D) 24) := ⟨_, rfl⟩
  have bW : Below w.heap.size w W := by rw [hW]; exact ((below_self w).alloc (Nat.le_refl _) _).alloc (by simp) _
  have R0 := Lib.hid (show W.heap[w.heap.size]? = some (.cells (dgA C) 24 (0, 0)) by rw [hW]; exact row2a ..)
  have R1 := Lib.hid (show W.heap[w.heap.size + 1]? = some (.cells (dgA D) 24 (0, 0)) by rw [hW]; exact row2b ..)
  have zW : w.heap.size + 1 < W.heap.size := by rw [hW]; simp
  have HW := Lib.hid hW
  have HC := Lib.hid hC
  have HD := Lib.hid hD
  clear hW hC hD
  go_enter Try.func10, Try.ntmps10
  go_wp2_with fail
  rw [← HW.out]
  refine wp_mono (?_ : Code.wp _ _ (ChQ A n c A' m d C D w.heap.size W) _ _) ?_
  · have HE := Lib.hid (fun W' => dig_eq C D HC.out HD.out W')
    have zW0 : w.heap.size < W.heap.size := by omega
    refine wp_region_seg (S := fun w' => Below W.heap.size W w') 5 #[true, true, true, true, true, false, false, false, false, false] [(0, true), (1, true), (2, true), (3, true), (4, true)] (by kernel_rfl) (by kernel_rfl) (fun _ _ d _ _ h => by first | (cases d <;> exact h) | cases h.1) ((Below.refl W.heap.size W).drew) ?_
    have HB := (Below.refl W.heap.size W).drew
    refine seg_take (v := .agg (dgA C)) rfl (Or.inl ⟨by rfl, fun w' hw' => ?_⟩) ?_
    focus (exact ex_loadP rfl rfl (loadDg ((hw'.block _ zW0).trans R0.out) HC.out))
    try simp only [Act.put, List.setIfInBounds_toArray, List.set_cons_zero, List.set_cons_succ]
    refine seg_take (v := .agg (dgA D)) rfl (Or.inl ⟨by rfl, fun w' hw' => ?_⟩) ?_
    focus (exact ex_loadP rfl rfl (loadDg ((hw'.block _ zW).trans R1.out) HD.out))
    try simp only [Act.put, List.setIfInBounds_toArray, List.set_cons_zero, List.set_cons_succ]
    refine seg_take (v := .agg (dgA C)) rfl (Or.inl ⟨by rfl, fun w' hw' => ?_⟩) ?_
    focus (exact ex_loadP rfl rfl (loadDg ((hw'.block _ zW0).trans R0.out) HC.out))
    try simp only [Act.put, List.setIfInBounds_toArray, List.set_cons_zero, List.set_cons_succ]
    refine seg_take (v := .agg (dgA D)) rfl (Or.inl ⟨by rfl, fun w' hw' => ?_⟩) ?_
    focus (exact ex_loadP rfl rfl (loadDg ((hw'.block _ zW).trans R1.out) HD.out))
    try simp only [Act.put, List.setIfInBounds_toArray, List.set_cons_zero, List.set_cons_succ]
    refine seg_take (v := .bool (decide (C = D))) rfl (Or.inl ⟨by rfl, fun w' hw' => ?_⟩) ?_
    focus ((have jj := HE.out w'; go_simp))
    try simp only [Act.put, List.setIfInBounds_toArray, List.set_cons_zero, List.set_cons_succ]
    refine seg_done (fun _ => ?_)
    refine wpAnyH_two (i := 5) (j := 6) (f := 4) (by kernel_rfl) ?_ ?_
    · skip
      refine op_run rfl (fun K hK => ?_)
      rw [if_pos (by rfl)]
      refine op_new #[.int .u8 0, .int .u8 0, .int .u8 0, .int .u8 0, .int .u8 0, .int .u8 0, .int .u8 0, .int .u8 0, .int .u8 0, .int .u8 0, .int .u8 0, .int .u8 0, .int .u8 0, .int .u8 0, .int .u8 0, .int .u8 0, .int .u8 0, .int .u8 0, .int .u8 0, .int .u8 0, .int .u8 0, .int .u8 0, .int .u8 0, .int .u8 0, .int .u8 0, .int .u8 0, .int .u8 0, .int .u8 0, .int .u8 0, .int .u8 0, .int .u8 0, .int .u8 0] 24 (fun w => by go_simp) ?_
      intro gp wp ep rp bp sp
      have lp : W.heap.size ≤ gp := by rw [← ep]; exact HB.size
      have up : gp < wp.heap.size := by omega
      try have hne : gp ≠ gq := (by omega)
      try have rq := (bp.block _ uq).trans rq
      have HB := below_then HB bp
      refine hK.out _ _ (HB) ?_
      clear hK
      try simp only [Act.put, List.setIfInBounds_toArray, List.set_cons_zero, List.set_cons_succ]
      refine wpAnyH_seg (by kernel_rfl) (fun _ _ d _ _ h => by first | (cases d <;> exact h) | cases h.1) 0 #[true, true, true, true, true, true, true, true, true, true] [(6, false), (7, false), (8, false), (9, true)] _ _ _ (by kernel_rfl) (HB) ?_
      refine seg_run rfl (fun K hK => ?_)
      rw [if_pos (by rfl)]
      refine op_new #[.int .u8 0, .int .u8 0, .int .u8 0, .int .u8 0, .int .u8 0, .int .u8 0, .int .u8 0, .int .u8 0, .int .u8 0, .int .u8 0, .int .u8 0, .int .u8 0, .int .u8 0, .int .u8 0, .int .u8 0, .int .u8 0, .int .u8 0, .int .u8 0, .int .u8 0, .int .u8 0, .int .u8 0, .int .u8 0, .int .u8 0, .int .u8 0, .int .u8 0, .int .u8 0, .int .u8 0, .int .u8 0, .int .u8 0, .int .u8 0, .int .u8 0, .int .u8 0] 24 (fun w => by go_simp) ?_
      intro gq wq eq rq bq sq
      have lq : W.heap.size ≤ gq := by rw [← eq]; exact HB.size
      have uq : gq < wq.heap.size := by omega
      try have hne : gp ≠ gq := (by omega)
      try have rp := (bq.block _ up).trans rp
      have HB := below_then HB bq
      refine hK.out _ _ (HB) ?_
      clear hK
      try simp only [Act.put, List.setIfInBounds_toArray, List.set_cons_zero, List.set_cons_succ]
      refine seg_run rfl (fun K hK => ?_)
      rw [if_pos (by rfl)]
      refine wp_store_row 24 _ _ rfl gp (dgA C) rfl rfl 24 _ rp (infoD C HC.out) (by rw [dgA_size, HC.out]; rfl) (dgA_one C) ?_
      have rp2 := setRow_heap _ _ _ (dgA C) _ _ rp
      have rq2 := (setRow_other _ gp gq (dgA C) (Ne.symm hne)).trans rq
      have HB := below_setRow HB lp (dgA C)
      refine hK.out _ _ (HB) ?_
      clear hK
      try simp only [Act.put, List.setIfInBounds_toArray, List.set_cons_zero, List.set_cons_succ]
      refine seg_run rfl (fun K hK => ?_)
      rw [if_pos (by rfl)]
      refine wp_store_row 24 _ _ rfl gq (dgA D) rfl rfl 24 _ rq2 (infoD D HD.out) (by rw [dgA_size, HD.out]; rfl) (dgA_one D) ?_
      have rp3 := (setRow_other _ gq gp (dgA D) hne).trans rp2
      have rq3 := setRow_heap _ _ _ (dgA D) _ _ rq2
      have HB := below_setRow HB lq (dgA D)
      refine hK.out _ _ (HB) ?_
      clear hK
      try simp only [Act.put, List.setIfInBounds_toArray, List.set_cons_zero, List.set_cons_succ]
      iterate 1 (refine seg_take (v := ?_) rfl (Or.inl ⟨by rfl, ?_⟩) ?_; rotate_left; (focus (intro w' hw'; go_simp <;> with_reducible rfl)); try simp only [Act.put, List.setIfInBounds_toArray, List.set_cons_zero, List.set_cons_succ])
      refine seg_done (fun _ => ?_)
      refine wpAnyH_done (by kernel_rfl) ?_ _
      exact ⟨rfl, gp, gq, rfl, rp3, rq3, lp, lq, hne, HB⟩
    · skip
      refine op_run rfl (fun K hK => ?_)
      rw [if_pos (by rfl)]
      refine op_new #[.int .u8 0, .int .u8 0, .int .u8 0, .int .u8 0, .int .u8 0, .int .u8 0, .int .u8 0, .int .u8 0, .int .u8 0, .int .u8 0, .int .u8 0, .int .u8 0, .int .u8 0, .int .u8 0, .int .u8 0, .int .u8 0, .int .u8 0, .int .u8 0, .int .u8 0, .int .u8 0, .int .u8 0, .int .u8 0, .int .u8 0, .int .u8 0, .int .u8 0, .int .u8 0, .int .u8 0, .int .u8 0, .int .u8 0, .int .u8 0, .int .u8 0, .int .u8 0] 24 (fun w => by go_simp) ?_
      intro gq wq eq rq bq sq
      have lq : W.heap.size ≤ gq := by rw [← eq]; exact HB.size
      have uq : gq < wq.heap.size := by omega
      try have hne : gp ≠ gq := (by omega)
      try have rp := (bq.block _ up).trans rp
      have HB := below_then HB bq
      refine hK.out _ _ (HB) ?_
      clear hK
      try simp only [Act.put, List.setIfInBounds_toArray, List.set_cons_zero, List.set_cons_succ]
      refine wpAnyH_seg (by kernel_rfl) (fun _ _ d _ _ h => by first | (cases d <;> exact h) | cases h.1) 0 #[true, true, true, true, true, true, true, true, true, true] [(5, false), (7, false), (8, false), (9, true)] _ _ _ (by kernel_rfl) (HB) ?_
      refine seg_run rfl (fun K hK => ?_)
      rw [if_pos (by rfl)]
      refine op_new #[.int .u8 0, .int .u8 0, .int .u8 0, .int .u8 0, .int .u8 0, .int .u8 0, .int .u8 0, .int .u8 0, .int .u8 0, .int .u8 0, .int .u8 0, .int .u8 0, .int .u8 0, .int .u8 0, .int .u8 0, .int .u8 0, .int .u8 0, .int .u8 0, .int .u8 0, .int .u8 0, .int .u8 0, .int .u8 0, .int .u8 0, .int .u8 0, .int .u8 0, .int .u8 0, .int .u8 0, .int .u8 0, .int .u8 0, .int .u8 0, .int .u8 0, .int .u8 0] 24 (fun w => by go_simp) ?_
      intro gp wp ep rp bp sp
      have lp : W.heap.size ≤ gp := by rw [← ep]; exact HB.size
      have up : gp < wp.heap.size := by omega
      try have hne : gp ≠ gq := (by omega)
      try have rq := (bp.block _ uq).trans rq
      have HB := below_then HB bp
      refine hK.out _ _ (HB) ?_
      clear hK
      try simp only [Act.put, List.setIfInBounds_toArray, List.set_cons_zero, List.set_cons_succ]
      refine seg_run rfl (fun K hK => ?_)
      rw [if_pos (by rfl)]
      refine wp_store_row 24 _ _ rfl gp (dgA C) rfl rfl 24 _ rp (infoD C HC.out) (by rw [dgA_size, HC.out]; rfl) (dgA_one C) ?_
      have rp2 := setRow_heap _ _ _ (dgA C) _ _ rp
      have rq2 := (setRow_other _ gp gq (dgA C) (Ne.symm hne)).trans rq
      have HB := below_setRow HB lp (dgA C)
      refine hK.out _ _ (HB) ?_
      clear hK
      try simp only [Act.put, List.setIfInBounds_toArray, List.set_cons_zero, List.set_cons_succ]
      refine seg_run rfl (fun K hK => ?_)
      rw [if_pos (by rfl)]
      refine wp_store_row 24 _ _ rfl gq (dgA D) rfl rfl 24 _ rq2 (infoD D HD.out) (by rw [dgA_size, HD.out]; rfl) (dgA_one D) ?_
      have rp3 := (setRow_other _ gq gp (dgA D) hne).trans rp2
      have rq3 := setRow_heap _ _ _ (dgA D) _ _ rq2
      have HB := below_setRow HB lq (dgA D)
      refine hK.out _ _ (HB) ?_
      clear hK
      try simp only [Act.put, List.setIfInBounds_toArray, List.set_cons_zero, List.set_cons_succ]
      iterate 1 (refine seg_take (v := ?_) rfl (Or.inl ⟨by rfl, ?_⟩) ?_; rotate_left; (focus (intro w' hw'; go_simp <;> with_reducible rfl)); try simp only [Act.put, List.setIfInBounds_toArray, List.set_cons_zero, List.set_cons_succ])
      refine seg_done (fun _ => ?_)
      refine wpAnyH_done (by kernel_rfl) ?_ _
      exact ⟨rfl, gp, gq, rfl, rp3, rq3, lp, lq, hne, HB⟩
  rintro _ _ w1 ⟨rfl, gp, gq, rfl, rp, rq, lp, lq, hne, bw1⟩
  dsimp only [chF]
  have BW1 : Below w.heap.size w w1 := below_then bW bw1
  have hgp : w.heap.size ≤ gp := by omega
  have hgq : w.heap.size ≤ gq := by omega
  have hS0 : ChS w gp gq C D (.slice none 0 0) (.slice none 0 0) 0 0 [] [] [] [] w1 := ⟨⟨rfl, .inl ⟨rfl, rfl⟩⟩, ⟨rfl, .inl ⟨rfl, rfl⟩⟩, (fun a h => by cases h), trivial, trivial, rp, rq, BW1⟩
  clear rp rq lp lq bw1 BW1 R0 R1 zW bW
  go_wp2_with fail
  go_loopw [9, 10, 13, 14] (ChI w gp gq C D ats bts n) (fun _ _ _ i _ => n - (intOf i).toNat)
  case atStart => exact ⟨0, Nat.zero_le _, rfl, rfl, [], [], hS0, fun j hj => absurd hj (Nat.not_lt_zero _)⟩
  case round =>
    clear hS0
    obtain ⟨k, hk, rfl, rfl, vxs, vys, hS, hLn⟩ := hrel
    by_cases hlt : k < n
    · obtain ⟨ba, oa, Ak, nk, ck, rfl, hba, ca, ra⟩ := ha.at_ k hlt
      obtain ⟨bb, ob, Bk, mk, dk, rfl, hbb, cb, rb⟩ := hb.at_ k (by omega)
      have hBr := hS.2.2.2.2.2.2.2
      have caw := (hBr.cell (p := ⟨ba, oa + k, none⟩) hba).trans ca
      have cbw := (hBr.cell (p := ⟨bb, ob + k, none⟩) hbb).trans cb
      have hkn : (k : Int) < (n : Int) := by omega
      have hkm : (k : Int) < (m : Int) := by omega
      by_cases hna : nk ≤ 100
      · by_cases hnb : mk ≤ 100
        · have e1 : decide ((100 : Int) < (nk : Int)) = false := decide_eq_false (by omega)
          have e2 : decide ((100 : Int) < (mk : Int)) = false := decide_eq_false (by omega)
          have hPl := chP_len HC.out ats k
          have hQl := chP_len HD.out bts k
          have hX : (List.range (k + 1)).map (chX C ats) = (List.range k).map (chX C ats) ++ [chP C ats k ++ ats.getD k []] := by rw [List.range_succ, List.map_append]; rfl
          have hY : (List.range (k + 1)).map (chX D bts) = (List.range k).map (chX D bts) ++ [chP D bts k ++ bts.getD k []] := by rw [List.range_succ, List.map_append]; rfl
          have hP' : chP C ats (k + 1) = shLink (chP C ats k) (ats.getD k []) := rfl
          have hQ' : chP D bts (k + 1) = shLink (chP D bts k) (bts.getD k []) := rfl
          have hs' : chSame C D ats bts (k + 1) = (chSame C D ats bts k && decide (ats.getD k [] = bts.getD k [])) := rfl
          have hLN : ∀ j, j < k + 1 → (chX C ats j).length ≤ 132 ∧ (chX D bts j).length ≤ 132 := fun j hj => by
            by_cases hjk : j < k
            · exact hLn j hjk
            · obtain rfl : j = k := by omega
              refine ⟨?_, ?_⟩
              · show (chP C ats j ++ ats.getD j []).length ≤ 132
                rw [List.length_append, hPl, ra.2.1]; omega
              · show (chP D bts j ++ bts.getD j []).length ≤ 132
                rw [List.length_append, hQl, rb.2.1]; omega
          have HLN := Lib.hid hLN
          clear hLN hLn
          generalize chP C ats k = P at *
          generalize chP D bts k = Q at *
          generalize ats.getD k [] = ak at *
          generalize bts.getD k [] = bk at *
          generalize chSame C D ats bts k = s at *
          generalize (List.range k).map (chX C ats) = X at *
          generalize (List.range k).map (chX D bts) = Y at *
          obtain ⟨P', hPP⟩ : ∃ P', shLink P ak = P' := ⟨_, rfl⟩
          obtain ⟨Q', hQQ⟩ : ∃ P', shLink Q bk = P' := ⟨_, rfl⟩
          have hPl' : P'.length = 32 := by rw [← hPP]; exact shLink_len _ _
          have hQl' : Q'.length = 32 := by rw [← hQQ]; exact shLink_len _ _
          rw [hPP] at hP'
          rw [hQQ] at hQ'
          have HPP := Lib.hid hPP
          have HQQ := Lib.hid hQQ
          have HP' := Lib.hid hP'
          have HQ' := Lib.hid hQ'
          have HX := Lib.hid hX
          have HY := Lib.hid hY
          have HS' := Lib.hid hs'
          have HPl := Lib.hid hPl
          have HQl := Lib.hid hQl
          have HPl' := Lib.hid hPl'
          have HQl' := Lib.hid hQl'
          clear hPP hQQ hP' hQ' hX hY hs' hPl hQl hPl' hQl'
          have wk := wi64n (k := k) (by omega)
          go_wp2_with fail
          have HSd := ChS.next hS (Below.refl wr.heap.size wr).drew
          have BRd := HSd.2.2.2.2.2.2.2
          refine wp_region_seg (S := fun w' => Below w.heap.size w w') 0 #[true, true, true, true, true, true, true, true, true, true, true, true] [(0, true), (2, true), (4, true), (5, true), (6, true), (7, true), (1, false), (3, false), (8, false), (9, false), (10, false), (11, true)] (by kernel_rfl) (by kernel_rfl) (fun _ _ d _ _ h => by first | (cases d <;> exact h) | cases h.1) (BRd) ?_
          have HB := BRd
          iterate 6 (refine seg_take (v := ?_) rfl (Or.inl ⟨by rfl, ?_⟩) ?_; rotate_left; (focus (intro w' hw'; have ja := (hw'.cell (p := ⟨ba, oa + k, none⟩) hba).trans ca; go_simp <;> with_reducible rfl)); try simp only [Act.put, List.setIfInBounds_toArray, List.set_cons_zero, List.set_cons_succ])
          refine seg_run rfl (fun K hK => ?_)
          rw [if_pos (by rfl)]
          refine op_lit #[] 5 0 rfl (fun w => by go_simp) ?_
          intro gU wU eU hUrow HUb hUsz
          have HSU := HSd.next HUb
          have HB := HSU.2.2.2.2.2.2.2
          refine hK.out _ _ (HB) ?_
          clear hK
          try simp only [Act.put, List.setIfInBounds_toArray, List.set_cons_zero, List.set_cons_succ]
          refine seg_run rfl (fun K hK => ?_)
          rw [if_pos (by rfl)]
          refine op_appB _ _ rfl HUb (base := wr.drew.heap.size) (Nat.le_refl _) HUb.size _ 0 0 [] rfl (own_at0 hUrow (by omega)) (some ⟨gp, 0, none⟩) 32 32 P rfl (rdAt HSU.2.2.2.2.2.1 P 32 (by simp [dgA]) HPl.out (by simp [maxLen])) (by omega) 32 P (by omega) (by simp) ?_
          intro A1 c1 w2 ho1 hb1 hg1
          have HS1 := HSd.next hb1
          have HB := HS1.2.2.2.2.2.2.2
          refine hK.out _ _ (HB) ?_
          clear hK
          try simp only [Act.put, List.setIfInBounds_toArray, List.set_cons_zero, List.set_cons_succ]
          refine seg_run rfl (fun K hK => ?_)
          rw [if_pos (by rfl)]
          refine op_appB _ _ rfl hb1 (base := wr.drew.heap.size) (Nat.le_refl _) hb1.size A1 32 c1 P rfl ho1 Ak nk ck ak rfl (ra.below HB) (by omega) (32 + nk) (P ++ ak) rfl rfl ?_
          intro A2 c2 w3 ho2 hb2 hg2
          have HS2 := HSd.next hb2
          have HB := HS2.2.2.2.2.2.2.2
          refine hK.out _ _ (HB) ?_
          clear hK
          try simp only [Act.put, List.setIfInBounds_toArray, List.set_cons_zero, List.set_cons_succ]
          refine seg_run rfl (fun K hK => ?_)
          rw [if_pos (by rfl)]
          refine op_lit #[.slice A2 (32 + nk) c2] 30 1 rfl (fun w => by go_simp) ?_
          intro g3 w4 e3 h3row H3b h3sz
          have HS3 := HS2.next H3b
          have HB := HS3.2.2.2.2.2.2.2
          refine hK.out _ _ (HB) ?_
          clear hK
          try simp only [Act.put, List.setIfInBounds_toArray, List.set_cons_zero, List.set_cons_succ]
          refine seg_run rfl (fun K hK => ?_)
          rw [if_pos (by rfl)]
          refine op_appS _ _ rfl w.heap.size _ k vxs rfl HS3.1 g3 _ rfl h3row rfl (by omega) HB.size ?_
          intro vx' w5 h51 h5g h5f
          have HS5 := HS3.addx (own_base (ho2.below H3b) (by have := hBr.size; simpa using this)) h51 h5g h5f
          have HB := HS5.2.2.2.2.2.2.2
          refine hK.out _ _ (HB) ?_
          clear hK
          try simp only [Act.put, List.setIfInBounds_toArray, List.set_cons_zero, List.set_cons_succ]
          iterate 1 (refine seg_take (v := ?_) rfl (Or.inl ⟨by rfl, ?_⟩) ?_; rotate_left; (focus (intro w' hw'; have ja := (hw'.cell (p := ⟨ba, oa + k, none⟩) hba).trans ca; go_simp <;> with_reducible rfl)); try simp only [Act.put, List.setIfInBounds_toArray, List.set_cons_zero, List.set_cons_succ])
          refine seg_done (fun _ => ?_)
          refine wpAnyH_done (by kernel_rfl) ?_ _
          go_wp2_with fail
          have HYd := (HS5.next (Below.refl w5.heap.size w5).drew).swap
          have BYd := HYd.2.2.2.2.2.2.2
          have z5 := HB.size
          clear HSd BRd HSU HS1 HS2 HS3 hS hBr caw cbw
          refine wp_region_seg (S := fun w' => Below w.heap.size w w') 0 #[true, true, true, true, true, true, true, true, true, true, true, true] [(0, true), (2, true), (4, true), (5, true), (6, true), (7, true), (1, false), (3, false), (8, false), (9, false), (10, false), (11, true)] (by kernel_rfl) (by kernel_rfl) (fun _ _ d _ _ h => by first | (cases d <;> exact h) | cases h.1) (BYd) ?_
          have HB := BYd
          iterate 6 (refine seg_take (v := ?_) rfl (Or.inl ⟨by rfl, ?_⟩) ?_; rotate_left; (focus (intro w' hw'; have ja := (hw'.cell (p := ⟨bb, ob + k, none⟩) hbb).trans cb; go_simp <;> with_reducible rfl)); try simp only [Act.put, List.setIfInBounds_toArray, List.set_cons_zero, List.set_cons_succ])
          refine seg_run rfl (fun K hK => ?_)
          rw [if_pos (by rfl)]
          refine op_lit #[] 5 0 rfl (fun w => by go_simp) ?_
          intro gU wU eU hUrow HUb hUsz
          have HSU := HYd.next HUb
          have HB := HSU.2.2.2.2.2.2.2
          refine hK.out _ _ (HB) ?_
          clear hK
          try simp only [Act.put, List.setIfInBounds_toArray, List.set_cons_zero, List.set_cons_succ]
          refine seg_run rfl (fun K hK => ?_)
          rw [if_pos (by rfl)]
          refine op_appB _ _ rfl HUb (base := w5.drew.heap.size) (Nat.le_refl _) HUb.size _ 0 0 [] rfl (own_at0 hUrow (by omega)) (some ⟨gq, 0, none⟩) 32 32 Q rfl (rdAt HSU.2.2.2.2.2.1 Q 32 (by simp [dgA]) HQl.out (by simp [maxLen])) (by omega) 32 Q (by omega) (by simp) ?_
          intro B1 d1 y2 po1 pb1 pg1
          have HS1 := HYd.next pb1
          have HB := HS1.2.2.2.2.2.2.2
          refine hK.out _ _ (HB) ?_
          clear hK
          try simp only [Act.put, List.setIfInBounds_toArray, List.set_cons_zero, List.set_cons_succ]
          refine seg_run rfl (fun K hK => ?_)
          rw [if_pos (by rfl)]
          refine op_appB _ _ rfl pb1 (base := w5.drew.heap.size) (Nat.le_refl _) pb1.size B1 32 d1 Q rfl po1 Bk mk dk bk rfl (rb.below HB) (by omega) (32 + mk) (Q ++ bk) rfl rfl ?_
          intro B2 d2 y3 po2 pb2 pg2
          have HS2 := HYd.next pb2
          have HB := HS2.2.2.2.2.2.2.2
          refine hK.out _ _ (HB) ?_
          clear hK
          try simp only [Act.put, List.setIfInBounds_toArray, List.set_cons_zero, List.set_cons_succ]
          refine seg_run rfl (fun K hK => ?_)
          rw [if_pos (by rfl)]
          refine op_lit #[.slice B2 (32 + mk) d2] 30 1 rfl (fun w => by go_simp) ?_
          intro g6 y4 e6 h6row H6b h6sz
          have HS3 := HS2.next H6b
          have HB := HS3.2.2.2.2.2.2.2
          refine hK.out _ _ (HB) ?_
          clear hK
          try simp only [Act.put, List.setIfInBounds_toArray, List.set_cons_zero, List.set_cons_succ]
          refine seg_run rfl (fun K hK => ?_)
          rw [if_pos (by rfl)]
          refine op_appS _ _ rfl w.heap.size _ k vys rfl HS3.1 g6 _ rfl h6row rfl (by omega) HB.size ?_
          intro vy' y5 h51 h5g h5f
          have HSy := HS3.addx (own_base (po2.below H6b) (by simpa using z5)) h51 h5g h5f
          have HB := HSy.2.2.2.2.2.2.2
          refine hK.out _ _ (HB) ?_
          clear hK
          try simp only [Act.put, List.setIfInBounds_toArray, List.set_cons_zero, List.set_cons_succ]
          iterate 1 (refine seg_take (v := ?_) rfl (Or.inl ⟨by rfl, ?_⟩) ?_; rotate_left; (focus (intro w' hw'; have ja := (hw'.cell (p := ⟨bb, ob + k, none⟩) hbb).trans cb; go_simp <;> with_reducible rfl)); try simp only [Act.put, List.setIfInBounds_toArray, List.set_cons_zero, List.set_cons_succ])
          refine seg_done (fun _ => ?_)
          refine wpAnyH_done (by kernel_rfl) ?_ _
          go_wp2_with fail
          have HZd := (HSy.swap).next (Below.refl y5.heap.size y5).drew
          have BZd := HZd.2.2.2.2.2.2.2
          generalize HVX : vxs ++ [Value.slice A2 (32 + nk) c2] = vxs2 at *
          generalize HVY : vys ++ [Value.slice B2 (32 + mk) d2] = vys2 at *
          clear HYd BYd HSU HS1 HS2 HS3 HSy HS5
          refine wp_region_seg (S := fun w' => Below w.heap.size w w') 6 #[false, true, true, true, true, false, false, true, true, true, true, false, false, false] [(1, true), (2, true), (3, true), (4, true), (7, true), (8, true), (9, true), (10, true)] (by kernel_rfl) (by kernel_rfl) (fun _ _ d _ _ h => by first | (cases d <;> exact h) | cases h.1) (BZd) ?_
          have HB := BZd
          iterate 8 (refine seg_take (v := ?_) rfl (Or.inl ⟨by rfl, ?_⟩) ?_; rotate_left; (focus (intro w' hw'; have ja := (hw'.cell (p := ⟨ba, oa + k, none⟩) hba).trans ca; have jb := (hw'.cell (p := ⟨bb, ob + k, none⟩) hbb).trans cb; go_simp <;> with_reducible rfl)); try simp only [Act.put, List.setIfInBounds_toArray, List.set_cons_zero, List.set_cons_succ])
          refine seg_done (fun _ => ?_)
          refine wpAnyH_two (i := 0) (j := 6) (f := 5) (by kernel_rfl) ?_ ?_
          · skip
            refine op_run rfl (fun K hK => ?_)
            rw [if_pos (by rfl)]
            refine wp_load_row 24 _ rfl gp rfl 24 (dgA P) (0, 0) _ HZd.2.2.2.2.2.1 Try.underlying24 rfl (infoD P HPl.out) ?_
            refine hK.out _ _ (HB) ?_
            clear hK
            try simp only [Act.put, List.setIfInBounds_toArray, List.set_cons_zero, List.set_cons_succ]
            refine wpAnyH_seg (by kernel_rfl) (fun _ _ d _ _ h => by first | (cases d <;> exact h) | cases h.1) 5 #[true, true, true, true, true, false, false, true, true, true, true, false, false, false] [] _ _ _ (by kernel_rfl) (HB) ?_
            refine seg_done (fun _ => ?_)
            refine wpAnyH_two (i := 5) (j := 6) (f := 4) (by kernel_rfl) ?_ ?_
            · skip
              refine op_run rfl (fun K hK => ?_)
              go_simp
              refine (shaLink_any P HPl.out Ak nk ck ak _ (ra.below HB) (by omega)).mono ?_
              rintro e_ y6 ⟨rfl, hb6⟩
              rw [HPP.out]
              have HZd := HZd.next hb6
              have HB := HZd.2.2.2.2.2.2.2
              refine hK.out _ _ (HB) ?_
              clear hK
              try simp only [Act.put, List.setIfInBounds_toArray, List.set_cons_zero, List.set_cons_succ]
              refine wpAnyH_seg (by kernel_rfl) (fun _ _ d _ _ h => by first | (cases d <;> exact h) | cases h.1) 0 #[true, true, true, true, true, true, true, true, true, true, true, true, true, true] [(6, false), (11, false), (12, false), (13, false)] _ _ _ (by kernel_rfl) (HB) ?_
              refine seg_run rfl (fun K hK => ?_)
              rw [if_pos (by rfl)]
              refine wp_load_row 24 _ rfl gq rfl 24 (dgA Q) (0, 0) _ HZd.2.2.2.2.2.2.1 Try.underlying24 rfl (infoD Q HQl.out) ?_
              refine hK.out _ _ (HB) ?_
              clear hK
              try simp only [Act.put, List.setIfInBounds_toArray, List.set_cons_zero, List.set_cons_succ]
              refine seg_run rfl (fun K hK => ?_)
              go_simp
              refine (shaLink_any Q HQl.out Bk mk dk bk _ (rb.below HB) (by omega)).mono ?_
              rintro e_ y7 ⟨rfl, hb7⟩
              rw [HQQ.out]
              have HZd := HZd.next hb7
              have HB := HZd.2.2.2.2.2.2.2
              refine hK.out _ _ (HB) ?_
              clear hK
              try simp only [Act.put, List.setIfInBounds_toArray, List.set_cons_zero, List.set_cons_succ]
              refine seg_run rfl (fun K hK => ?_)
              rw [if_pos (by rfl)]
              refine wp_store_row 24 _ _ rfl gp (dgA P') rfl rfl 24 (dgA P) HZd.2.2.2.2.2.1 (infoD P' HPl'.out) (by rw [dgA_size, dgA_size, HPl'.out, HPl.out]) (dgA_one P') ?_
              have HZd := HZd.storep (P' := P') hgp hne
              have HB := HZd.2.2.2.2.2.2.2
              refine hK.out _ _ (HB) ?_
              clear hK
              try simp only [Act.put, List.setIfInBounds_toArray, List.set_cons_zero, List.set_cons_succ]
              refine seg_run rfl (fun K hK => ?_)
              rw [if_pos (by rfl)]
              refine wp_store_row 24 _ _ rfl gq (dgA Q') rfl rfl 24 (dgA Q) HZd.2.2.2.2.2.2.1 (infoD Q' HQl'.out) (by rw [dgA_size, dgA_size, HQl'.out, HQl.out]) (dgA_one Q') ?_
              have HZd := (HZd.swap.storep (P' := Q') hgq (Ne.symm hne)).swap
              have HB := HZd.2.2.2.2.2.2.2
              refine hK.out _ _ (HB) ?_
              clear hK
              try simp only [Act.put, List.setIfInBounds_toArray, List.set_cons_zero, List.set_cons_succ]
              refine seg_done (fun _ => ?_)
              refine wpAnyH_done (by kernel_rfl) ?_ _
              go_wp2_with fail
              have HWd := HZd.next (Below.refl _ _).drew
              have BWd := HWd.2.2.2.2.2.2.2
              cases s with
              | false =>
                refine wp_region_seg (S := fun w' => Below w.heap.size w w') 0 #[true, true, true, true, true, true, true, true, true, true, true, true, true] [(0, true), (1, true), (2, true), (3, true), (4, true), (5, true), (6, true), (7, true), (8, true), (9, true), (10, false), (11, true), (12, true)] (by kernel_rfl) (by kernel_rfl) (fun _ _ d _ _ h => by first | (cases d <;> exact h) | cases h.1) (BWd) ?_
                have HB := BWd
                iterate 2 (refine seg_take (v := ?_) rfl (Or.inl ⟨by rfl, ?_⟩) ?_; rotate_left; (focus (intro w' hw'; have ja := (hw'.cell (p := ⟨ba, oa + k, none⟩) hba).trans ca; have jb := (hw'.cell (p := ⟨bb, ob + k, none⟩) hbb).trans cb; go_simp <;> with_reducible rfl)); try simp only [Act.put, List.setIfInBounds_toArray, List.set_cons_zero, List.set_cons_succ])
                iterate 8 ((first | refine seg_take (v := undef) rfl (Or.inr ⟨by rfl, rfl⟩) ?_ | (refine seg_take (v := ?_) rfl (Or.inl ⟨by rfl, ?_⟩) ?_; rotate_left; (focus (intro w' hw'; have ja := (hw'.cell (p := ⟨ba, oa + k, none⟩) hba).trans ca; have jb := (hw'.cell (p := ⟨bb, ob + k, none⟩) hbb).trans cb; go_simp <;> with_reducible rfl)))); try simp only [Act.put, List.setIfInBounds_toArray, List.set_cons_zero, List.set_cons_succ])
                refine seg_run rfl (fun K hK => ?_)
                go_simp
                refine hK.out _ _ (HB) ?_
                clear hK
                try simp only [Act.put, List.setIfInBounds_toArray, List.set_cons_zero, List.set_cons_succ]
                iterate 2 (refine seg_take (v := ?_) rfl (Or.inl ⟨by rfl, ?_⟩) ?_; rotate_left; (focus (intro w' hw'; have ja := (hw'.cell (p := ⟨ba, oa + k, none⟩) hba).trans ca; have jb := (hw'.cell (p := ⟨bb, ob + k, none⟩) hbb).trans cb; go_simp <;> with_reducible rfl)); try simp only [Act.put, List.setIfInBounds_toArray, List.set_cons_zero, List.set_cons_succ])
                refine seg_done (fun _ => ?_)
                refine wpAnyH_done (by kernel_rfl) ?_ _
                go_wp2_with fail
                go_roundw
                case rel => exact ⟨k + 1, by omega, by go_num, by rw [HS'.out]; rfl, vxs2, vys2, by rw [HP'.out, HQ'.out, HX.out, HY.out]; exact HWd, HLN.out⟩
                case measure => simp [intOf]; omega
              | true =>
                refine wp_region_seg (S := fun w' => Below w.heap.size w w') 0 #[true, true, true, true, true, true, true, true, true, true, true, true, true] [(0, true), (1, true), (2, true), (3, true), (4, true), (5, true), (6, true), (7, true), (8, true), (9, true), (10, false), (11, true), (12, true)] (by kernel_rfl) (by kernel_rfl) (fun _ _ d _ _ h => by first | (cases d <;> exact h) | cases h.1) (BWd) ?_
                have HB := BWd
                iterate 2 (refine seg_take (v := ?_) rfl (Or.inl ⟨by rfl, ?_⟩) ?_; rotate_left; (focus (intro w' hw'; have ja := (hw'.cell (p := ⟨ba, oa + k, none⟩) hba).trans ca; have jb := (hw'.cell (p := ⟨bb, ob + k, none⟩) hbb).trans cb; go_simp <;> with_reducible rfl)); try simp only [Act.put, List.setIfInBounds_toArray, List.set_cons_zero, List.set_cons_succ])
                iterate 8 ((first | refine seg_take (v := undef) rfl (Or.inr ⟨by rfl, rfl⟩) ?_ | (refine seg_take (v := ?_) rfl (Or.inl ⟨by rfl, ?_⟩) ?_; rotate_left; (focus (intro w' hw'; have ja := (hw'.cell (p := ⟨ba, oa + k, none⟩) hba).trans ca; have jb := (hw'.cell (p := ⟨bb, ob + k, none⟩) hbb).trans cb; go_simp <;> with_reducible rfl)))); try simp only [Act.put, List.setIfInBounds_toArray, List.set_cons_zero, List.set_cons_succ])
                refine seg_run rfl (fun K hK => ?_)
                go_simp
                refine (bytes_any _ _ _ _ _ _ _ _ _ (ra.below HB) (rb.below HB)).mono ?_
                rintro e_ y9 ⟨rfl, rfl⟩
                refine hK.out _ _ (HB) ?_
                clear hK
                try simp only [Act.put, List.setIfInBounds_toArray, List.set_cons_zero, List.set_cons_succ]
                iterate 2 (refine seg_take (v := ?_) rfl (Or.inl ⟨by rfl, ?_⟩) ?_; rotate_left; (focus (intro w' hw'; have ja := (hw'.cell (p := ⟨ba, oa + k, none⟩) hba).trans ca; have jb := (hw'.cell (p := ⟨bb, ob + k, none⟩) hbb).trans cb; go_simp <;> with_reducible rfl)); try simp only [Act.put, List.setIfInBounds_toArray, List.set_cons_zero, List.set_cons_succ])
                refine seg_done (fun _ => ?_)
                refine wpAnyH_done (by kernel_rfl) ?_ _
                go_wp2_with fail
                go_roundw
                case rel => exact ⟨k + 1, by omega, by go_num, by rw [HS'.out]; rfl, vxs2, vys2, by rw [HP'.out, HQ'.out, HX.out, HY.out]; exact HWd, HLN.out⟩
                case measure => simp [intOf]; omega
            · skip
              refine op_run rfl (fun K hK => ?_)
              rw [if_pos (by rfl)]
              refine wp_load_row 24 _ rfl gq rfl 24 (dgA Q) (0, 0) _ HZd.2.2.2.2.2.2.1 Try.underlying24 rfl (infoD Q HQl.out) ?_
              refine hK.out _ _ (HB) ?_
              clear hK
              try simp only [Act.put, List.setIfInBounds_toArray, List.set_cons_zero, List.set_cons_succ]
              refine wpAnyH_seg (by kernel_rfl) (fun _ _ d _ _ h => by first | (cases d <;> exact h) | cases h.1) 0 #[true, true, true, true, true, true, true, true, true, true, true, true, true, true] [(5, false), (11, false), (12, false), (13, false)] _ _ _ (by kernel_rfl) (HB) ?_
              refine seg_run rfl (fun K hK => ?_)
              go_simp
              refine (shaLink_any P HPl.out Ak nk ck ak _ (ra.below HB) (by omega)).mono ?_
              rintro e_ y6 ⟨rfl, hb6⟩
              rw [HPP.out]
              have HZd := HZd.next hb6
              have HB := HZd.2.2.2.2.2.2.2
              refine hK.out _ _ (HB) ?_
              clear hK
              try simp only [Act.put, List.setIfInBounds_toArray, List.set_cons_zero, List.set_cons_succ]
              refine seg_run rfl (fun K hK => ?_)
              go_simp
              refine (shaLink_any Q HQl.out Bk mk dk bk _ (rb.below HB) (by omega)).mono ?_
              rintro e_ y7 ⟨rfl, hb7⟩
              rw [HQQ.out]
              have HZd := HZd.next hb7
              have HB := HZd.2.2.2.2.2.2.2
              refine hK.out _ _ (HB) ?_
              clear hK
              try simp only [Act.put, List.setIfInBounds_toArray, List.set_cons_zero, List.set_cons_succ]
              refine seg_run rfl (fun K hK => ?_)
              rw [if_pos (by rfl)]
              refine wp_store_row 24 _ _ rfl gp (dgA P') rfl rfl 24 (dgA P) HZd.2.2.2.2.2.1 (infoD P' HPl'.out) (by rw [dgA_size, dgA_size, HPl'.out, HPl.out]) (dgA_one P') ?_
              have HZd := HZd.storep (P' := P') hgp hne
              have HB := HZd.2.2.2.2.2.2.2
              refine hK.out _ _ (HB) ?_
              clear hK
              try simp only [Act.put, List.setIfInBounds_toArray, List.set_cons_zero, List.set_cons_succ]
              refine seg_run rfl (fun K hK => ?_)
              rw [if_pos (by rfl)]
              refine wp_store_row 24 _ _ rfl gq (dgA Q') rfl rfl 24 (dgA Q) HZd.2.2.2.2.2.2.1 (infoD Q' HQl'.out) (by rw [dgA_size, dgA_size, HQl'.out, HQl.out]) (dgA_one Q') ?_
              have HZd := (HZd.swap.storep (P' := Q') hgq (Ne.symm hne)).swap
              have HB := HZd.2.2.2.2.2.2.2
              refine hK.out _ _ (HB) ?_
              clear hK
              try simp only [Act.put, List.setIfInBounds_toArray, List.set_cons_zero, List.set_cons_succ]
              refine seg_done (fun _ => ?_)
              refine wpAnyH_done (by kernel_rfl) ?_ _
              go_wp2_with fail
              have HWd := HZd.next (Below.refl _ _).drew
              have BWd := HWd.2.2.2.2.2.2.2
              cases s with
              | false =>
                refine wp_region_seg (S := fun w' => Below w.heap.size w w') 0 #[true, true, true, true, true, true, true, true, true, true, true, true, true] [(0, true), (1, true), (2, true), (3, true), (4, true), (5, true), (6, true), (7, true), (8, true), (9, true), (10, false), (11, true), (12, true)] (by kernel_rfl) (by kernel_rfl) (fun _ _ d _ _ h => by first | (cases d <;> exact h) | cases h.1) (BWd) ?_
                have HB := BWd
                iterate 2 (refine seg_take (v := ?_) rfl (Or.inl ⟨by rfl, ?_⟩) ?_; rotate_left; (focus (intro w' hw'; have ja := (hw'.cell (p := ⟨ba, oa + k, none⟩) hba).trans ca; have jb := (hw'.cell (p := ⟨bb, ob + k, none⟩) hbb).trans cb; go_simp <;> with_reducible rfl)); try simp only [Act.put, List.setIfInBounds_toArray, List.set_cons_zero, List.set_cons_succ])
                iterate 8 ((first | refine seg_take (v := undef) rfl (Or.inr ⟨by rfl, rfl⟩) ?_ | (refine seg_take (v := ?_) rfl (Or.inl ⟨by rfl, ?_⟩) ?_; rotate_left; (focus (intro w' hw'; have ja := (hw'.cell (p := ⟨ba, oa + k, none⟩) hba).trans ca; have jb := (hw'.cell (p := ⟨bb, ob + k, none⟩) hbb).trans cb; go_simp <;> with_reducible rfl)))); try simp only [Act.put, List.setIfInBounds_toArray, List.set_cons_zero, List.set_cons_succ])
                refine seg_run rfl (fun K hK => ?_)
                go_simp
                refine hK.out _ _ (HB) ?_
                clear hK
                try simp only [Act.put, List.setIfInBounds_toArray, List.set_cons_zero, List.set_cons_succ]
                iterate 2 (refine seg_take (v := ?_) rfl (Or.inl ⟨by rfl, ?_⟩) ?_; rotate_left; (focus (intro w' hw'; have ja := (hw'.cell (p := ⟨ba, oa + k, none⟩) hba).trans ca; have jb := (hw'.cell (p := ⟨bb, ob + k, none⟩) hbb).trans cb; go_simp <;> with_reducible rfl)); try simp only [Act.put, List.setIfInBounds_toArray, List.set_cons_zero, List.set_cons_succ])
                refine seg_done (fun _ => ?_)
                refine wpAnyH_done (by kernel_rfl) ?_ _
                go_wp2_with fail
                go_roundw
                case rel => exact ⟨k + 1, by omega, by go_num, by rw [HS'.out]; rfl, vxs2, vys2, by rw [HP'.out, HQ'.out, HX.out, HY.out]; exact HWd, HLN.out⟩
                case measure => simp [intOf]; omega
              | true =>
                refine wp_region_seg (S := fun w' => Below w.heap.size w w') 0 #[true, true, true, true, true, true, true, true, true, true, true, true, true] [(0, true), (1, true), (2, true), (3, true), (4, true), (5, true), (6, true), (7, true), (8, true), (9, true), (10, false), (11, true), (12, true)] (by kernel_rfl) (by kernel_rfl) (fun _ _ d _ _ h => by first | (cases d <;> exact h) | cases h.1) (BWd) ?_
                have HB := BWd
                iterate 2 (refine seg_take (v := ?_) rfl (Or.inl ⟨by rfl, ?_⟩) ?_; rotate_left; (focus (intro w' hw'; have ja := (hw'.cell (p := ⟨ba, oa + k, none⟩) hba).trans ca; have jb := (hw'.cell (p := ⟨bb, ob + k, none⟩) hbb).trans cb; go_simp <;> with_reducible rfl)); try simp only [Act.put, List.setIfInBounds_toArray, List.set_cons_zero, List.set_cons_succ])
                iterate 8 ((first | refine seg_take (v := undef) rfl (Or.inr ⟨by rfl, rfl⟩) ?_ | (refine seg_take (v := ?_) rfl (Or.inl ⟨by rfl, ?_⟩) ?_; rotate_left; (focus (intro w' hw'; have ja := (hw'.cell (p := ⟨ba, oa + k, none⟩) hba).trans ca; have jb := (hw'.cell (p := ⟨bb, ob + k, none⟩) hbb).trans cb; go_simp <;> with_reducible rfl)))); try simp only [Act.put, List.setIfInBounds_toArray, List.set_cons_zero, List.set_cons_succ])
                refine seg_run rfl (fun K hK => ?_)
                go_simp
                refine (bytes_any _ _ _ _ _ _ _ _ _ (ra.below HB) (rb.below HB)).mono ?_
                rintro e_ y9 ⟨rfl, rfl⟩
                refine hK.out _ _ (HB) ?_
                clear hK
                try simp only [Act.put, List.setIfInBounds_toArray, List.set_cons_zero, List.set_cons_succ]
                iterate 2 (refine seg_take (v := ?_) rfl (Or.inl ⟨by rfl, ?_⟩) ?_; rotate_left; (focus (intro w' hw'; have ja := (hw'.cell (p := ⟨ba, oa + k, none⟩) hba).trans ca; have jb := (hw'.cell (p := ⟨bb, ob + k, none⟩) hbb).trans cb; go_simp <;> with_reducible rfl)); try simp only [Act.put, List.setIfInBounds_toArray, List.set_cons_zero, List.set_cons_succ])
                refine seg_done (fun _ => ?_)
                refine wpAnyH_done (by kernel_rfl) ?_ _
                go_wp2_with fail
                go_roundw
                case rel => exact ⟨k + 1, by omega, by go_num, by rw [HS'.out]; rfl, vxs2, vys2, by rw [HP'.out, HQ'.out, HX.out, HY.out]; exact HWd, HLN.out⟩
                case measure => simp [intOf]; omega
          · skip
            refine op_run rfl (fun K hK => ?_)
            rw [if_pos (by rfl)]
            refine wp_load_row 24 _ rfl gq rfl 24 (dgA Q) (0, 0) _ HZd.2.2.2.2.2.2.1 Try.underlying24 rfl (infoD Q HQl.out) ?_
            refine hK.out _ _ (HB) ?_
            clear hK
            try simp only [Act.put, List.setIfInBounds_toArray, List.set_cons_zero, List.set_cons_succ]
            refine wpAnyH_seg (by kernel_rfl) (fun _ _ d _ _ h => by first | (cases d <;> exact h) | cases h.1) 0 #[true, true, true, true, true, true, true, true, true, true, true, true, true, true] [(0, false), (5, false), (11, false), (12, false), (13, false)] _ _ _ (by kernel_rfl) (HB) ?_
            refine seg_run rfl (fun K hK => ?_)
            rw [if_pos (by rfl)]
            refine wp_load_row 24 _ rfl gp rfl 24 (dgA P) (0, 0) _ HZd.2.2.2.2.2.1 Try.underlying24 rfl (infoD P HPl.out) ?_
            refine hK.out _ _ (HB) ?_
            clear hK
            try simp only [Act.put, List.setIfInBounds_toArray, List.set_cons_zero, List.set_cons_succ]
            refine seg_run rfl (fun K hK => ?_)
            go_simp
            refine (shaLink_any P HPl.out Ak nk ck ak _ (ra.below HB) (by omega)).mono ?_
            rintro e_ y6 ⟨rfl, hb6⟩
            rw [HPP.out]
            have HZd := HZd.next hb6
            have HB := HZd.2.2.2.2.2.2.2
            refine hK.out _ _ (HB) ?_
            clear hK
            try simp only [Act.put, List.setIfInBounds_toArray, List.set_cons_zero, List.set_cons_succ]
            refine seg_run rfl (fun K hK => ?_)
            go_simp
            refine (shaLink_any Q HQl.out Bk mk dk bk _ (rb.below HB) (by omega)).mono ?_
            rintro e_ y7 ⟨rfl, hb7⟩
            rw [HQQ.out]
            have HZd := HZd.next hb7
            have HB := HZd.2.2.2.2.2.2.2
            refine hK.out _ _ (HB) ?_
            clear hK
            try simp only [Act.put, List.setIfInBounds_toArray, List.set_cons_zero, List.set_cons_succ]
            refine seg_run rfl (fun K hK => ?_)
            rw [if_pos (by rfl)]
            refine wp_store_row 24 _ _ rfl gp (dgA P') rfl rfl 24 (dgA P) HZd.2.2.2.2.2.1 (infoD P' HPl'.out) (by rw [dgA_size, dgA_size, HPl'.out, HPl.out]) (dgA_one P') ?_
            have HZd := HZd.storep (P' := P') hgp hne
            have HB := HZd.2.2.2.2.2.2.2
            refine hK.out _ _ (HB) ?_
            clear hK
            try simp only [Act.put, List.setIfInBounds_toArray, List.set_cons_zero, List.set_cons_succ]
            refine seg_run rfl (fun K hK => ?_)
            rw [if_pos (by rfl)]
            refine wp_store_row 24 _ _ rfl gq (dgA Q') rfl rfl 24 (dgA Q) HZd.2.2.2.2.2.2.1 (infoD Q' HQl'.out) (by rw [dgA_size, dgA_size, HQl'.out, HQl.out]) (dgA_one Q') ?_
            have HZd := (HZd.swap.storep (P' := Q') hgq (Ne.symm hne)).swap
            have HB := HZd.2.2.2.2.2.2.2
            refine hK.out _ _ (HB) ?_
            clear hK
            try simp only [Act.put, List.setIfInBounds_toArray, List.set_cons_zero, List.set_cons_succ]
            refine seg_done (fun _ => ?_)
            refine wpAnyH_done (by kernel_rfl) ?_ _
            go_wp2_with fail
            have HWd := HZd.next (Below.refl _ _).drew
            have BWd := HWd.2.2.2.2.2.2.2
            cases s with
            | false =>
              refine wp_region_seg (S := fun w' => Below w.heap.size w w') 0 #[true, true, true, true, true, true, true, true, true, true, true, true, true] [(0, true), (1, true), (2, true), (3, true), (4, true), (5, true), (6, true), (7, true), (8, true), (9, true), (10, false), (11, true), (12, true)] (by kernel_rfl) (by kernel_rfl) (fun _ _ d _ _ h => by first | (cases d <;> exact h) | cases h.1) (BWd) ?_
              have HB := BWd
              iterate 2 (refine seg_take (v := ?_) rfl (Or.inl ⟨by rfl, ?_⟩) ?_; rotate_left; (focus (intro w' hw'; have ja := (hw'.cell (p := ⟨ba, oa + k, none⟩) hba).trans ca; have jb := (hw'.cell (p := ⟨bb, ob + k, none⟩) hbb).trans cb; go_simp <;> with_reducible rfl)); try simp only [Act.put, List.setIfInBounds_toArray, List.set_cons_zero, List.set_cons_succ])
              iterate 8 ((first | refine seg_take (v := undef) rfl (Or.inr ⟨by rfl, rfl⟩) ?_ | (refine seg_take (v := ?_) rfl (Or.inl ⟨by rfl, ?_⟩) ?_; rotate_left; (focus (intro w' hw'; have ja := (hw'.cell (p := ⟨ba, oa + k, none⟩) hba).trans ca; have jb := (hw'.cell (p := ⟨bb, ob + k, none⟩) hbb).trans cb; go_simp <;> with_reducible rfl)))); try simp only [Act.put, List.setIfInBounds_toArray, List.set_cons_zero, List.set_cons_succ])
              refine seg_run rfl (fun K hK => ?_)
              go_simp
              refine hK.out _ _ (HB) ?_
              clear hK
              try simp only [Act.put, List.setIfInBounds_toArray, List.set_cons_zero, List.set_cons_succ]
              iterate 2 (refine seg_take (v := ?_) rfl (Or.inl ⟨by rfl, ?_⟩) ?_; rotate_left; (focus (intro w' hw'; have ja := (hw'.cell (p := ⟨ba, oa + k, none⟩) hba).trans ca; have jb := (hw'.cell (p := ⟨bb, ob + k, none⟩) hbb).trans cb; go_simp <;> with_reducible rfl)); try simp only [Act.put, List.setIfInBounds_toArray, List.set_cons_zero, List.set_cons_succ])
              refine seg_done (fun _ => ?_)
              refine wpAnyH_done (by kernel_rfl) ?_ _
              go_wp2_with fail
              go_roundw
              case rel => exact ⟨k + 1, by omega, by go_num, by rw [HS'.out]; rfl, vxs2, vys2, by rw [HP'.out, HQ'.out, HX.out, HY.out]; exact HWd, HLN.out⟩
              case measure => simp [intOf]; omega
            | true =>
              refine wp_region_seg (S := fun w' => Below w.heap.size w w') 0 #[true, true, true, true, true, true, true, true, true, true, true, true, true] [(0, true), (1, true), (2, true), (3, true), (4, true), (5, true), (6, true), (7, true), (8, true), (9, true), (10, false), (11, true), (12, true)] (by kernel_rfl) (by kernel_rfl) (fun _ _ d _ _ h => by first | (cases d <;> exact h) | cases h.1) (BWd) ?_
              have HB := BWd
              iterate 2 (refine seg_take (v := ?_) rfl (Or.inl ⟨by rfl, ?_⟩) ?_; rotate_left; (focus (intro w' hw'; have ja := (hw'.cell (p := ⟨ba, oa + k, none⟩) hba).trans ca; have jb := (hw'.cell (p := ⟨bb, ob + k, none⟩) hbb).trans cb; go_simp <;> with_reducible rfl)); try simp only [Act.put, List.setIfInBounds_toArray, List.set_cons_zero, List.set_cons_succ])
              iterate 8 ((first | refine seg_take (v := undef) rfl (Or.inr ⟨by rfl, rfl⟩) ?_ | (refine seg_take (v := ?_) rfl (Or.inl ⟨by rfl, ?_⟩) ?_; rotate_left; (focus (intro w' hw'; have ja := (hw'.cell (p := ⟨ba, oa + k, none⟩) hba).trans ca; have jb := (hw'.cell (p := ⟨bb, ob + k, none⟩) hbb).trans cb; go_simp <;> with_reducible rfl)))); try simp only [Act.put, List.setIfInBounds_toArray, List.set_cons_zero, List.set_cons_succ])
              refine seg_run rfl (fun K hK => ?_)
              go_simp
              refine (bytes_any _ _ _ _ _ _ _ _ _ (ra.below HB) (rb.below HB)).mono ?_
              rintro e_ y9 ⟨rfl, rfl⟩
              refine hK.out _ _ (HB) ?_
              clear hK
              try simp only [Act.put, List.setIfInBounds_toArray, List.set_cons_zero, List.set_cons_succ]
              iterate 2 (refine seg_take (v := ?_) rfl (Or.inl ⟨by rfl, ?_⟩) ?_; rotate_left; (focus (intro w' hw'; have ja := (hw'.cell (p := ⟨ba, oa + k, none⟩) hba).trans ca; have jb := (hw'.cell (p := ⟨bb, ob + k, none⟩) hbb).trans cb; go_simp <;> with_reducible rfl)); try simp only [Act.put, List.setIfInBounds_toArray, List.set_cons_zero, List.set_cons_succ])
              refine seg_done (fun _ => ?_)
              refine wpAnyH_done (by kernel_rfl) ?_ _
              go_wp2_with fail
              go_roundw
              case rel => exact ⟨k + 1, by omega, by go_num, by rw [HS'.out]; rfl, vxs2, vys2, by rw [HP'.out, HQ'.out, HX.out, HY.out]; exact HWd, HLN.out⟩
              case measure => simp [intOf]; omega
        · have e1 : decide ((100 : Int) < (nk : Int)) = false := decide_eq_false (by omega)
          have e2 : decide ((100 : Int) < (mk : Int)) = true := decide_eq_true (by omega)
          go_wp2_with (go_at_call 28; refine (heads03 _).mono ?_; rintro e_ w2 ⟨rfl, hb2⟩)
          go_ret
          exact ⟨rfl, hBr.trans (hb2.mono hBr.size)⟩
      · have e1 : decide ((100 : Int) < (nk : Int)) = true := decide_eq_true (by omega)
        go_wp2_with (go_at_call 28; refine (heads03 _).mono ?_; rintro e_ w2 ⟨rfl, hb2⟩)
        go_ret
        exact ⟨rfl, hBr.trans (hb2.mono hBr.size)⟩
    · obtain rfl : k = n := by omega
      have HLN := Lib.hid hLn
      clear hLn
      have hback := fun h1 h2 => ch_back (ats := ats) (bts := bts) HC.out HD.out k h1 h2
      have hsame := ch_same (c := C) (d := D) (ats := ats) (bts := bts) k
      have hPl := chP_len HC.out ats k
      have hQl := chP_len HD.out bts k
      obtain ⟨P, hP⟩ : ∃ P, chP C ats k = P := ⟨_, rfl⟩
      obtain ⟨Q, hQ⟩ : ∃ P, chP D bts k = P := ⟨_, rfl⟩
      obtain ⟨s, hs⟩ : ∃ s, chSame C D ats bts k = s := ⟨_, rfl⟩
      rw [hP] at hS hPl hsame hback
      rw [hQ] at hS hQl hsame hback
      rw [hs] at hsame hback ⊢
      obtain ⟨Ax, cx, rfl, _⟩ := own_form hS.1
      obtain ⟨Ay, cy, rfl, _⟩ := own_form hS.2.1
      have hBr := hS.2.2.2.2.2.2.2
      have RP := Lib.hid hS.2.2.2.2.2.1
      have RQ := Lib.hid hS.2.2.2.2.2.2.1
      have HPl := Lib.hid hPl
      have HQl := Lib.hid hQl
      have HBK := Lib.hid hback
      have HSM := Lib.hid hsame
      have HSS := Lib.hid hS
      clear hP hQ hs hPl hQl hback hsame hS
      by_cases hPQ : P = Q
      · subst hPQ
        have HE := dig_true P HPl.out
        cases s with
        | true =>
          go_wp2_with (first
            | (go_at_call 28; refine (heads03 _).mono ?_; rintro e_ w2 ⟨rfl, hb2⟩)
            | (refine dig_load rfl _ rfl gp rfl P 24 RP.out HPl.out ?_)
            | (refine dig_load rfl _ rfl gq rfl P 24 RQ.out HQl.out ?_))
          go_ret
          exact ⟨rfl, hBr.trans (hb2.mono hBr.size)⟩
        | false =>
          go_wp2_with (first
            | (refine dig_load rfl _ rfl gp rfl P 24 RP.out HPl.out ?_)
            | (refine dig_load rfl _ rfl gq rfl P 24 RQ.out HQl.out ?_))
          go_loopw [15] (fun v w2 => ∃ i : Nat, i ≤ k ∧ v = .int .i64 i ∧ (∀ j, j < i → shOf (chX C ats j) = shOf (chX D bts j) → chX C ats j = chX D bts j) ∧ ChS w gp gq P P (.slice Ax k cx) (.slice Ay k cy) k k vxs vys ((List.range k).map (chX C ats)) ((List.range k).map (chX D bts)) w2) (fun i _ => k - (intOf i).toNat)
          case atStart => exact ⟨0, Nat.zero_le _, rfl, fun j hj => absurd hj (Nat.not_lt_zero _), HSS.out⟩
          case round =>
            clear HSS RP RQ hBr
            obtain ⟨i, hi, rfl, hno, hS⟩ := hrel
            by_cases hil : i < k
            · have hBr := hS.2.2.2.2.2.2.2
              obtain ⟨gx, rfl, hcx⟩ : ∃ gx, Ax = some ⟨gx, 0, none⟩ ∧ True := by
                rcases hS.1.2 with ⟨_, h0⟩ | ⟨gx, cap, cur, e, _⟩
                · omega
                · injection e with e; exact ⟨gx, e, trivial⟩
              obtain ⟨gy, rfl, hcy⟩ : ∃ gx, Ay = some ⟨gx, 0, none⟩ ∧ True := by
                rcases hS.2.1.2 with ⟨_, h0⟩ | ⟨gx, cap, cur, e, _⟩
                · omega
                · injection e with e; exact ⟨gx, e, trivial⟩
              obtain ⟨A1, n1, c1, hv1, ho1⟩ := hS.2.2.2.1.at_ i (by rw [hS.1.1]; omega)
              obtain ⟨A2, n2, c2, hv2, ho2⟩ := hS.2.2.2.2.1.at_ i (by rw [hS.2.1.1]; omega)
              have cx1 := hS.1.cells (g := gx) rfl i _ hv1
              have cy1 := hS.2.1.cells (g := gy) rfl i _ hv2
              rw [Addr.add_lit, Nat.zero_add] at cx1 cy1
              rw [show ((List.range k).map (chX C ats)).getD i [] = chX C ats i by simp [List.getD, hil]] at ho1
              rw [show ((List.range k).map (chX D bts)).getD i [] = chX D bts i by simp [List.getD, hil]] at ho2
              have hl1 : n1 ≤ 132 := by rw [← ho1.len]; exact (HLN.out i hil).1
              have hl2 : n2 ≤ 132 := by rw [← ho2.len]; exact (HLN.out i hil).2
              have hgx : gx < wr.heap.size := World.block_lt_of_cell? wr _ cx1
              have hgy : gy < wr.heap.size := World.block_lt_of_cell? wr _ cy1
              have hik : (i : Int) < (k : Int) := by omega
              have wi := wi64n (k := i) (by omega)
              have hO1 := shOf_len (chX C ats i)
              have hO2 := shOf_len (chX D bts i)
              have hnext : ∀ (h : shOf (chX C ats i) = shOf (chX D bts i) → chX C ats i = chX D bts i), ∀ j, j < i + 1 → shOf (chX C ats j) = shOf (chX D bts j) → chX C ats j = chX D bts j := fun h j hj => by
                by_cases hji : j < i
                · exact hno j hji
                · obtain rfl : j = i := by omega
                  exact h
              clear hno
              generalize chX C ats i = x1 at *
              generalize chX D bts i = y1 at *
              have HNX := Lib.hid hnext
              obtain ⟨O1, hO1e⟩ : ∃ O, shOf x1 = O := ⟨_, rfl⟩
              obtain ⟨O2, hO2e⟩ : ∃ O, shOf y1 = O := ⟨_, rfl⟩
              rw [hO1e] at hO1
              rw [hO2e] at hO2
              have HO1 := Lib.hid hO1e
              have HO2 := Lib.hid hO2e
              have r1 := ho1.rd
              have r2 := ho2.rd
              have HSS := Lib.hid hS
              clear hnext hO1e hO2e ho1 ho2 hv1 hv2 hS
              go_wp2_with fail
              by_cases hxy : x1 = y1
              · have hbt : decide (x1 = y1) = true := decide_eq_true hxy
                have HBT := Lib.hid hbt
                clear hbt
                refine wp_region_seg (S := fun w' => Below wr.heap.size wr w') 0 #[true, true, true, true, true, true, true, true, true, true, true, true, true, true, true, true, true, true, true, true, true, true, true] [(0, true), (1, true), (2, true), (3, true), (4, true), (5, true), (6, true), (7, true), (8, false), (9, true), (10, true), (11, true), (12, true), (13, true), (14, true), (16, true), (17, true), (18, true), (19, true), (15, false), (20, false), (21, true), (22, true)] (by kernel_rfl) (by kernel_rfl) (fun _ _ d _ _ h => by first | (cases d <;> exact h) | cases h.1) ((Below.refl wr.heap.size wr).drew) ?_
                have HB := (Below.refl wr.heap.size wr).drew
                iterate 8 (refine seg_take (v := ?_) rfl (Or.inl ⟨by rfl, ?_⟩) ?_; rotate_left; (focus (intro w' hw'; have ja := (hw'.cell (p := ⟨gx, i, none⟩) hgx).trans cx1; have jb := (hw'.cell (p := ⟨gy, i, none⟩) hgy).trans cy1; go_simp <;> with_reducible rfl)); try simp only [Act.put, List.setIfInBounds_toArray, List.set_cons_zero, List.set_cons_succ])
                refine seg_run rfl (fun K hK => ?_)
                go_simp
                have hh := bytes_any _ _ _ _ _ _ _ _ _ (r1.below HB) (r2.below HB)
                rw [HBT.out] at hh
                refine hh.mono ?_
                rintro e_ w9 ⟨rfl, rfl⟩
                refine hK.out _ _ (HB) ?_
                clear hK
                try simp only [Act.put, List.setIfInBounds_toArray, List.set_cons_zero, List.set_cons_succ]
                iterate 2 (refine seg_take (v := ?_) rfl (Or.inl ⟨by rfl, ?_⟩) ?_; rotate_left; (focus (intro w' hw'; have ja := (hw'.cell (p := ⟨gx, i, none⟩) hgx).trans cx1; have jb := (hw'.cell (p := ⟨gy, i, none⟩) hgy).trans cy1; go_simp <;> with_reducible rfl)); try simp only [Act.put, List.setIfInBounds_toArray, List.set_cons_zero, List.set_cons_succ])
                iterate 8 ((first | refine seg_take (v := undef) rfl (Or.inr ⟨by rfl, rfl⟩) ?_ | (refine seg_take (v := ?_) rfl (Or.inl ⟨by rfl, ?_⟩) ?_; rotate_left; (focus (intro w' hw'; have ja := (hw'.cell (p := ⟨gx, i, none⟩) hgx).trans cx1; have jb := (hw'.cell (p := ⟨gy, i, none⟩) hgy).trans cy1; go_simp <;> with_reducible rfl)))); try simp only [Act.put, List.setIfInBounds_toArray, List.set_cons_zero, List.set_cons_succ])
                refine seg_run rfl (fun K hK => ?_)
                go_simp
                refine hK.out _ _ (HB) ?_
                clear hK
                try simp only [Act.put, List.setIfInBounds_toArray, List.set_cons_zero, List.set_cons_succ]
                refine seg_run rfl (fun K hK => ?_)
                go_simp
                refine hK.out _ _ (HB) ?_
                clear hK
                try simp only [Act.put, List.setIfInBounds_toArray, List.set_cons_zero, List.set_cons_succ]
                iterate 1 ((first | refine seg_take (v := undef) rfl (Or.inr ⟨by rfl, rfl⟩) ?_ | (refine seg_take (v := ?_) rfl (Or.inl ⟨by rfl, ?_⟩) ?_; rotate_left; (focus (intro w' hw'; have ja := (hw'.cell (p := ⟨gx, i, none⟩) hgx).trans cx1; have jb := (hw'.cell (p := ⟨gy, i, none⟩) hgy).trans cy1; go_simp <;> with_reducible rfl)))); try simp only [Act.put, List.setIfInBounds_toArray, List.set_cons_zero, List.set_cons_succ])
                iterate 1 (refine seg_take (v := ?_) rfl (Or.inl ⟨by rfl, ?_⟩) ?_; rotate_left; (focus (intro w' hw'; have ja := (hw'.cell (p := ⟨gx, i, none⟩) hgx).trans cx1; have jb := (hw'.cell (p := ⟨gy, i, none⟩) hgy).trans cy1; go_simp <;> with_reducible rfl)); try simp only [Act.put, List.setIfInBounds_toArray, List.set_cons_zero, List.set_cons_succ])
                refine seg_done (fun _ => ?_)
                refine wpAnyH_done (by kernel_rfl) ?_ _
                go_wp2_with fail
                go_roundw
                case rel => exact ⟨i + 1, by omega, by go_num, HNX.out (fun _ => hxy), HSS.out.next HB⟩
                case measure => simp [intOf]; omega
              · have hbt : decide (x1 = y1) = false := decide_eq_false hxy
                have HBT := Lib.hid hbt
                clear hbt
                by_cases hO : O1 = O2
                · subst hO
                  have HE1 := Lib.hid (dig_true O1 hO1)
                  refine wp_region_seg (S := fun w' => Below wr.heap.size wr w') 0 #[true, true, true, true, true, true, true, true, true, true, true, true, true, true, true, true, true, true, true, true, true, true, true] [(0, true), (1, true), (2, true), (3, true), (4, true), (5, true), (6, true), (7, true), (8, false), (9, true), (10, true), (11, true), (12, true), (13, true), (14, true), (16, true), (17, true), (18, true), (19, true), (15, false), (20, false), (21, true), (22, true)] (by kernel_rfl) (by kernel_rfl) (fun _ _ d _ _ h => by first | (cases d <;> exact h) | cases h.1) ((Below.refl wr.heap.size wr).drew) ?_
                  have HB := (Below.refl wr.heap.size wr).drew
                  iterate 8 (refine seg_take (v := ?_) rfl (Or.inl ⟨by rfl, ?_⟩) ?_; rotate_left; (focus (intro w' hw'; have ja := (hw'.cell (p := ⟨gx, i, none⟩) hgx).trans cx1; have jb := (hw'.cell (p := ⟨gy, i, none⟩) hgy).trans cy1; go_simp <;> with_reducible rfl)); try simp only [Act.put, List.setIfInBounds_toArray, List.set_cons_zero, List.set_cons_succ])
                  refine seg_run rfl (fun K hK => ?_)
                  go_simp
                  have hh := bytes_any _ _ _ _ _ _ _ _ _ (r1.below HB) (r2.below HB)
                  rw [HBT.out] at hh
                  refine hh.mono ?_
                  rintro e_ w9 ⟨rfl, rfl⟩
                  refine hK.out _ _ (HB) ?_
                  clear hK
                  try simp only [Act.put, List.setIfInBounds_toArray, List.set_cons_zero, List.set_cons_succ]
                  iterate 2 (refine seg_take (v := ?_) rfl (Or.inl ⟨by rfl, ?_⟩) ?_; rotate_left; (focus (intro w' hw'; have ja := (hw'.cell (p := ⟨gx, i, none⟩) hgx).trans cx1; have jb := (hw'.cell (p := ⟨gy, i, none⟩) hgy).trans cy1; go_simp <;> with_reducible rfl)); try simp only [Act.put, List.setIfInBounds_toArray, List.set_cons_zero, List.set_cons_succ])
                  iterate 8 ((first | refine seg_take (v := undef) rfl (Or.inr ⟨by rfl, rfl⟩) ?_ | (refine seg_take (v := ?_) rfl (Or.inl ⟨by rfl, ?_⟩) ?_; rotate_left; (focus (intro w' hw'; have ja := (hw'.cell (p := ⟨gx, i, none⟩) hgx).trans cx1; have jb := (hw'.cell (p := ⟨gy, i, none⟩) hgy).trans cy1; go_simp <;> with_reducible rfl)))); try simp only [Act.put, List.setIfInBounds_toArray, List.set_cons_zero, List.set_cons_succ])
                  refine seg_run rfl (fun K hK => ?_)
                  go_simp
                  refine (shaOf_any A1 n1 c1 x1 _ (r1.below HB) (by omega)).mono ?_
                  rintro e_ w10 ⟨rfl, hb10⟩
                  rw [HO1.out]
                  have HB := below_then HB hb10
                  refine hK.out _ _ (HB) ?_
                  clear hK
                  try simp only [Act.put, List.setIfInBounds_toArray, List.set_cons_zero, List.set_cons_succ]
                  refine seg_run rfl (fun K hK => ?_)
                  go_simp
                  refine (shaOf_any A2 n2 c2 y1 _ (r2.below HB) (by omega)).mono ?_
                  rintro e_ w11 ⟨rfl, hb11⟩
                  rw [HO2.out]
                  have HB := below_then HB hb11
                  refine hK.out _ _ (HB) ?_
                  clear hK
                  try simp only [Act.put, List.setIfInBounds_toArray, List.set_cons_zero, List.set_cons_succ]
                  refine seg_take (v := .bool true) rfl (Or.inl ⟨by rfl, fun w' hw' => ?_⟩) ?_
                  focus ((have jj := HE1.out w'; go_simp))
                  try simp only [Act.put, List.setIfInBounds_toArray, List.set_cons_zero, List.set_cons_succ]
                  iterate 1 (refine seg_take (v := ?_) rfl (Or.inl ⟨by rfl, ?_⟩) ?_; rotate_left; (focus (intro w' hw'; have ja := (hw'.cell (p := ⟨gx, i, none⟩) hgx).trans cx1; have jb := (hw'.cell (p := ⟨gy, i, none⟩) hgy).trans cy1; go_simp <;> with_reducible rfl)); try simp only [Act.put, List.setIfInBounds_toArray, List.set_cons_zero, List.set_cons_succ])
                  refine seg_done (fun _ => ?_)
                  refine wpAnyH_done (by kernel_rfl) ?_ _
                  have HS2 := HSS.out.next HB
                  have hB2 := HS2.2.2.2.2.2.2.2
                  go_wp2_with (go_at_call 28; refine (heads03 _).mono ?_; rintro e_ w2 ⟨rfl, hb2⟩)
                  go_ret
                  exact ⟨rfl, hB2.trans (hb2.mono hB2.size)⟩
                · have HE1 := Lib.hid (dig_false O1 O2 hO1 hO2 hO)
                  refine wp_region_seg (S := fun w' => Below wr.heap.size wr w') 0 #[true, true, true, true, true, true, true, true, true, true, true, true, true, true, true, true, true, true, true, true, true, true, true] [(0, true), (1, true), (2, true), (3, true), (4, true), (5, true), (6, true), (7, true), (8, false), (9, true), (10, true), (11, true), (12, true), (13, true), (14, true), (16, true), (17, true), (18, true), (19, true), (15, false), (20, false), (21, true), (22, true)] (by kernel_rfl) (by kernel_rfl) (fun _ _ d _ _ h => by first | (cases d <;> exact h) | cases h.1) ((Below.refl wr.heap.size wr).drew) ?_
                  have HB := (Below.refl wr.heap.size wr).drew
                  iterate 8 (refine seg_take (v := ?_) rfl (Or.inl ⟨by rfl, ?_⟩) ?_; rotate_left; (focus (intro w' hw'; have ja := (hw'.cell (p := ⟨gx, i, none⟩) hgx).trans cx1; have jb := (hw'.cell (p := ⟨gy, i, none⟩) hgy).trans cy1; go_simp <;> with_reducible rfl)); try simp only [Act.put, List.setIfInBounds_toArray, List.set_cons_zero, List.set_cons_succ])
                  refine seg_run rfl (fun K hK => ?_)
                  go_simp
                  have hh := bytes_any _ _ _ _ _ _ _ _ _ (r1.below HB) (r2.below HB)
                  rw [HBT.out] at hh
                  refine hh.mono ?_
                  rintro e_ w9 ⟨rfl, rfl⟩
                  refine hK.out _ _ (HB) ?_
                  clear hK
                  try simp only [Act.put, List.setIfInBounds_toArray, List.set_cons_zero, List.set_cons_succ]
                  iterate 2 (refine seg_take (v := ?_) rfl (Or.inl ⟨by rfl, ?_⟩) ?_; rotate_left; (focus (intro w' hw'; have ja := (hw'.cell (p := ⟨gx, i, none⟩) hgx).trans cx1; have jb := (hw'.cell (p := ⟨gy, i, none⟩) hgy).trans cy1; go_simp <;> with_reducible rfl)); try simp only [Act.put, List.setIfInBounds_toArray, List.set_cons_zero, List.set_cons_succ])
                  iterate 8 ((first | refine seg_take (v := undef) rfl (Or.inr ⟨by rfl, rfl⟩) ?_ | (refine seg_take (v := ?_) rfl (Or.inl ⟨by rfl, ?_⟩) ?_; rotate_left; (focus (intro w' hw'; have ja := (hw'.cell (p := ⟨gx, i, none⟩) hgx).trans cx1; have jb := (hw'.cell (p := ⟨gy, i, none⟩) hgy).trans cy1; go_simp <;> with_reducible rfl)))); try simp only [Act.put, List.setIfInBounds_toArray, List.set_cons_zero, List.set_cons_succ])
                  refine seg_run rfl (fun K hK => ?_)
                  go_simp
                  refine (shaOf_any A1 n1 c1 x1 _ (r1.below HB) (by omega)).mono ?_
                  rintro e_ w10 ⟨rfl, hb10⟩
                  rw [HO1.out]
                  have HB := below_then HB hb10
                  refine hK.out _ _ (HB) ?_
                  clear hK
                  try simp only [Act.put, List.setIfInBounds_toArray, List.set_cons_zero, List.set_cons_succ]
                  refine seg_run rfl (fun K hK => ?_)
                  go_simp
                  refine (shaOf_any A2 n2 c2 y1 _ (r2.below HB) (by omega)).mono ?_
                  rintro e_ w11 ⟨rfl, hb11⟩
                  rw [HO2.out]
                  have HB := below_then HB hb11
                  refine hK.out _ _ (HB) ?_
                  clear hK
                  try simp only [Act.put, List.setIfInBounds_toArray, List.set_cons_zero, List.set_cons_succ]
                  refine seg_take (v := .bool false) rfl (Or.inl ⟨by rfl, fun w' hw' => ?_⟩) ?_
                  focus ((have jj := HE1.out w'; go_simp))
                  try simp only [Act.put, List.setIfInBounds_toArray, List.set_cons_zero, List.set_cons_succ]
                  iterate 1 (refine seg_take (v := ?_) rfl (Or.inl ⟨by rfl, ?_⟩) ?_; rotate_left; (focus (intro w' hw'; have ja := (hw'.cell (p := ⟨gx, i, none⟩) hgx).trans cx1; have jb := (hw'.cell (p := ⟨gy, i, none⟩) hgy).trans cy1; go_simp <;> with_reducible rfl)); try simp only [Act.put, List.setIfInBounds_toArray, List.set_cons_zero, List.set_cons_succ])
                  refine seg_done (fun _ => ?_)
                  refine wpAnyH_done (by kernel_rfl) ?_ _
                  have HS2 := HSS.out.next HB
                  go_wp2_with fail
                  go_roundw
                  case rel => exact ⟨i + 1, by omega, by go_num, HNX.out (fun h => absurd (HO1.out.symm.trans (h.trans HO2.out)) hO), HS2⟩
                  case measure => simp [intOf]; omega
            · obtain rfl : i = k := by omega
              exact absurd (HBK.out hno (by first | rfl | trivial)) (by decide)
      · have HE := dig_false P Q HPl.out HQl.out hPQ
        have hsf : s = false := by
          cases s with
          | false => rfl
          | true => exact absurd (HSM.out rfl) hPQ
        subst hsf
        go_wp2_with (first
          | (go_at_call 28; refine (heads03 _).mono ?_; rintro e_ w2 ⟨rfl, hb2⟩)
          | (refine dig_load rfl _ rfl gp rfl P 24 RP.out HPl.out ?_)
          | (refine dig_load rfl _ rfl gq rfl Q 24 RQ.out HQl.out ?_))
        go_ret
        exact ⟨rfl, hBr.trans (hb2.mono hBr.size)⟩
theorem shaChain_law (A : Option Addr) (n c : Nat) (vs : List Value) (ats : List (List UInt8)) (A' : Option Addr) (m d : Nat) (us : List Value) (bts : List (List UInt8)) (C D : List UInt8) (w : World)
    (ha : RdSS w A n c vs ats) (hb : RdSS w A' m d us bts) (hC : C.length = 32) (hD : D.length = 32) :
    Calls Try.prog 10 #[.slice A n c, .slice A' m d, .agg (C.map vB).toArray, .agg (D.map vB).toArray] w (RetV w (.bool true)) := by
  by_cases hn : n ≤ 8
  · by_cases hm : n ≤ m
    · exact shaChain_main A n c vs ats A' m d us bts C D w ha hb hC hD hn hm
    · have d1 : decide ((8 : Int) < (n : Int)) = false := decide_eq_false (by omega)
      have d2 : decide ((m : Int) < (n : Int)) = true := decide_eq_true (by omega)
      have d3 : decide (m < n) = true := decide_eq_true (by omega)
      have hszC : (C.map vB).toArray.size = 32 := by simp [hC]
      have hszD : (D.map vB).toArray.size = 32 := by simp [hD]
      go_enter Try.func10, Try.ntmps10
      go_wp2_with (go_at_call 28; refine (heads03 _).mono ?_; rintro e_ w2 ⟨rfl, hb2⟩)
      go_ret
      exact ⟨rfl, below_then (((below_self w).alloc (Nat.le_refl _) _).alloc (by simp) _) hb2⟩
  · have d1 : decide ((8 : Int) < (n : Int)) = true := decide_eq_true (by omega)
    have hszC : (C.map vB).toArray.size = 32 := by simp [hC]
    have hszD : (D.map vB).toArray.size = 32 := by simp [hD]
    go_enter Try.func10, Try.ntmps10
    go_wp2_with (go_at_call 28; refine (heads03 _).mono ?_; rintro e_ w2 ⟨rfl, hb2⟩)
    go_ret
    exact ⟨rfl, below_then (((below_self w).alloc (Nat.le_refl _) _).alloc (by simp) _) hb2⟩
end Go.Proofs.Ytmbdfanaegadjaa
