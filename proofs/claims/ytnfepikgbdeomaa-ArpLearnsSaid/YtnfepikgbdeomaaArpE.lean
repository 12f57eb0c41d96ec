/-
  Layer 19: arp: Check.
-/
import Derived.Test.YtnfepikgbdeomaaArpD
namespace Go.Proofs.Ytnfepikgbdeomaa
set_option maxRecDepth 20000
open Go.RowKit
set_option linter.unusedVariables false
set_option linter.unusedSimpArgs false
set_option maxHeartbeats 8000000

theorem arpCheck_any (A : Option Addr) (n c : Nat) (l : List Nb) (w : World) (hr : RdNb w A n c l) :
    Calls Try.prog 59 #[.slice A n c] w (RetV w (.bool (nbOk l))) := by
  have hn63 := hr.n63
  have hl := hr.2.1
  have hI := nbOk_iff l
  rw [hl] at hI
  have HI := Lib.hid hI
  obtain ⟨P, hP⟩ : ∃ P, nbOk l = P := ⟨_, rfl⟩
  rw [hP] at HI ⊢
  have hF : ∀ (Q : Prop), (P = true → Q) → ¬ Q → P = false := fun Q h1 h2 => by
    cases P with
    | false => rfl
    | true => exact absurd (h1 rfl) h2
  have HF := Lib.hid hF
  clear hI hP hF hl
  go_enter Try.func59, Try.ntmps59
  go_wp2_with fail
  go_loopw [7] (ArI w n (fun j => nbOk1 l j = true)) (fun i _ => n - (intOf i).toNat)
  case atStart => exact ⟨0, by omega, rfl, fun j hj => by omega, Below.refl _ _⟩
  case round =>
  obtain ⟨k, hk, rfl, hp, hB⟩ := hrel
  obtain ⟨wo, rfl⟩ : ∃ W : World, W = wr := ⟨_, rfl⟩
  have HPp := Lib.hid hp
  clear hp
  by_cases hlt : k < n
  · obtain ⟨b, o, rfl, hb, hok, hin⟩ := (hr.below hB).nb k hlt
    obtain ⟨x, hx⟩ : ∃ x, l.getD k nb0 = x := ⟨_, rfl⟩
    rw [hx] at hok hin
    have lk : (k : Int) < (n : Int) := by omega
    have ht2 := hok.2
    have e1 : nbOk1 l k = (decide (x.t ≤ 1099511627776) && (decide (k = 0) || decide ((l.getD (k - 1) nb0).ip < x.ip))) := by unfold nbOk1; rw [hx]
    have HE := Lib.hid e1
    have HIN := Lib.hid hin
    clear e1 hx hin
    go_wp2_with (first | (refine nb_mid rfl _ rfl b (o + k * 8) rfl HIN.out ?_) | (refine nb_fresh rfl _ _ rfl rfl rfl wo rfl rfl ?_; intro X q x1))
    have BX := below_then hB x1
    have lq := q.out.lt
    have cq := q.out.c7
    by_cases ht : x.t ≤ 1099511627776
    · have d2 : decide ((1099511627776 : Int) < (x.t : Int)) = false := decide_eq_false (by omega)
      cases k with
      | zero =>
        have d3 : decide ((0 : Int) < ((0 : Nat) : Int)) = false := by decide
        go_wp2_with fail
        refine wp_region_seg (S := fun w' => Below X.heap.size X w') 0 #[true, true, true, true, true, true, true, true, true, true, true, true, true, true, true, true, true] [(0, true), (1, true), (2, true), (3, true), (4, true), (5, true), (6, true), (7, true), (8, true), (9, true), (10, true), (11, true), (12, true), (13, false), (14, true), (15, true), (16, true)] (by kernel_rfl) (by kernel_rfl) (fun _ _ d _ _ h => by first | (cases d <;> exact h) | cases h.1) ((Below.refl X.heap.size X).drew) ?_
        have HB := (Below.refl X.heap.size X).drew
        iterate 4 (refine seg_take (v := ?_) rfl (Or.inl ⟨by rfl, ?_⟩) ?_; rotate_left; (focus (intro w' hw'; have j7 := (hw'.cell (p := ⟨wo.heap.size, 7, none⟩) lq).trans cq; go_simp <;> with_reducible rfl)); try simp only [Act.put, List.setIfInBounds_toArray, List.set_cons_zero, List.set_cons_succ])
        iterate 9 ((first | refine seg_take (v := undef) rfl (Or.inr ⟨by rfl, rfl⟩) ?_ | (refine seg_take (v := ?_) rfl (Or.inl ⟨by rfl, ?_⟩) ?_; rotate_left; (focus (intro w' hw'; have j7 := (hw'.cell (p := ⟨wo.heap.size, 7, none⟩) lq).trans cq; go_simp <;> with_reducible rfl)))); try simp only [Act.put, List.setIfInBounds_toArray, List.set_cons_zero, List.set_cons_succ])
        refine seg_run rfl (fun K hK => ?_)
        go_simp
        refine hK.out _ _ (HB) ?_
        clear hK
        try simp only [Act.put, List.setIfInBounds_toArray, List.set_cons_zero, List.set_cons_succ]
        iterate 2 ((first | refine seg_take (v := undef) rfl (Or.inr ⟨by rfl, rfl⟩) ?_ | (refine seg_take (v := ?_) rfl (Or.inl ⟨by rfl, ?_⟩) ?_; rotate_left; (focus (intro w' hw'; have j7 := (hw'.cell (p := ⟨wo.heap.size, 7, none⟩) lq).trans cq; go_simp <;> with_reducible rfl)))); try simp only [Act.put, List.setIfInBounds_toArray, List.set_cons_zero, List.set_cons_succ])
        iterate 1 (refine seg_take (v := ?_) rfl (Or.inl ⟨by rfl, ?_⟩) ?_; rotate_left; (focus (intro w' hw'; have j7 := (hw'.cell (p := ⟨wo.heap.size, 7, none⟩) lq).trans cq; go_simp <;> with_reducible rfl)); try simp only [Act.put, List.setIfInBounds_toArray, List.set_cons_zero, List.set_cons_succ])
        refine seg_done (fun _ => ?_)
        refine wpAnyH_done (by kernel_rfl) ?_ _
        go_wp2_with fail
        go_roundw
        case rel => exact ⟨1, by omega, by go_num, ar_next HPp.out (by rw [HE.out]; simp [ht]), below_then BX HB⟩
        case measure => simp [intOf]; omega
      | succ j =>
        obtain ⟨b', o', he, _, hok2, hin2⟩ := (hr.below BX).nb j (by omega)
        injection he with he; injection he with e2 e3; subst e2 e3
        obtain ⟨y, hy⟩ : ∃ y, l.getD j nb0 = y := ⟨_, rfl⟩
        rw [hy] at hin2 hok2
        have e4 : nbOk1 l (j + 1) = decide (y.ip < x.ip) := by
          rw [HE.out, Nat.add_sub_cancel, hy]; simp [ht]
        have HE4 := Lib.hid e4
        have HIN2 := Lib.hid hin2
        have d3 : decide ((0 : Int) < ((j + 1 : Nat) : Int)) = true := decide_eq_true (by omega)
        have w1 : IntKind.i64.wrap (((j + 1 : Nat) : Int) - 1) = (j : Int) := by rw [IntKind.wrap_i64]; omega
        have lj : (j : Int) < (n : Int) := by omega
        obtain ⟨Kd, hK⟩ : ∃ Kd : Nat, Kd = j + 1 := ⟨_, rfl⟩
        rw [← hK] at d3 w1 lk HE4 HPp ⊢
        have HK := Lib.hid hK
        have d5 : decide (0 < Kd) = true := decide_eq_true (by omega)
        have d6 : (0 < Kd) = True := eq_true (by omega)
        have hcm := byIP_any y x
        have HCM := Lib.hid hcm
        clear e4 HE hy hin2 hcm hK
        by_cases hlt2 : y.ip < x.ip
        · have ec : cmpN y.ip x.ip = -1 := by unfold cmpN; rw [if_pos hlt2]
          rw [ec] at HCM
          clear ec
          go_wp2_with fail
          refine wp_region_seg (S := fun w' => Below X.heap.size X w') 0 #[true, true, true, true, true, true, true, true, true, true, true, true, true, true, true, true, true] [(0, true), (1, true), (2, true), (3, true), (4, true), (5, true), (6, true), (7, true), (8, true), (9, true), (10, true), (11, true), (12, true), (13, false), (14, true), (15, true), (16, true)] (by kernel_rfl) (by kernel_rfl) (fun _ _ d _ _ h => by first | (cases d <;> exact h) | cases h.1) ((Below.refl X.heap.size X).drew) ?_
          have HB := (Below.refl X.heap.size X).drew
          iterate 4 (refine seg_take (v := ?_) rfl (Or.inl ⟨by rfl, ?_⟩) ?_; rotate_left; (focus (intro w' hw'; have j7 := (hw'.cell (p := ⟨wo.heap.size, 7, none⟩) lq).trans cq; go_simp <;> with_reducible rfl)); try simp only [Act.put, List.setIfInBounds_toArray, List.set_cons_zero, List.set_cons_succ])
          iterate 7 ((first | refine seg_take (v := undef) rfl (Or.inr ⟨by rfl, rfl⟩) ?_ | (refine seg_take (v := ?_) rfl (Or.inl ⟨by rfl, ?_⟩) ?_; rotate_left; (focus (intro w' hw'; have j7 := (hw'.cell (p := ⟨wo.heap.size, 7, none⟩) lq).trans cq; go_simp <;> with_reducible rfl)))); try simp only [Act.put, List.setIfInBounds_toArray, List.set_cons_zero, List.set_cons_succ])
          refine seg_take (v := .agg (nbA y)) rfl (Or.inl ⟨by rfl, fun w' hw' => ?_⟩) ?_
          focus (exact nbx_load rfl rfl (nb_runm HIN2.out hw'))
          try simp only [Act.put, List.setIfInBounds_toArray, List.set_cons_zero, List.set_cons_succ]
          refine seg_take (v := .agg (nbA x)) rfl (Or.inl ⟨by rfl, fun w' hw' => ?_⟩) ?_
          focus (exact nbx_load rfl rfl (nb_run q.out hw'))
          try simp only [Act.put, List.setIfInBounds_toArray, List.set_cons_zero, List.set_cons_succ]
          refine seg_run rfl (fun K hK => ?_)
          go_simp
          refine (HCM.out _).mono ?_
          rintro e_ wA ⟨rfl, hbA⟩
          have HB := below_then HB hbA
          refine hK.out _ _ (HB) ?_
          clear hK
          try simp only [Act.put, List.setIfInBounds_toArray, List.set_cons_zero, List.set_cons_succ]
          iterate 2 ((first | refine seg_take (v := undef) rfl (Or.inr ⟨by rfl, rfl⟩) ?_ | (refine seg_take (v := ?_) rfl (Or.inl ⟨by rfl, ?_⟩) ?_; rotate_left; (focus (intro w' hw'; have j7 := (hw'.cell (p := ⟨wo.heap.size, 7, none⟩) lq).trans cq; go_simp <;> with_reducible rfl)))); try simp only [Act.put, List.setIfInBounds_toArray, List.set_cons_zero, List.set_cons_succ])
          iterate 1 (refine seg_take (v := ?_) rfl (Or.inl ⟨by rfl, ?_⟩) ?_; rotate_left; (focus (intro w' hw'; have j7 := (hw'.cell (p := ⟨wo.heap.size, 7, none⟩) lq).trans cq; go_simp <;> with_reducible rfl)); try simp only [Act.put, List.setIfInBounds_toArray, List.set_cons_zero, List.set_cons_succ])
          refine seg_done (fun _ => ?_)
          refine wpAnyH_done (by kernel_rfl) ?_ _
          go_wp2_with fail
          go_roundw
          case rel => exact ⟨Kd + 1, by have := HK.out; omega, by go_num, ar_next HPp.out (by rw [HE4.out]; simp [hlt2]), below_then BX HB⟩
          case measure => have hkd := HK.out; simp [intOf]; omega
        · obtain ⟨z, hz, hz0⟩ : ∃ z, cmpN y.ip x.ip = z ∧ 0 ≤ z := ⟨_, rfl, by unfold cmpN; rw [if_neg hlt2]; split <;> decide⟩
          rw [hz] at HCM
          have d4 : decide (0 ≤ z) = true := decide_eq_true hz0
          obtain rfl : P = false := HF.out _ (fun h => (HI.out.1 h).2 Kd (by have := HK.out; omega)) (by rw [HE4.out]; simp [hlt2])
          clear hz
          go_wp2_with fail
          refine wp_region_seg (S := fun w' => Below X.heap.size X w') 0 #[true, true, true, true, true, true, true, true, true, true, true, true, true, true, true, true, true] [(0, true), (1, true), (2, true), (3, true), (4, true), (5, true), (6, true), (7, true), (8, true), (9, true), (10, true), (11, true), (12, true), (13, false), (14, true), (15, true), (16, true)] (by kernel_rfl) (by kernel_rfl) (fun _ _ d _ _ h => by first | (cases d <;> exact h) | cases h.1) ((Below.refl X.heap.size X).drew) ?_
          have HB := (Below.refl X.heap.size X).drew
          iterate 4 (refine seg_take (v := ?_) rfl (Or.inl ⟨by rfl, ?_⟩) ?_; rotate_left; (focus (intro w' hw'; have j7 := (hw'.cell (p := ⟨wo.heap.size, 7, none⟩) lq).trans cq; go_simp <;> with_reducible rfl)); try simp only [Act.put, List.setIfInBounds_toArray, List.set_cons_zero, List.set_cons_succ])
          iterate 7 ((first | refine seg_take (v := undef) rfl (Or.inr ⟨by rfl, rfl⟩) ?_ | (refine seg_take (v := ?_) rfl (Or.inl ⟨by rfl, ?_⟩) ?_; rotate_left; (focus (intro w' hw'; have j7 := (hw'.cell (p := ⟨wo.heap.size, 7, none⟩) lq).trans cq; go_simp <;> with_reducible rfl)))); try simp only [Act.put, List.setIfInBounds_toArray, List.set_cons_zero, List.set_cons_succ])
          refine seg_take (v := .agg (nbA y)) rfl (Or.inl ⟨by rfl, fun w' hw' => ?_⟩) ?_
          focus (exact nbx_load rfl rfl (nb_runm HIN2.out hw'))
          try simp only [Act.put, List.setIfInBounds_toArray, List.set_cons_zero, List.set_cons_succ]
          refine seg_take (v := .agg (nbA x)) rfl (Or.inl ⟨by rfl, fun w' hw' => ?_⟩) ?_
          focus (exact nbx_load rfl rfl (nb_run q.out hw'))
          try simp only [Act.put, List.setIfInBounds_toArray, List.set_cons_zero, List.set_cons_succ]
          refine seg_run rfl (fun K hK => ?_)
          go_simp
          refine (HCM.out _).mono ?_
          rintro e_ wA ⟨rfl, hbA⟩
          have HB := below_then HB hbA
          refine hK.out _ _ (HB) ?_
          clear hK
          try simp only [Act.put, List.setIfInBounds_toArray, List.set_cons_zero, List.set_cons_succ]
          iterate 2 ((first | refine seg_take (v := undef) rfl (Or.inr ⟨by rfl, rfl⟩) ?_ | (refine seg_take (v := ?_) rfl (Or.inl ⟨by rfl, ?_⟩) ?_; rotate_left; (focus (intro w' hw'; have j7 := (hw'.cell (p := ⟨wo.heap.size, 7, none⟩) lq).trans cq; go_simp <;> with_reducible rfl)))); try simp only [Act.put, List.setIfInBounds_toArray, List.set_cons_zero, List.set_cons_succ])
          iterate 1 (refine seg_take (v := ?_) rfl (Or.inl ⟨by rfl, ?_⟩) ?_; rotate_left; (focus (intro w' hw'; have j7 := (hw'.cell (p := ⟨wo.heap.size, 7, none⟩) lq).trans cq; go_simp <;> with_reducible rfl)); try simp only [Act.put, List.setIfInBounds_toArray, List.set_cons_zero, List.set_cons_succ])
          refine seg_done (fun _ => ?_)
          refine wpAnyH_done (by kernel_rfl) ?_ _
          go_wp2_with fail
          go_ret
          exact ⟨rfl, below_then BX HB⟩
    · have d2 : decide ((1099511627776 : Int) < (x.t : Int)) = true := decide_eq_true (by omega)
      obtain rfl : P = false := HF.out _ (fun h => (HI.out.1 h).2 k hlt) (by rw [HE.out]; simp [ht])
      go_wp2_with fail
      refine wp_region_seg (S := fun w' => Below X.heap.size X w') 0 #[true, true, true, true, true, true, true, true, true, true, true, true, true, true, true, true, true] [(0, true), (1, true), (2, true), (3, true), (4, true), (5, true), (6, true), (7, true), (8, true), (9, true), (10, true), (11, true), (12, true), (13, false), (14, true), (15, true), (16, true)] (by kernel_rfl) (by kernel_rfl) (fun _ _ d _ _ h => by first | (cases d <;> exact h) | cases h.1) ((Below.refl X.heap.size X).drew) ?_
      have HB := (Below.refl X.heap.size X).drew
      iterate 4 (refine seg_take (v := ?_) rfl (Or.inl ⟨by rfl, ?_⟩) ?_; rotate_left; (focus (intro w' hw'; have j7 := (hw'.cell (p := ⟨wo.heap.size, 7, none⟩) lq).trans cq; go_simp <;> with_reducible rfl)); try simp only [Act.put, List.setIfInBounds_toArray, List.set_cons_zero, List.set_cons_succ])
      iterate 9 ((first | refine seg_take (v := undef) rfl (Or.inr ⟨by rfl, rfl⟩) ?_ | (refine seg_take (v := ?_) rfl (Or.inl ⟨by rfl, ?_⟩) ?_; rotate_left; (focus (intro w' hw'; have j7 := (hw'.cell (p := ⟨wo.heap.size, 7, none⟩) lq).trans cq; go_simp <;> with_reducible rfl)))); try simp only [Act.put, List.setIfInBounds_toArray, List.set_cons_zero, List.set_cons_succ])
      refine seg_run rfl (fun K hK => ?_)
      go_simp
      refine hK.out _ _ (HB) ?_
      clear hK
      try simp only [Act.put, List.setIfInBounds_toArray, List.set_cons_zero, List.set_cons_succ]
      iterate 2 ((first | refine seg_take (v := undef) rfl (Or.inr ⟨by rfl, rfl⟩) ?_ | (refine seg_take (v := ?_) rfl (Or.inl ⟨by rfl, ?_⟩) ?_; rotate_left; (focus (intro w' hw'; have j7 := (hw'.cell (p := ⟨wo.heap.size, 7, none⟩) lq).trans cq; go_simp <;> with_reducible rfl)))); try simp only [Act.put, List.setIfInBounds_toArray, List.set_cons_zero, List.set_cons_succ])
      iterate 1 (refine seg_take (v := ?_) rfl (Or.inl ⟨by rfl, ?_⟩) ?_; rotate_left; (focus (intro w' hw'; have j7 := (hw'.cell (p := ⟨wo.heap.size, 7, none⟩) lq).trans cq; go_simp <;> with_reducible rfl)); try simp only [Act.put, List.setIfInBounds_toArray, List.set_cons_zero, List.set_cons_succ])
      refine seg_done (fun _ => ?_)
      refine wpAnyH_done (by kernel_rfl) ?_ _
      go_wp2_with fail
      go_ret
      exact ⟨rfl, below_then BX HB⟩
  · obtain rfl : n = k := by omega
    have HQ : Hid (P = decide (n ≤ 8)) := by
      by_cases h1 : n ≤ 8
      · rw [decide_eq_true h1]; exact Lib.hid (HI.out.2 ⟨h1, HPp.out⟩)
      · rw [decide_eq_false h1]; exact Lib.hid (HF.out _ (fun h => (HI.out.1 h).1) h1)
    by_cases h1 : n ≤ 8
    · obtain rfl : P = true := by rw [HQ.out]; exact decide_eq_true h1
      have d1 : decide ((n : Int) ≤ 8) = true := decide_eq_true (by omega)
      go_wp2_with fail
      go_ret
      exact ⟨by simp, hB⟩
    · obtain rfl : P = false := by rw [HQ.out]; exact decide_eq_false h1
      have d1 : decide ((n : Int) ≤ 8) = false := decide_eq_false (by omega)
      go_wp2_with fail
      go_ret
      exact ⟨by simp, hB⟩
end Go.Proofs.Ytnfepikgbdeomaa
