/-
  Layer 5: disks (the document): Few, Check, Same (of equal ones); a sector full of a byte.
-/
import Derived.Test.YteajboafcjeagaaDskB
import Derived.Test.YteajboafcjeagaaPlanT
import Derived.Test.YteajboafcjeagaaPlanZ
import Derived.Test.YteajboafcjeagaaAppZ
namespace Go.Proofs.Yteajboafcjeagaa
set_option maxRecDepth 20000
open Go.RowKit
set_option linter.unusedVariables false
set_option linter.unusedSimpArgs false
set_option maxHeartbeats 4000000

theorem dkFew_iff (D : Dk) : dkFew D = true ↔ D.s.length ≤ 300 ∧ D.k.length ≤ 600 ∧ (∀ j, j < D.s.length → (D.s.getD j []).length ≤ 600) ∧ (∀ j, j < D.k.length → (D.k.getD j (0, [])).2.length ≤ 600) := by
  unfold dkFew
  rw [Bool.and_eq_true, Bool.and_eq_true, Bool.and_eq_true, all_getD D.s _ [], all_getD D.k _ (0, [])]
  simp only [decide_eq_true_eq, and_assoc]
theorem dkOk_iff2 (D : Dk) : dkOk D = true ↔ D.s.length ≤ 256 ∧ D.k.length ≤ 512 ∧ (∀ j, j < D.s.length → (D.s.getD j []).length = 256) ∧ (∀ j, j < D.k.length → wLost D.s.length (D.k.getD j (0, [])).1 (D.k.getD j (0, [])).2.length = false) := by
  unfold dkOk
  rw [Bool.and_eq_true, Bool.and_eq_true, Bool.and_eq_true, all_getD D.s _ [], all_getD D.k _ (0, [])]
  have e : ∀ p : Int × List UInt8, ((dkHas D p.1 && decide (p.2.length = 256)) = true) ↔ wLost D.s.length p.1 p.2.length = false := fun p => by
    unfold wLost dkHas
    cases decide (0 ≤ p.1) <;> cases decide (p.1 < (D.s.length : Int)) <;> cases decide (p.2.length = 256) <;> simp
  simp only [decide_eq_true_eq, and_assoc, e]
def LpI (V : World) (n : Nat) (p : Nat → Prop) (v : Value) (wr : World) : Prop := ∃ k : Nat, k ≤ n ∧ v = .int .i64 (k : Int) ∧ (∀ j, j < k → p j) ∧ Below V.heap.size V wr
theorem lp_next {k : Nat} {p : Nat → Prop} (h : ∀ j, j < k → p j) (hk : p k) : ∀ j, j < k + 1 → p j := fun j hj => by
  rcases Nat.lt_or_ge j k with h1 | h1
  · exact h j h1
  · obtain rfl : j = k := by omega
    exact hk
theorem refDskFew_any (S : Option Addr) (sn sc : Nat) (K : Option Addr) (kn kc : Nat) (D : Dk) (w : World) (hr : RdDk w S sn sc K kn kc D) :
    Calls Try.prog 9 #[.agg #[.slice S sn sc, .slice K kn kc]] w (RetV w (.bool (dkFew D))) := by
  obtain ⟨hn1, hn2, _, _, _, _⟩ := hr.n63
  have hsl := hr.sl
  have hkl := hr.kl
  obtain ⟨V, hV⟩ : ∃ V, V = w.alloc (.cells #[.slice S sn sc, .slice K kn kc] 25) := ⟨_, rfl⟩
  have bV : Below w.heap.size w V := by rw [hV]; exact (below_self w).alloc (Nat.le_refl _) _
  have qV : Hid (DkAt V w.heap.size S sn sc K kn kc) := by rw [hV]; exact Lib.hid (drw_at _ rfl)
  have HV := Lib.hid hV
  clear hV
  have hI := dkFew_iff D
  rw [hsl, hkl] at hI
  have HI := Lib.hid hI
  obtain ⟨P, hP⟩ : ∃ P, dkFew D = P := ⟨_, rfl⟩
  rw [hP] at HI ⊢
  have hF : ∀ (Q : Prop), (P = true → Q) → ¬ Q → P = false := fun Q h1 h2 => by
    cases P with
    | false => rfl
    | true => exact absurd (h1 rfl) h2
  have HF := Lib.hid hF
  have HSL := Lib.hid hsl
  have HKL := Lib.hid hkl
  clear hI hP hF hsl hkl
  by_cases h1 : sn ≤ 300
  · by_cases h2 : kn ≤ 600
    · have d1 : decide ((300 : Int) < (sn : Int)) = false := decide_eq_false (by omega)
      have d2 : decide ((600 : Int) < (kn : Int)) = false := decide_eq_false (by omega)
      obtain ⟨⟨vs, hs⟩, us, hk⟩ := hr.below bV
      go_enter Try.func9, Try.ntmps9
      go_wp2_with fail
      rw [← HV.out]
      go_loopw [3] (LpI V sn (fun j => (D.s.getD j []).length ≤ 600)) (fun i _ => sn - (intOf i).toNat)
      case atStart => exact ⟨0, by omega, rfl, fun j hj => by omega, Below.refl _ _⟩
      case round =>
      obtain ⟨k, hkk, rfl, hp, hB⟩ := hrel
      have HPp := Lib.hid hp
      have j0 := (qV.out.up hB).c0
      have j1 := (qV.out.up hB).c1
      clear hp
      by_cases hlt : k < sn
      · obtain ⟨b, o, B, m, d, rfl, hb, hc, hy⟩ := (hs.below hB).at_ k hlt
        have hm := hy.n63
        have HM := Lib.hid hy.2.1
        by_cases hg : m ≤ 600
        · have d3 : decide ((600 : Int) < (m : Int)) = false := decide_eq_false (by omega)
          go_wp2_with fail
          go_roundw
          case rel => exact ⟨k + 1, by omega, by go_num, lp_next HPp.out (by rw [HM.out]; exact hg), hB⟩
          case measure => simp [intOf]; omega
        · have d3 : decide ((600 : Int) < (m : Int)) = true := decide_eq_true (by omega)
          rw [HF.out _ (fun h => (HI.out.1 h).2.2.1 k hlt) (by rw [HM.out]; exact hg)]
          go_wp2_with fail
          go_ret
          exact ⟨rfl, below_then bV hB⟩
      obtain rfl : sn = k := by omega
      obtain ⟨W1, hW1⟩ : ∃ W : World, W = wr := ⟨_, rfl⟩
      rw [← hW1] at hB j0 j1 ⊢
      clear hW1
      go_wp2_with fail
      go_loopw [4] (LpI V kn (fun j => (D.k.getD j (0, [])).2.length ≤ 600)) (fun i _ => kn - (intOf i).toNat)
      case atStart => exact ⟨0, by omega, rfl, fun j hj => by omega, hB⟩
      case round =>
      obtain ⟨i, hi, rfl, hp, hB⟩ := hrel
      have HPq := Lib.hid hp
      have j0 := (qV.out.up hB).c0
      have j1 := (qV.out.up hB).c1
      clear hp
      by_cases hlt : i < kn
      · obtain ⟨b, o, B, m, d, rfl, hb, hc0, hc1, hy, hrg⟩ := (hk.below hB).at_ i hlt
        have hm := hy.n63
        have HM := Lib.hid hy.2.1
        by_cases hg : m ≤ 600
        · have d3 : decide ((600 : Int) < (m : Int)) = false := decide_eq_false (by omega)
          go_wp2_with fail
          go_roundw
          case rel => exact ⟨i + 1, by omega, by go_num, lp_next HPq.out (by rw [HM.out]; exact hg), hB⟩
          case measure => simp [intOf]; omega
        · have d3 : decide ((600 : Int) < (m : Int)) = true := decide_eq_true (by omega)
          rw [HF.out _ (fun h => (HI.out.1 h).2.2.2 i hlt) (by rw [HM.out]; exact hg)]
          go_wp2_with fail
          go_ret
          exact ⟨rfl, below_then bV hB⟩
      obtain rfl : kn = i := by omega
      go_wp2_with fail
      go_ret
      exact ⟨by rw [HI.out.2 ⟨h1, h2, HPp.out, fun j hj => by have := HPq.out j hj; first | exact this | rwa [HSL.out] at this⟩]; rfl, below_then bV hB⟩
    · have d1 : decide ((300 : Int) < (sn : Int)) = false := decide_eq_false (by omega)
      have d2 : decide ((600 : Int) < (kn : Int)) = true := decide_eq_true (by omega)
      rw [HF.out _ (fun h => (HI.out.1 h).2.1) h2]
      go_enter Try.func9, Try.ntmps9
      go_wp2_with fail
      rw [← HV.out]
      go_ret
      exact ⟨rfl, bV⟩
  · have d1 : decide ((300 : Int) < (sn : Int)) = true := decide_eq_true (by omega)
    rw [HF.out _ (fun h => (HI.out.1 h).1) h1]
    go_enter Try.func9, Try.ntmps9
    go_wp2_with fail
    rw [← HV.out]
    go_ret
    exact ⟨rfl, bV⟩
theorem refDskCheck_any (S : Option Addr) (sn sc : Nat) (K : Option Addr) (kn kc : Nat) (D : Dk) (w : World) (hr : RdDk w S sn sc K kn kc D) :
    Calls Try.prog 10 #[.agg #[.slice S sn sc, .slice K kn kc]] w (RetV w (.bool (dkOk D))) := by
  obtain ⟨hn1, hn2, _, _, _, _⟩ := hr.n63
  have hsl := hr.sl
  have hkl := hr.kl
  obtain ⟨V, hV⟩ : ∃ V, V = w.alloc (.cells #[.slice S sn sc, .slice K kn kc] 25) := ⟨_, rfl⟩
  have bV : Below w.heap.size w V := by rw [hV]; exact (below_self w).alloc (Nat.le_refl _) _
  have qV : Hid (DkAt V w.heap.size S sn sc K kn kc) := by rw [hV]; exact Lib.hid (drw_at _ rfl)
  have HV := Lib.hid hV
  clear hV
  have hI := dkOk_iff2 D
  rw [hsl, hkl] at hI
  have HI := Lib.hid hI
  obtain ⟨P, hP⟩ : ∃ P, dkOk D = P := ⟨_, rfl⟩
  rw [hP] at HI ⊢
  have hF : ∀ (Q : Prop), (P = true → Q) → ¬ Q → P = false := fun Q h1 h2 => by
    cases P with
    | false => rfl
    | true => exact absurd (h1 rfl) h2
  have HF := Lib.hid hF
  have HSL := Lib.hid hsl
  have HKL := Lib.hid hkl
  clear hI hP hF hsl hkl
  by_cases h1 : sn ≤ 256
  · by_cases h2 : kn ≤ 512
    · have d1 : decide ((256 : Int) < (sn : Int)) = false := decide_eq_false (by omega)
      have d2 : decide ((512 : Int) < (kn : Int)) = false := decide_eq_false (by omega)
      obtain ⟨⟨vs, hs⟩, us, hk⟩ := hr.below bV
      go_enter Try.func10, Try.ntmps10
      go_wp2_with fail
      rw [← HV.out]
      go_loopw [3] (LpI V sn (fun j => (D.s.getD j []).length = 256)) (fun i _ => sn - (intOf i).toNat)
      case atStart => exact ⟨0, by omega, rfl, fun j hj => by omega, Below.refl _ _⟩
      case round =>
      obtain ⟨k, hkk, rfl, hp, hB⟩ := hrel
      have HPp := Lib.hid hp
      have j0 := (qV.out.up hB).c0
      have j1 := (qV.out.up hB).c1
      clear hp
      by_cases hlt : k < sn
      · obtain ⟨b, o, B, m, d, rfl, hb, hc, hy⟩ := (hs.below hB).at_ k hlt
        have hm := hy.n63
        have HM := Lib.hid hy.2.1
        by_cases hg : m = 256
        · have d3 : ((m : Int) != 256) = false := by simp [hg]
          go_wp2_with fail
          go_roundw
          case rel => exact ⟨k + 1, by omega, by go_num, lp_next HPp.out (by rw [HM.out]; exact hg), hB⟩
          case measure => simp [intOf]; omega
        · have d3 : ((m : Int) != 256) = true := by rw [bne_iff_ne]; omega
          rw [HF.out _ (fun h => (HI.out.1 h).2.2.1 k hlt) (by rw [HM.out]; exact hg)]
          go_wp2_with fail
          go_ret
          exact ⟨rfl, below_then bV hB⟩
      obtain rfl : sn = k := by omega
      obtain ⟨W1, hW1⟩ : ∃ W : World, W = wr := ⟨_, rfl⟩
      rw [← hW1] at hB j0 j1 ⊢
      clear hW1
      go_wp2_with fail
      go_loopw [4] (LpI V kn (fun j => wLost D.s.length (D.k.getD j (0, [])).1 (D.k.getD j (0, [])).2.length = false)) (fun i _ => kn - (intOf i).toNat)
      case atStart => exact ⟨0, by omega, rfl, fun j hj => by omega, hB⟩
      case round =>
      obtain ⟨i, hi, rfl, hp, hB⟩ := hrel
      have HPq := Lib.hid hp
      have j0 := (qV.out.up hB).c0
      have j1 := (qV.out.up hB).c1
      clear hp
      by_cases hlt : i < kn
      · obtain ⟨b, o, B, m, d, rfl, hb, hc0, hc1, hy, hrg⟩ := (hk.below hB).at_ i hlt
        have hm := hy.n63
        have HM := Lib.hid hy.2.1
        obtain ⟨a, ha⟩ : ∃ a, (D.k.getD i (0, [])).1 = a := ⟨_, rfl⟩
        rw [ha] at hc0 hrg
        have HA := Lib.hid ha
        have H := Lib.hid (fun W => refDskHas_any S sn sc (some ⟨b, o, none⟩) kn kc a W hn1 hrg)
        have HLo : wLost sn (D.k.getD i (0, [])).1 (D.k.getD i (0, [])).2.length = (!(decide (0 ≤ a) && decide (a < (sn : Int))) || !decide (m = 256)) := by rw [HM.out, ha]; rfl
        have HLO := Lib.hid HLo
        have lq := (qV.out.up hB).lt
        have hbb := hb
        clear ha HLo
        obtain ⟨T, hT⟩ : ∃ T, (decide (0 ≤ a) && decide (a < (sn : Int))) = T := ⟨_, rfl⟩
        rw [hT] at H HLO
        clear hT
        go_wp2_with fail
        cases T with
        | false =>
          have HPF := Lib.hid (HF.out _ (fun h => (HI.out.1 h).2.2.2 i hlt) (by rw [HLO.out]; simp))
          refine wp_region_seg (S := fun w' => Below wr.heap.size wr w') 0 #[true, true, true, true, true, true, true, true, true, true, true, true, true, true, true, true, true, true, true] [(0, true), (1, true), (2, true), (3, true), (4, true), (5, true), (6, true), (7, false), (8, true), (9, true), (10, true), (11, true), (12, true), (13, true), (14, true), (15, true), (16, true), (17, true), (18, true)] (by kernel_rfl) (by kernel_rfl) (fun _ _ d _ _ h => by first | (cases d <;> exact h) | cases h.1) ((Below.refl wr.heap.size wr).drew) ?_
          have HB := (Below.refl wr.heap.size wr).drew
          iterate 7 (refine seg_take (v := ?_) rfl (Or.inl ⟨by rfl, ?_⟩) ?_; rotate_left; (focus (intro w' hw'; have k0 := (hw'.cell (p := ⟨w.heap.size, 0, none⟩) lq).trans j0; have k1 := (hw'.cell (p := ⟨w.heap.size, 1, none⟩) lq).trans j1; have k2 := (hw'.cell (p := ⟨b, o + i * 2, none⟩) hb).trans hc0; have k3 := (hw'.cell (p := ⟨b, o + i * 2 + 1, none⟩) hb).trans hc1; go_simp <;> with_reducible rfl)); try simp only [Act.put, List.setIfInBounds_toArray, List.set_cons_zero, List.set_cons_succ])
          refine seg_run rfl (fun K hK => ?_)
          go_simp
          refine (H.out _).mono ?_
          rintro e w2 ⟨rfl, hb2⟩
          have HB := below_then HB hb2
          refine hK.out _ _ (HB) ?_
          clear hK
          try simp only [Act.put, List.setIfInBounds_toArray, List.set_cons_zero, List.set_cons_succ]
          iterate 2 (refine seg_take (v := ?_) rfl (Or.inl ⟨by rfl, ?_⟩) ?_; rotate_left; (focus (intro w' hw'; have k0 := (hw'.cell (p := ⟨w.heap.size, 0, none⟩) lq).trans j0; have k1 := (hw'.cell (p := ⟨w.heap.size, 1, none⟩) lq).trans j1; have k2 := (hw'.cell (p := ⟨b, o + i * 2, none⟩) hb).trans hc0; have k3 := (hw'.cell (p := ⟨b, o + i * 2 + 1, none⟩) hb).trans hc1; go_simp <;> with_reducible rfl)); try simp only [Act.put, List.setIfInBounds_toArray, List.set_cons_zero, List.set_cons_succ])
          iterate 8 ((first | refine seg_take (v := undef) rfl (Or.inr ⟨by rfl, rfl⟩) ?_ | (refine seg_take (v := ?_) rfl (Or.inl ⟨by rfl, ?_⟩) ?_; rotate_left; (focus (intro w' hw'; have k0 := (hw'.cell (p := ⟨w.heap.size, 0, none⟩) lq).trans j0; have k1 := (hw'.cell (p := ⟨w.heap.size, 1, none⟩) lq).trans j1; have k2 := (hw'.cell (p := ⟨b, o + i * 2, none⟩) hb).trans hc0; have k3 := (hw'.cell (p := ⟨b, o + i * 2 + 1, none⟩) hb).trans hc1; go_simp <;> with_reducible rfl)))); try simp only [Act.put, List.setIfInBounds_toArray, List.set_cons_zero, List.set_cons_succ])
          iterate 1 (refine seg_take (v := ?_) rfl (Or.inl ⟨by rfl, ?_⟩) ?_; rotate_left; (focus (intro w' hw'; have k0 := (hw'.cell (p := ⟨w.heap.size, 0, none⟩) lq).trans j0; have k1 := (hw'.cell (p := ⟨w.heap.size, 1, none⟩) lq).trans j1; have k2 := (hw'.cell (p := ⟨b, o + i * 2, none⟩) hb).trans hc0; have k3 := (hw'.cell (p := ⟨b, o + i * 2 + 1, none⟩) hb).trans hc1; go_simp <;> with_reducible rfl)); try simp only [Act.put, List.setIfInBounds_toArray, List.set_cons_zero, List.set_cons_succ])
          refine seg_done (fun _ => ?_)
          refine wpAnyH_done (by kernel_rfl) ?_ _
          go_wp2_with fail
          go_ret
          exact ⟨by rw [HPF.out]; rfl, below_then (below_then bV hB) HB⟩
        | true =>
          by_cases hg : m = 256
          · have d3 : ((m : Int) != 256) = false := by simp [hg]
            refine wp_region_seg (S := fun w' => Below wr.heap.size wr w') 0 #[true, true, true, true, true, true, true, true, true, true, true, true, true, true, true, true, true, true, true] [(0, true), (1, true), (2, true), (3, true), (4, true), (5, true), (6, true), (7, false), (8, true), (9, true), (10, true), (11, true), (12, true), (13, true), (14, true), (15, true), (16, true), (17, true), (18, true)] (by kernel_rfl) (by kernel_rfl) (fun _ _ d _ _ h => by first | (cases d <;> exact h) | cases h.1) ((Below.refl wr.heap.size wr).drew) ?_
            have HB := (Below.refl wr.heap.size wr).drew
            iterate 7 (refine seg_take (v := ?_) rfl (Or.inl ⟨by rfl, ?_⟩) ?_; rotate_left; (focus (intro w' hw'; have k0 := (hw'.cell (p := ⟨w.heap.size, 0, none⟩) lq).trans j0; have k1 := (hw'.cell (p := ⟨w.heap.size, 1, none⟩) lq).trans j1; have k2 := (hw'.cell (p := ⟨b, o + i * 2, none⟩) hb).trans hc0; have k3 := (hw'.cell (p := ⟨b, o + i * 2 + 1, none⟩) hb).trans hc1; go_simp <;> with_reducible rfl)); try simp only [Act.put, List.setIfInBounds_toArray, List.set_cons_zero, List.set_cons_succ])
            refine seg_run rfl (fun K hK => ?_)
            go_simp
            refine (H.out _).mono ?_
            rintro e w2 ⟨rfl, hb2⟩
            have HB := below_then HB hb2
            refine hK.out _ _ (HB) ?_
            clear hK
            try simp only [Act.put, List.setIfInBounds_toArray, List.set_cons_zero, List.set_cons_succ]
            iterate 2 (refine seg_take (v := ?_) rfl (Or.inl ⟨by rfl, ?_⟩) ?_; rotate_left; (focus (intro w' hw'; have k0 := (hw'.cell (p := ⟨w.heap.size, 0, none⟩) lq).trans j0; have k1 := (hw'.cell (p := ⟨w.heap.size, 1, none⟩) lq).trans j1; have k2 := (hw'.cell (p := ⟨b, o + i * 2, none⟩) hb).trans hc0; have k3 := (hw'.cell (p := ⟨b, o + i * 2 + 1, none⟩) hb).trans hc1; go_simp <;> with_reducible rfl)); try simp only [Act.put, List.setIfInBounds_toArray, List.set_cons_zero, List.set_cons_succ])
            iterate 8 ((first | refine seg_take (v := undef) rfl (Or.inr ⟨by rfl, rfl⟩) ?_ | (refine seg_take (v := ?_) rfl (Or.inl ⟨by rfl, ?_⟩) ?_; rotate_left; (focus (intro w' hw'; have k0 := (hw'.cell (p := ⟨w.heap.size, 0, none⟩) lq).trans j0; have k1 := (hw'.cell (p := ⟨w.heap.size, 1, none⟩) lq).trans j1; have k2 := (hw'.cell (p := ⟨b, o + i * 2, none⟩) hb).trans hc0; have k3 := (hw'.cell (p := ⟨b, o + i * 2 + 1, none⟩) hb).trans hc1; go_simp <;> with_reducible rfl)))); try simp only [Act.put, List.setIfInBounds_toArray, List.set_cons_zero, List.set_cons_succ])
            iterate 1 (refine seg_take (v := ?_) rfl (Or.inl ⟨by rfl, ?_⟩) ?_; rotate_left; (focus (intro w' hw'; have k0 := (hw'.cell (p := ⟨w.heap.size, 0, none⟩) lq).trans j0; have k1 := (hw'.cell (p := ⟨w.heap.size, 1, none⟩) lq).trans j1; have k2 := (hw'.cell (p := ⟨b, o + i * 2, none⟩) hb).trans hc0; have k3 := (hw'.cell (p := ⟨b, o + i * 2 + 1, none⟩) hb).trans hc1; go_simp <;> with_reducible rfl)); try simp only [Act.put, List.setIfInBounds_toArray, List.set_cons_zero, List.set_cons_succ])
            refine seg_done (fun _ => ?_)
            refine wpAnyH_done (by kernel_rfl) ?_ _
            go_wp2_with fail
            go_roundw
            case rel => exact ⟨i + 1, by omega, by go_num, lp_next HPq.out (by show wLost _ _ _ = false; rw [HSL.out, HLO.out, decide_eq_true hg]; rfl), below_then hB HB⟩
            case measure => simp [intOf]; omega
          · have d3 : ((m : Int) != 256) = true := by rw [bne_iff_ne]; omega
            have HPF := Lib.hid (HF.out _ (fun h => (HI.out.1 h).2.2.2 i hlt) (by rw [HLO.out, decide_eq_false hg]; simp))
            refine wp_region_seg (S := fun w' => Below wr.heap.size wr w') 0 #[true, true, true, true, true, true, true, true, true, true, true, true, true, true, true, true, true, true, true] [(0, true), (1, true), (2, true), (3, true), (4, true), (5, true), (6, true), (7, false), (8, true), (9, true), (10, true), (11, true), (12, true), (13, true), (14, true), (15, true), (16, true), (17, true), (18, true)] (by kernel_rfl) (by kernel_rfl) (fun _ _ d _ _ h => by first | (cases d <;> exact h) | cases h.1) ((Below.refl wr.heap.size wr).drew) ?_
            have HB := (Below.refl wr.heap.size wr).drew
            iterate 7 (refine seg_take (v := ?_) rfl (Or.inl ⟨by rfl, ?_⟩) ?_; rotate_left; (focus (intro w' hw'; have k0 := (hw'.cell (p := ⟨w.heap.size, 0, none⟩) lq).trans j0; have k1 := (hw'.cell (p := ⟨w.heap.size, 1, none⟩) lq).trans j1; have k2 := (hw'.cell (p := ⟨b, o + i * 2, none⟩) hb).trans hc0; have k3 := (hw'.cell (p := ⟨b, o + i * 2 + 1, none⟩) hb).trans hc1; go_simp <;> with_reducible rfl)); try simp only [Act.put, List.setIfInBounds_toArray, List.set_cons_zero, List.set_cons_succ])
            refine seg_run rfl (fun K hK => ?_)
            go_simp
            refine (H.out _).mono ?_
            rintro e w2 ⟨rfl, hb2⟩
            have HB := below_then HB hb2
            refine hK.out _ _ (HB) ?_
            clear hK
            try simp only [Act.put, List.setIfInBounds_toArray, List.set_cons_zero, List.set_cons_succ]
            iterate 2 (refine seg_take (v := ?_) rfl (Or.inl ⟨by rfl, ?_⟩) ?_; rotate_left; (focus (intro w' hw'; have k0 := (hw'.cell (p := ⟨w.heap.size, 0, none⟩) lq).trans j0; have k1 := (hw'.cell (p := ⟨w.heap.size, 1, none⟩) lq).trans j1; have k2 := (hw'.cell (p := ⟨b, o + i * 2, none⟩) hb).trans hc0; have k3 := (hw'.cell (p := ⟨b, o + i * 2 + 1, none⟩) hb).trans hc1; go_simp <;> with_reducible rfl)); try simp only [Act.put, List.setIfInBounds_toArray, List.set_cons_zero, List.set_cons_succ])
            iterate 8 ((first | refine seg_take (v := undef) rfl (Or.inr ⟨by rfl, rfl⟩) ?_ | (refine seg_take (v := ?_) rfl (Or.inl ⟨by rfl, ?_⟩) ?_; rotate_left; (focus (intro w' hw'; have k0 := (hw'.cell (p := ⟨w.heap.size, 0, none⟩) lq).trans j0; have k1 := (hw'.cell (p := ⟨w.heap.size, 1, none⟩) lq).trans j1; have k2 := (hw'.cell (p := ⟨b, o + i * 2, none⟩) hb).trans hc0; have k3 := (hw'.cell (p := ⟨b, o + i * 2 + 1, none⟩) hb).trans hc1; go_simp <;> with_reducible rfl)))); try simp only [Act.put, List.setIfInBounds_toArray, List.set_cons_zero, List.set_cons_succ])
            iterate 1 (refine seg_take (v := ?_) rfl (Or.inl ⟨by rfl, ?_⟩) ?_; rotate_left; (focus (intro w' hw'; have k0 := (hw'.cell (p := ⟨w.heap.size, 0, none⟩) lq).trans j0; have k1 := (hw'.cell (p := ⟨w.heap.size, 1, none⟩) lq).trans j1; have k2 := (hw'.cell (p := ⟨b, o + i * 2, none⟩) hb).trans hc0; have k3 := (hw'.cell (p := ⟨b, o + i * 2 + 1, none⟩) hb).trans hc1; go_simp <;> with_reducible rfl)); try simp only [Act.put, List.setIfInBounds_toArray, List.set_cons_zero, List.set_cons_succ])
            refine seg_done (fun _ => ?_)
            refine wpAnyH_done (by kernel_rfl) ?_ _
            go_wp2_with fail
            go_ret
            exact ⟨by rw [HPF.out]; rfl, below_then (below_then bV hB) HB⟩
      obtain rfl : kn = i := by omega
      go_wp2_with fail
      go_ret
      exact ⟨by rw [HI.out.2 ⟨h1, h2, HPp.out, fun j hj => by have := HPq.out j hj; first | exact this | rwa [HSL.out] at this⟩]; rfl, below_then bV hB⟩
    · have d1 : decide ((256 : Int) < (sn : Int)) = false := decide_eq_false (by omega)
      have d2 : decide ((512 : Int) < (kn : Int)) = true := decide_eq_true (by omega)
      rw [HF.out _ (fun h => (HI.out.1 h).2.1) h2]
      go_enter Try.func10, Try.ntmps10
      go_wp2_with fail
      rw [← HV.out]
      go_ret
      exact ⟨rfl, bV⟩
  · have d1 : decide ((256 : Int) < (sn : Int)) = true := decide_eq_true (by omega)
    rw [HF.out _ (fun h => (HI.out.1 h).1) h1]
    go_enter Try.func10, Try.ntmps10
    go_wp2_with fail
    rw [← HV.out]
    go_ret
    exact ⟨rfl, bV⟩
theorem refDskSame_self (S : Option Addr) (sn sc : Nat) (K : Option Addr) (kn kc : Nat) (S2 : Option Addr) (sn2 sc2 : Nat) (K2 : Option Addr) (kn2 kc2 : Nat) (D : Dk) (w : World) (hr : RdDk w S sn sc K kn kc D) (hr2 : RdDk w S2 sn2 sc2 K2 kn2 kc2 D) :
    Calls Try.prog 14 #[.agg #[.slice S sn sc, .slice K kn kc], .agg #[.slice S2 sn2 sc2, .slice K2 kn2 kc2]] w (RetV w (.bool true)) := by
  obtain ⟨hn1, hn2, _, _, _, _⟩ := hr.n63
  obtain rfl : sn = sn2 := by rw [← hr.sl, hr2.sl]
  obtain rfl : kn = kn2 := by rw [← hr.kl, hr2.kl]
  obtain ⟨V, hV⟩ : ∃ V, V = (w.alloc (.cells #[.slice S sn sc, .slice K kn kc] 25)).alloc (.cells #[.slice S2 sn sc2, .slice K2 kn kc2] 25) := ⟨_, rfl⟩
  have bV : Below w.heap.size w V := by rw [hV]; exact ((below_self w).alloc (Nat.le_refl _) _).alloc (by simp) _
  have qV : Hid (DkAt V w.heap.size S sn sc K kn kc) := by rw [hV]; exact Lib.hid (drw_old _ (drw_at _ rfl))
  have pV : Hid (DkAt V (w.heap.size + 1) S2 sn sc2 K2 kn kc2) := by rw [hV]; exact Lib.hid (drw_at _ (by simp))
  have HV := Lib.hid hV
  have t1 : ((sn : Int) != (sn : Int)) = false := by simp
  have t2 : ((kn : Int) != (kn : Int)) = false := by simp
  clear hV
  obtain ⟨⟨vs, hs⟩, us, hk⟩ := hr.below bV
  obtain ⟨⟨vs2, hs2⟩, us2, hk2⟩ := hr2.below bV
  go_enter Try.func14, Try.ntmps14
  go_wp2_with fail
  rw [← HV.out]
  go_loopw [5] (LpI V sn (fun _ => True)) (fun i _ => sn - (intOf i).toNat)
  case atStart => exact ⟨0, by omega, rfl, fun j hj => trivial, Below.refl _ _⟩
  case round =>
  obtain ⟨k, hkk, rfl, -, hB⟩ := hrel
  have j0 := (qV.out.up hB).c0
  have j1 := (qV.out.up hB).c1
  have i0 := (pV.out.up hB).c0
  have i1 := (pV.out.up hB).c1
  by_cases hlt : k < sn
  · obtain ⟨b, o, B, m, d, rfl, hb, hc, hy⟩ := (hs.below hB).at_ k hlt
    obtain ⟨b2, o2, B2, m2, d2, rfl, hb2, hc2, hy2⟩ := (hs2.below hB).at_ k hlt
    obtain ⟨Z, hZ⟩ : ∃ Z, D.s.getD k [] = Z := ⟨_, rfl⟩
    rw [hZ] at hy hy2
    have s1 := hy.drew.str
    have s2 := hy2.drew.str
    have s3 : ((strOf Z).toList != (strOf Z).toList) = false := by simp
    have l1 : (k : Int) < (sn : Int) := by omega
    clear hZ
    go_wp2_with fail
    refine wp_region_plan (S := fun w' => w' = wr.drew) [(0, true), (1, true), (2, true), (3, true), (4, true), (5, true), (6, true), (7, true), (8, true), (9, true), (10, true), (11, true), (12, true)] (by kernel_rfl) (by kernel_rfl) (fun _ _ d _ _ h => by cases d <;> exact h) (rfl) ?_
    iterate 13 (refine plan_take (v := ?_) rfl (Or.inl ⟨by rfl, ?_⟩) ?_; rotate_left; (focus (intro w' hw'; subst hw'; go_simp <;> with_reducible rfl)); try simp only [Act.put, List.setIfInBounds_toArray, List.set_cons_zero, List.set_cons_succ])
    refine plan_done ?_
    go_wp2_with fail
    go_roundw
    case rel => exact ⟨k + 1, by omega, by go_num, fun _ _ => trivial, hB.drew⟩
    case measure => simp [intOf]; omega
  obtain rfl : sn = k := by omega
  obtain ⟨W1, hW1⟩ : ∃ W : World, W = wr := ⟨_, rfl⟩
  rw [← hW1] at hB j0 j1 i0 i1 ⊢
  clear hW1
  go_wp2_with fail
  go_loopw [6] (LpI V kn (fun _ => True)) (fun i _ => kn - (intOf i).toNat)
  case atStart => exact ⟨0, by omega, rfl, fun j hj => trivial, hB⟩
  case round =>
  obtain ⟨i, hi, rfl, -, hB⟩ := hrel
  have j0 := (qV.out.up hB).c0
  have j1 := (qV.out.up hB).c1
  have i0 := (pV.out.up hB).c0
  have i1 := (pV.out.up hB).c1
  by_cases hlt : i < kn
  · obtain ⟨b, o, B, m, d, rfl, hb, hc0, hc1, hy, hrg⟩ := (hk.below hB).at_ i hlt
    obtain ⟨b2, o2, B2, m2, d2, rfl, hb2, hd0, hd1, hy2, _⟩ := (hk2.below hB).at_ i hlt
    obtain ⟨Z, hZ⟩ : ∃ Z, D.k.getD i (0, []) = Z := ⟨_, rfl⟩
    rw [hZ] at hy hy2 hc0 hd0
    obtain ⟨a, Z⟩ := Z
    simp only at hy hy2 hc0 hd0
    have s1 := hy.drew.str
    have s2 := hy2.drew.str
    have s3 : ((strOf Z).toList != (strOf Z).toList) = false := by simp
    have s4 : (a != a) = false := by simp
    have l1 : (i : Int) < (kn : Int) := by omega
    clear hZ
    go_wp2_with fail
    refine wp_region_plan (S := fun w' => w' = wr.drew) [(0, true), (1, true), (2, true), (3, true), (4, true), (5, true), (6, true), (7, true), (8, true), (9, true), (10, true), (11, true), (12, true), (13, true), (14, true), (15, true), (16, true), (17, true), (18, true), (19, true), (20, true), (21, true), (22, true), (23, true), (24, true), (25, true), (26, true), (27, true), (28, true), (29, true)] (by kernel_rfl) (by kernel_rfl) (fun _ _ d _ _ h => by cases d <;> exact h) (rfl) ?_
    iterate 14 (refine plan_take (v := ?_) rfl (Or.inl ⟨by rfl, ?_⟩) ?_; rotate_left; (focus (intro w' hw'; subst hw'; go_simp <;> with_reducible rfl)); try simp only [Act.put, List.setIfInBounds_toArray, List.set_cons_zero, List.set_cons_succ])
    iterate 15 ((first | refine plan_take (v := undef) rfl (Or.inr ⟨by rfl, rfl⟩) ?_ | (refine plan_take (v := ?_) rfl (Or.inl ⟨by rfl, ?_⟩) ?_; rotate_left; (focus (intro w' hw'; subst hw'; go_simp <;> with_reducible rfl)))); try simp only [Act.put, List.setIfInBounds_toArray, List.set_cons_zero, List.set_cons_succ])
    iterate 1 (refine plan_take (v := ?_) rfl (Or.inl ⟨by rfl, ?_⟩) ?_; rotate_left; (focus (intro w' hw'; subst hw'; go_simp <;> with_reducible rfl)); try simp only [Act.put, List.setIfInBounds_toArray, List.set_cons_zero, List.set_cons_succ])
    refine plan_done ?_
    go_wp2_with fail
    go_roundw
    case rel => exact ⟨i + 1, by omega, by go_num, fun _ _ => trivial, hB.drew⟩
    case measure => simp [intOf]; omega
  obtain rfl : kn = i := by omega
  go_wp2_with fail
  go_ret
  exact ⟨rfl, below_then bV hB⟩
end Go.Proofs.Yteajboafcjeagaa
