/-
  Layer 19: arp: BinarySearchFunc.
-/
import Derived.Test.YtnfepikgbdeomaaArpI
namespace Go.Proofs.Ytnfepikgbdeomaa
set_option maxRecDepth 20000
open Go.RowKit
set_option linter.unusedVariables false
set_option linter.unusedSimpArgs false
set_option maxHeartbeats 8000000

/-- Where it stands, or would, and whether it is there. -/
def RetS (w : World) (l : List Nb) (n ip : Nat) (e : Ending) (w' : World) : Prop := ∃ (p : Nat) (f : Bool), e = .returned (.tuple #[.int .i64 (p : Int), .bool f]) ∧ SPos l ip p ∧ (f = true → p < n ∧ (l.getD p nb0).ip = ip) ∧ (f = false → ∀ y ∈ l, y.ip ≠ ip) ∧ Below w.heap.size w w'
def SrI (V : World) (l : List Nb) (n ip : Nat) (v u : Value) (wr : World) : Prop := ∃ i j : Nat, i ≤ j ∧ j ≤ n ∧ v = .int .i64 (i : Int) ∧ u = .int .i64 (j : Int) ∧ (∀ k, k < i → (l.getD k nb0).ip < ip) ∧ (∀ k, j ≤ k → k < n → ip ≤ (l.getD k nb0).ip) ∧ Below V.heap.size V wr
theorem cmpN_lt (a b : Nat) : decide (cmpN a b < 0) = decide (a < b) := by
  unfold cmpN; split
  · rename_i h; simp [h]
  · rename_i h; split <;> simp [h]
theorem cmpN_eq (a b : Nat) : (cmpN a b == 0) = decide (a = b) := by
  unfold cmpN; split
  · rename_i h; simp; omega
  · split
    · rename_i h h2; simp; omega
    · rename_i h h2; simp; omega
set_option maxRecDepth 100000 in
theorem searchNb_any (A : Option Addr) (n c : Nat) (l : List Nb) (x : Nb) (w : World) (hr : RdNb w A n c l) (hS : NbS l) :
    Calls Try.prog 111 #[.slice A n c, .agg (nbA x), .func (.func 112) #[] #[]] w (RetS w l n x.ip) := by
  have hl := hr.2.1
  have hn8 : n ≤ 8 := by have := hS.len; omega
  obtain ⟨V, hV⟩ : ∃ V, V = w.alloc (.cells (nbA x) 109) := ⟨_, rfl⟩
  have bV : Below w.heap.size w V := by rw [hV]; exact (below_self w).alloc (Nat.le_refl _) _
  have qV : NbAt V w.heap.size x := by rw [hV]; exact drw_at _ rfl
  have HV := Lib.hid hV
  have HQ := Lib.hid qV
  have HL := Lib.hid hl
  have HR := Lib.hid hr
  have HS := Lib.hid hS
  clear hV qV hl hr hS
  go_enter Try.func111, Try.ntmps111
  go_wp2_with (rw [← HV.out])
  go_loopw [9, 10] (SrI V l n x.ip) (fun i j _ => (intOf j).toNat - (intOf i).toNat)
  case atStart => exact ⟨0, n, by omega, by omega, rfl, rfl, fun k hk => by omega, fun k h1 h2 => by omega, Below.refl _ _⟩
  case round =>
  obtain ⟨i, j, hij, hjn, rfl, rfl, h1, h2, hB⟩ := hrel
  have H1 := Lib.hid h1
  have H2 := Lib.hid h2
  have HB1 := Lib.hid (HQ.out.up hB)
  clear h1 h2
  by_cases hlt : i < j
  · have d1 : decide (i < j) = true := decide_eq_true hlt
    obtain ⟨Kd, hK⟩ : ∃ Kd : Nat, Kd = (i + j) / 2 := ⟨_, rfl⟩
    have e1 : ((i : Int) + (j : Int)) / 2 = (Kd : Int) := by omega
    have hKi : i ≤ Kd := by omega
    have hKj : Kd < j := by omega
    have hKn : Kd < n := by omega
    have lk : (Kd : Int) < (n : Int) := by omega
    obtain ⟨b, o, rfl, hb, hok, hin⟩ := (HR.out.below (below_then bV hB)).nb Kd hKn
    have hmono : ∀ k, k ≤ Kd → (l.getD k nb0).ip ≤ (l.getD Kd nb0).ip := fun k hk => HS.out.le hk (by rw [HL.out]; exact hKn)
    have hmono2 : ∀ k, Kd ≤ k → k < n → (l.getD Kd nb0).ip ≤ (l.getD k nb0).ip := fun k hk hk2 => HS.out.le hk (by rw [HL.out]; exact hk2)
    obtain ⟨y, hy⟩ : ∃ y, l.getD Kd nb0 = y := ⟨_, rfl⟩
    rw [hy] at hin hmono hmono2
    have HIN := Lib.hid hin
    have HM := Lib.hid hmono
    have HM2 := Lib.hid hmono2
    have HC := Lib.hid (fun W => byIP_any y x W)
    obtain ⟨z, hz⟩ : ∃ z, cmpN y.ip x.ip = z := ⟨_, rfl⟩
    have hzl := cmpN_lt y.ip x.ip
    rw [hz] at HC hzl
    have HZ := Lib.hid hzl
    clear hK hin hmono hmono2 hy hz hzl
    go_wp2_with fail
    clear e1
    refine wp_region_seg (S := fun w' => Below wr.heap.size wr w') 0 #[true, true, true, true, true, true, true, true] [(0, true), (1, true), (2, true), (3, true), (4, true), (5, true), (6, false), (7, true)] (by kernel_rfl) (by kernel_rfl) (fun _ _ d _ _ h => by first | (cases d <;> exact h) | cases h.1) ((Below.refl wr.heap.size wr).drew) ?_
    have HB := (Below.refl wr.heap.size wr).drew
    iterate 4 (refine seg_take (v := ?_) rfl (Or.inl ⟨by rfl, ?_⟩) ?_; rotate_left; (focus (intro w' hw'; go_simp <;> with_reducible rfl)); try simp only [Act.put, List.setIfInBounds_toArray, List.set_cons_zero, List.set_cons_succ])
    refine seg_take (v := .agg (nbA y)) rfl (Or.inl ⟨by rfl, fun w' hw' => ?_⟩) ?_
    focus (exact nbx_load rfl rfl (nb_runm HIN.out hw'))
    try simp only [Act.put, List.setIfInBounds_toArray, List.set_cons_zero, List.set_cons_succ]
    refine seg_take (v := .agg (nbA x)) rfl (Or.inl ⟨by rfl, fun w' hw' => ?_⟩) ?_
    focus (exact nbx_load rfl rfl (nb_run HB1.out hw'))
    try simp only [Act.put, List.setIfInBounds_toArray, List.set_cons_zero, List.set_cons_succ]
    refine seg_run rfl (fun K hK => ?_)
    go_simp
    refine (HC.out _).mono ?_
    rintro e_ wA ⟨rfl, hbA⟩
    have HB := below_then HB hbA
    refine hK.out _ _ (HB) ?_
    clear hK
    try simp only [Act.put, List.setIfInBounds_toArray, List.set_cons_zero, List.set_cons_succ]
    iterate 1 (refine seg_take (v := ?_) rfl (Or.inl ⟨by rfl, ?_⟩) ?_; rotate_left; (focus (intro w' hw'; go_simp <;> with_reducible rfl)); try simp only [Act.put, List.setIfInBounds_toArray, List.set_cons_zero, List.set_cons_succ])
    refine seg_done (fun _ => ?_)
    refine wpAnyH_done (by kernel_rfl) ?_ _
    by_cases hc : y.ip < x.ip
    · have d2 : decide (z < 0) = true := by rw [HZ.out]; exact decide_eq_true hc
      have d3 : z < 0 := of_decide_eq_true d2
      go_wp2_with fail
      go_roundw
      case rel => exact ⟨Kd + 1, j, by omega, hjn, by go_num, rfl, fun k hk => Nat.lt_of_le_of_lt (HM.out k (by omega)) hc, H2.out, below_then hB HB⟩
      case measure => simp [intOf]; omega
    · have d2 : decide (z < 0) = false := by rw [HZ.out]; exact decide_eq_false hc
      have d3 : 0 ≤ z := by have := of_decide_eq_false d2; omega
      go_wp2_with fail
      go_roundw
      case rel => exact ⟨i, Kd, by omega, by omega, rfl, rfl, H1.out, fun k h1 h2 => Nat.le_trans (by omega) (HM2.out k h1 h2), below_then hB HB⟩
      case measure => simp [intOf]; omega
  · obtain rfl : i = j := by omega
    have HP : Hid (SPos l x.ip i) := Lib.hid (spos_of (by rw [HL.out]; exact hjn) H1.out (fun k h1 h2 => H2.out k h1 (by rw [HL.out] at h2; exact h2)))
    by_cases hin : i < n
    · have d3 : decide (i < n) = true := decide_eq_true hin
      have d4 : decide ((i : Int) < (n : Int)) = true := decide_eq_true (by omega)
      have lk : (i : Int) < (n : Int) := by omega
      obtain ⟨b, o, rfl, hb, hok, hin1⟩ := (HR.out.below (below_then bV hB)).nb i hin
      have hgi : l[i]? = some (l.getD i nb0) := by rw [List.getD, List.getElem?_eq_getElem (by rw [HL.out]; exact hin)]; rfl
      obtain ⟨y, hy⟩ : ∃ y, l.getD i nb0 = y := ⟨_, rfl⟩
      rw [hy] at hin1 hgi
      have HIN := Lib.hid hin1
      have HGI := Lib.hid hgi
      have HY := Lib.hid hy
      have HC := Lib.hid (fun W => byIP_any y x W)
      obtain ⟨z, hz⟩ : ∃ z, cmpN y.ip x.ip = z := ⟨_, rfl⟩
      have hzl := cmpN_eq y.ip x.ip
      rw [hz] at HC hzl
      obtain ⟨F, hF⟩ : ∃ F, decide (y.ip = x.ip) = F := ⟨_, rfl⟩
      rw [hF] at hzl
      have HF := Lib.hid hF
      clear hin1 hgi hy hz hF
      go_wp2_with fail
      refine wp_region_seg (S := fun w' => Below wr.heap.size wr w') 0 #[true, true, true, true, true, true, true, true, true, true, true, true, true, true, true, true] [(0, true), (1, true), (2, true), (3, true), (4, true), (5, true), (6, true), (7, true), (8, true), (9, true), (10, true), (11, false), (12, true), (13, true), (14, true), (15, true)] (by kernel_rfl) (by kernel_rfl) (fun _ _ d _ _ h => by first | (cases d <;> exact h) | cases h.1) ((Below.refl wr.heap.size wr).drew) ?_
      have HB := (Below.refl wr.heap.size wr).drew
      iterate 5 (refine seg_take (v := ?_) rfl (Or.inl ⟨by rfl, ?_⟩) ?_; rotate_left; (focus (intro w' hw'; go_simp <;> with_reducible rfl)); try simp only [Act.put, List.setIfInBounds_toArray, List.set_cons_zero, List.set_cons_succ])
      iterate 4 ((first | refine seg_take (v := undef) rfl (Or.inr ⟨by rfl, rfl⟩) ?_ | (refine seg_take (v := ?_) rfl (Or.inl ⟨by rfl, ?_⟩) ?_; rotate_left; (focus (intro w' hw'; go_simp <;> with_reducible rfl)))); try simp only [Act.put, List.setIfInBounds_toArray, List.set_cons_zero, List.set_cons_succ])
      refine seg_take (v := .agg (nbA y)) rfl (Or.inl ⟨by rfl, fun w' hw' => ?_⟩) ?_
      focus (exact nbx_load rfl rfl (nb_runm HIN.out hw'))
      try simp only [Act.put, List.setIfInBounds_toArray, List.set_cons_zero, List.set_cons_succ]
      refine seg_take (v := .agg (nbA x)) rfl (Or.inl ⟨by rfl, fun w' hw' => ?_⟩) ?_
      focus (exact nbx_load rfl rfl (nb_run HB1.out hw'))
      try simp only [Act.put, List.setIfInBounds_toArray, List.set_cons_zero, List.set_cons_succ]
      refine seg_run rfl (fun K hK => ?_)
      rw [if_pos (by rfl)]
      go_simp
      refine (HC.out _).mono ?_
      rintro e_ wA ⟨rfl, hbA⟩
      have HB := below_then HB hbA
      refine hK.out _ _ (HB) ?_
      clear hK
      try simp only [Act.put, List.setIfInBounds_toArray, List.set_cons_zero, List.set_cons_succ]
      iterate 1 ((first | refine seg_take (v := undef) rfl (Or.inr ⟨by rfl, rfl⟩) ?_ | (refine seg_take (v := ?_) rfl (Or.inl ⟨by rfl, ?_⟩) ?_; rotate_left; (focus (intro w' hw'; go_simp <;> with_reducible rfl)))); try simp only [Act.put, List.setIfInBounds_toArray, List.set_cons_zero, List.set_cons_succ])
      iterate 3 (refine seg_take (v := ?_) rfl (Or.inl ⟨by rfl, ?_⟩) ?_; rotate_left; (focus (intro w' hw'; go_simp <;> with_reducible rfl)); try simp only [Act.put, List.setIfInBounds_toArray, List.set_cons_zero, List.set_cons_succ])
      refine seg_done (fun _ => ?_)
      refine wpAnyH_done (by kernel_rfl) ?_ _
      go_wp2_with fail
      go_ret2
      exact ⟨i, F, rfl, HP.out, fun h => ⟨hin, by rw [HY.out]; exact of_decide_eq_true (HF.out.trans h)⟩, fun h => spos_no HP.out HS.out (fun q hq => by rw [HGI.out] at hq; injection hq with hq; rw [← hq]; exact of_decide_eq_false (HF.out.trans h)), below_then (below_then bV hB) HB⟩
    · obtain rfl : i = n := by omega
      have hgi : l[i]? = none := List.getElem?_eq_none (by rw [HL.out]; exact Nat.le_refl _)
      have HGI := Lib.hid hgi
      clear hgi
      go_wp2_with fail
      refine wp_region_seg (S := fun w' => Below wr.heap.size wr w') 0 #[true, true, true, true, true, true, true, true, true, true, true, true, true, true, true, true] [(0, true), (1, true), (2, true), (3, true), (4, true), (5, true), (6, true), (7, true), (8, true), (9, true), (10, true), (11, false), (12, true), (13, true), (14, true), (15, true)] (by kernel_rfl) (by kernel_rfl) (fun _ _ d _ _ h => by first | (cases d <;> exact h) | cases h.1) ((Below.refl wr.heap.size wr).drew) ?_
      have HB := (Below.refl wr.heap.size wr).drew
      iterate 5 (refine seg_take (v := ?_) rfl (Or.inl ⟨by rfl, ?_⟩) ?_; rotate_left; (focus (intro w' hw'; go_simp <;> with_reducible rfl)); try simp only [Act.put, List.setIfInBounds_toArray, List.set_cons_zero, List.set_cons_succ])
      iterate 6 ((first | refine seg_take (v := undef) rfl (Or.inr ⟨by rfl, rfl⟩) ?_ | (refine seg_take (v := ?_) rfl (Or.inl ⟨by rfl, ?_⟩) ?_; rotate_left; (focus (intro w' hw'; go_simp <;> with_reducible rfl)))); try simp only [Act.put, List.setIfInBounds_toArray, List.set_cons_zero, List.set_cons_succ])
      refine seg_run rfl (fun K hK => ?_)
      go_simp
      refine hK.out _ _ (HB) ?_
      clear hK
      try simp only [Act.put, List.setIfInBounds_toArray, List.set_cons_zero, List.set_cons_succ]
      iterate 1 ((first | refine seg_take (v := undef) rfl (Or.inr ⟨by rfl, rfl⟩) ?_ | (refine seg_take (v := ?_) rfl (Or.inl ⟨by rfl, ?_⟩) ?_; rotate_left; (focus (intro w' hw'; go_simp <;> with_reducible rfl)))); try simp only [Act.put, List.setIfInBounds_toArray, List.set_cons_zero, List.set_cons_succ])
      iterate 3 (refine seg_take (v := ?_) rfl (Or.inl ⟨by rfl, ?_⟩) ?_; rotate_left; (focus (intro w' hw'; go_simp <;> with_reducible rfl)); try simp only [Act.put, List.setIfInBounds_toArray, List.set_cons_zero, List.set_cons_succ])
      refine seg_done (fun _ => ?_)
      refine wpAnyH_done (by kernel_rfl) ?_ _
      go_wp2_with fail
      go_ret2
      exact ⟨i, false, rfl, HP.out, fun h => (by cases h), fun _ => spos_no HP.out HS.out (fun q hq => by rw [HGI.out] at hq; cases hq), below_then (below_then bV hB) HB⟩
end Go.Proofs.Ytnfepikgbdeomaa
