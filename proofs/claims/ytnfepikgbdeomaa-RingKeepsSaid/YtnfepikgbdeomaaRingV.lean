/-
  Layer 7: rings (the document): Desc, UsedAt.
-/
import Derived.Test.YtnfepikgbdeomaaRingO
import Derived.Test.YtnfepikgbdeomaaRingQ
namespace Go.Proofs.Ytnfepikgbdeomaa
set_option maxRecDepth 20000
open Go.RowKit
set_option linter.unusedVariables false
set_option linter.unusedSimpArgs false
set_option maxHeartbeats 4000000

theorem refDesc7_any (A : Option Addr) (n c : Nat) (xs : List UInt8) (b k i : Int) (w : World) (hr : RdB w A n c xs) (hb : -9223372036854775808 ≤ b ∧ b ≤ 9223372036854775807) (hk : -9223372036854775808 ≤ k ∧ k ≤ 9223372036854775807) (hi : -9223372036854775808 ≤ i ∧ i ≤ 9223372036854775807) :
    Calls Try.prog 21 #[.agg #[.slice A n c], .int .i64 b, .int .i64 k, .int .i64 i] w (RetT w (.agg (rgDesc xs b k i).v) (.int .i64 (rgDescE n b k i))) := by
  have hn := hr.n63
  unfold rgDesc rgDescE
  rw [hr.2.1]
  obtain ⟨V, hV⟩ : ∃ V, V = (w.alloc (.cells #[.slice A n c] 28)).alloc (.cells #[.int .u64 0, .int .u32 0, .int .u16 0, .int .u16 0] 44) := ⟨_, rfl⟩
  have bV : Below w.heap.size w V := by rw [hV]; exact ((below_self w).alloc (Nat.le_refl _) _).alloc (by simp) _
  have zV : V.heap.size = w.heap.size + 2 := by rw [hV]; simp
  have q0 : BoxAt V w.heap.size 28 (.slice A n c) := by rw [hV]; exact row_old _ (row_at _ rfl)
  have q1 : V.heap[w.heap.size + 1]? = some (.cells #[.int .u64 0, .int .u32 0, .int .u16 0, .int .u16 0] 44 (0, 0)) := by rw [hV]; exact row_at _ (by simp)
  have k0 := q0.c
  have Q0 := Lib.hid q0
  have Q1 := Lib.hid q1
  have HV := Lib.hid hV
  have ZV := Lib.hid zV
  have hrV := hr.below bV
  have HC := Lib.hid (refCheck7_any A n c b k V hn hb hk)
  clear hV zV q0 q1
  by_cases h : rgCheck n b k = true
  · rw [h] at HC
    by_cases hik : 0 ≤ i ∧ i < k
    · rw [if_pos h, if_pos hik, if_pos rfl]
      obtain ⟨o1, o2, o3, o4, o5, o6, o7⟩ := rgCheck_ok h
      have i1 : decide (i < 0) = false := decide_eq_false (by omega)
      have i2 : decide (k ≤ i) = false := decide_eq_false (by omega)
      obtain ⟨p, hp⟩ : ∃ p, p = 16 * i := ⟨_, rfl⟩
      obtain ⟨s, hs⟩ : ∃ s, s = b + p := ⟨_, rfl⟩
      obtain ⟨s8, hs8⟩ : ∃ t, t = s + 8 := ⟨_, rfl⟩
      obtain ⟨s12, hs12⟩ : ∃ t, t = s + 12 := ⟨_, rfl⟩
      obtain ⟨s14, hs14⟩ : ∃ t, t = s + 14 := ⟨_, rfl⟩
      have hd : rgDscAt xs (b + 16 * i) = ⟨memNum xs s 8, memNum xs s8 4, memNum xs s12 2, memNum xs s14 2⟩ := by
        unfold rgDscAt
        rw [show b + 16 * i = s by omega, show s + 8 = s8 by omega, show s8 + 4 = s12 by omega, show s12 + 2 = s14 by omega]
      rw [hd]
      have hs0 : 0 ≤ s ∧ s ≤ 9000 := by omega
      have hp1 : 16 * i = p := hp.symm
      have e0 : b + p = s := hs.symm
      have e8 : s + 8 = s8 := hs8.symm
      have e12 : s + 12 = s12 := hs12.symm
      have e14 : s + 14 = s14 := hs14.symm
      have wp : IntKind.i64.wrap p = p := wi64i (by omega)
      have ws : IntKind.i64.wrap s = s := wi64i (by omega)
      have ws8 : IntKind.i64.wrap s8 = s8 := wi64i (by omega)
      have ws12 : IntKind.i64.wrap s12 = s12 := wi64i (by omega)
      have ws14 : IntKind.i64.wrap s14 = s14 := wi64i (by omega)
      have b1 := memNum_lt xs s8 4
      have b2 := memNum_lt xs s12 2
      have b3 := memNum_lt xs s14 2
      rw [show ((4 : Nat) : Int) = 4 from rfl] at b1
      rw [show ((2 : Nat) : Int) = 2 from rfl] at b2 b3
      have hg0 := fun W (hW : Below V.heap.size V W) => refGet7_any A n c xs s 8 W (hrV.below hW) (by omega) (by omega)
      have hg1 := fun W (hW : Below V.heap.size V W) => refGet7_any A n c xs s8 4 W (hrV.below hW) (by omega) (by omega)
      have hg2 := fun W (hW : Below V.heap.size V W) => refGet7_any A n c xs s12 2 W (hrV.below hW) (by omega) (by omega)
      have hg3 := fun W (hW : Below V.heap.size V W) => refGet7_any A n c xs s14 2 W (hrV.below hW) (by omega) (by omega)
      obtain ⟨v0, hv0⟩ : ∃ v, memNum xs s 8 = v := ⟨_, rfl⟩
      obtain ⟨v1, hv1⟩ : ∃ v, memNum xs s8 4 = v := ⟨_, rfl⟩
      obtain ⟨v2, hv2⟩ : ∃ v, memNum xs s12 2 = v := ⟨_, rfl⟩
      obtain ⟨v3, hv3⟩ : ∃ v, memNum xs s14 2 = v := ⟨_, rfl⟩
      rw [hv0] at hg0
      rw [hv1] at hg1 b1
      rw [hv2] at hg2 b2
      rw [hv3] at hg3 b3
      rw [hv0, hv1, hv2, hv3]
      have x1 : IntKind.u32.wrap (v1 : Int) = (v1 : Int) := by rw [IntKind.wrap_u32]; omega
      have x2 : IntKind.u16.wrap (v2 : Int) = (v2 : Int) := by rw [IntKind.wrap_u16]; omega
      have x3 : IntKind.u16.wrap (v3 : Int) = (v3 : Int) := by rw [IntKind.wrap_u16]; omega
      have G0 := Lib.hid hg0
      have G1 := Lib.hid hg1
      have G2 := Lib.hid hg2
      have G3 := Lib.hid hg3
      clear hg0 hg1 hg2 hg3 hv0 hv1 hv2 hv3 hd hp hs hs8 hs12 hs14 h o4 b1 b2 b3
      go_enter Try.func21, Try.ntmps21
      go_wp2_with fail
      rw [← HV.out]
      refine HC.out.mono ?_
      rintro e w2 ⟨rfl, hb2⟩
      have k2 := ((hb2.block _ (by have := ZV.out; omega)).trans Q0.out : w2.heap[w.heap.size]? = some (.cells #[.slice A n c] 28 (0, 0)))
      have k0 := (cell_of_row w2 _ 0 _ _ _ k2).trans (show (#[.slice A n c] : Array Value)[0]? = some (.slice A n c) from rfl)
      clear k2
      have hl1 : w.heap.size < w.heap.size + 1 := by omega
      go_wp2_with fail
      have HX := (Below.refl w2.heap.size w2).drew
      refine wp_region_plan (S := fun w' => Below (w.heap.size + 1) w2 w') [(0, true), (1, true), (3, true), (4, true), (5, true), (8, true), (9, true), (10, true), (13, true), (14, true), (15, true), (2, false), (6, false), (7, true), (11, false), (12, true), (16, false), (17, true), (18, true), (19, false), (20, true)] (by kernel_rfl) (by kernel_rfl) (fun _ _ d _ _ h => by cases d <;> exact h) (HX.mono (by have := ZV.out; have := hb2.size; omega)) ?_
      iterate 11 (refine plan_take (v := ?_) rfl (Or.inl ⟨by rfl, ?_⟩) ?_; rotate_left; (focus (intro w' hw'; have ja := (hw'.cell (p := ⟨w.heap.size, 0, none⟩) hl1).trans k0; go_simp <;> with_reducible rfl)); try simp only [Act.put, List.setIfInBounds_toArray, List.set_cons_zero, List.set_cons_succ])
      refine plan_run rfl (fun K hK => ?_)
      go_simp
      refine (G0.out _ (below_then hb2 HX)).mono ?_
      rintro e_ w3 ⟨rfl, hb3⟩
      have HB3 := below_then HX hb3
      refine hK.out _ _ (HB3.mono (by have := ZV.out; have := hb2.size; omega)) ?_
      clear hK
      try simp only [Act.put, List.setIfInBounds_toArray, List.set_cons_zero, List.set_cons_succ]
      refine plan_run rfl (fun K hK => ?_)
      go_simp
      refine (G1.out _ (below_then hb2 HB3)).mono ?_
      rintro e_ w4 ⟨rfl, hb4⟩
      have HB4 := below_then HB3 hb4
      refine hK.out _ _ (HB4.mono (by have := ZV.out; have := hb2.size; omega)) ?_
      clear hK
      try simp only [Act.put, List.setIfInBounds_toArray, List.set_cons_zero, List.set_cons_succ]
      iterate 1 (refine plan_take (v := ?_) rfl (Or.inl ⟨by rfl, ?_⟩) ?_; rotate_left; (focus (intro w' hw'; have ja := (hw'.cell (p := ⟨w.heap.size, 0, none⟩) hl1).trans k0; go_simp <;> with_reducible rfl)); try simp only [Act.put, List.setIfInBounds_toArray, List.set_cons_zero, List.set_cons_succ])
      refine plan_run rfl (fun K hK => ?_)
      go_simp
      refine (G2.out _ (below_then hb2 HB4)).mono ?_
      rintro e_ w5 ⟨rfl, hb5⟩
      have HB5 := below_then HB4 hb5
      refine hK.out _ _ (HB5.mono (by have := ZV.out; have := hb2.size; omega)) ?_
      clear hK
      try simp only [Act.put, List.setIfInBounds_toArray, List.set_cons_zero, List.set_cons_succ]
      iterate 1 (refine plan_take (v := ?_) rfl (Or.inl ⟨by rfl, ?_⟩) ?_; rotate_left; (focus (intro w' hw'; have ja := (hw'.cell (p := ⟨w.heap.size, 0, none⟩) hl1).trans k0; go_simp <;> with_reducible rfl)); try simp only [Act.put, List.setIfInBounds_toArray, List.set_cons_zero, List.set_cons_succ])
      refine plan_run rfl (fun K hK => ?_)
      go_simp
      refine (G3.out _ (below_then hb2 HB5)).mono ?_
      rintro e_ w6 ⟨rfl, hb6⟩
      have HB6 := below_then HB5 hb6
      have rO := ((below_then hb2 HB6).block _ (by have := ZV.out; omega)).trans Q1.out
      refine hK.out _ _ (HB6.mono (by have := ZV.out; have := hb2.size; omega)) ?_
      clear hK
      try simp only [Act.put, List.setIfInBounds_toArray, List.set_cons_zero, List.set_cons_succ]
      iterate 2 (refine plan_take (v := ?_) rfl (Or.inl ⟨by rfl, ?_⟩) ?_; rotate_left; (focus (intro w' hw'; have ja := (hw'.cell (p := ⟨w.heap.size, 0, none⟩) hl1).trans k0; go_simp <;> with_reducible rfl)); try simp only [Act.put, List.setIfInBounds_toArray, List.set_cons_zero, List.set_cons_succ])
      refine plan_run rfl (fun K hK => ?_)
      go_simp
      have z0 := (cell_of_row w6 _ 0 _ _ _ rO).trans (show (#[.int .u64 0, .int .u32 0, .int .u16 0, .int .u16 0] : Array Value)[0]? = some (.int .u64 0) from rfl)
      have z1 := (cell_of_row w6 _ 1 _ _ _ rO).trans (show (#[.int .u64 0, .int .u32 0, .int .u16 0, .int .u16 0] : Array Value)[1]? = some (.int .u32 0) from rfl)
      have z2 := (cell_of_row w6 _ 2 _ _ _ rO).trans (show (#[.int .u64 0, .int .u32 0, .int .u16 0, .int .u16 0] : Array Value)[2]? = some (.int .u16 0) from rfl)
      have z3 := (cell_of_row w6 _ 3 _ _ _ rO).trans (show (#[.int .u64 0, .int .u32 0, .int .u16 0, .int .u16 0] : Array Value)[3]? = some (.int .u16 0) from rfl)
      have y0 := frozen_of_row _ _ 0 _ _ rO
      have y1 := frozen_of_row _ _ 1 _ _ rO
      have y2 := frozen_of_row _ _ 2 _ _ rO
      have y3 := frozen_of_row _ _ 3 _ _ rO
      go_simp
      have HB7 := ((((HB6.mono (show w.heap.size + 1 ≤ w2.heap.size by have := ZV.out; have := hb2.size; omega)).setCell (p := ⟨w.heap.size + 1, 0, none⟩) (Nat.le_refl _) (.int .u64 (v0 : Int))).setCell (p := ⟨w.heap.size + 1, 1, none⟩) (Nat.le_refl _) (.int .u32 (v1 : Int))).setCell (p := ⟨w.heap.size + 1, 2, none⟩) (Nat.le_refl _) (.int .u16 (v2 : Int))).setCell (p := ⟨w.heap.size + 1, 3, none⟩) (Nat.le_refl _) (.int .u16 (v3 : Int))
      refine hK.out _ _ (HB7) ?_
      clear hK
      try simp only [Act.put, List.setIfInBounds_toArray, List.set_cons_zero, List.set_cons_succ]
      iterate 1 (refine plan_take (v := ?_) rfl (Or.inl ⟨by rfl, ?_⟩) ?_; rotate_left; (focus (intro w' hw'; have ja := (hw'.cell (p := ⟨w.heap.size, 0, none⟩) hl1).trans k0; go_simp <;> with_reducible rfl)); try simp only [Act.put, List.setIfInBounds_toArray, List.set_cons_zero, List.set_cons_succ])
      refine plan_done ?_
      go_wp2_with fail
      have hrow2 : ((((w6.setCell ⟨w.heap.size + 1, 0, none⟩ (.int .u64 (v0 : Int))).setCell ⟨w.heap.size + 1, 1, none⟩ (.int .u32 (v1 : Int))).setCell ⟨w.heap.size + 1, 2, none⟩ (.int .u16 (v2 : Int))).setCell ⟨w.heap.size + 1, 3, none⟩ (.int .u16 (v3 : Int))).heap[w.heap.size + 1]? = some (.cells #[.int .u64 (v0 : Int), .int .u32 (v1 : Int), .int .u16 (v2 : Int), .int .u16 (v3 : Int)] 44 (0, 0)) := (setc_rowT (setc_rowT (setc_rowT (setc_rowT rO)))).trans rfl
      have hl := run_loadVar_row (P := Try.prog) _ _ _ 44 _ _ _ hrow2 Try.underlying44 rfl (by kernel_rfl)
      refine bodyPost_ret (v := .tuple #[.agg #[.int .u64 (v0 : Int), .int .u32 (v1 : Int), .int .u16 (v2 : Int), .int .u16 (v3 : Int)], .int .i64 0]) (by simp [results, Try.results21, asAddr, hl]) rfl ?_
      exact ⟨rfl, bV.trans ((hb2.mono (by have := ZV.out; omega)).trans (HB7.mono (by omega)))⟩
    · rw [if_pos h, if_neg hik, if_neg (by decide)]
      clear h
      by_cases hi0 : i < 0
      · have i1 : decide (i < 0) = true := decide_eq_true hi0
        go_enter Try.func21, Try.ntmps21
        go_wp2_with fail
        rw [← HV.out]
        refine HC.out.mono ?_
        rintro e w2 ⟨rfl, hb2⟩
        have rO := (hb2.block _ (by have := ZV.out; omega)).trans Q1.out
        have z0 := (cell_of_row w2 _ 0 _ _ _ rO).trans (show (#[.int .u64 0, .int .u32 0, .int .u16 0, .int .u16 0] : Array Value)[0]? = some (.int .u64 0) from rfl)
        have z1 := (cell_of_row w2 _ 1 _ _ _ rO).trans (show (#[.int .u64 0, .int .u32 0, .int .u16 0, .int .u16 0] : Array Value)[1]? = some (.int .u32 0) from rfl)
        have z2 := (cell_of_row w2 _ 2 _ _ _ rO).trans (show (#[.int .u64 0, .int .u32 0, .int .u16 0, .int .u16 0] : Array Value)[2]? = some (.int .u16 0) from rfl)
        have z3 := (cell_of_row w2 _ 3 _ _ _ rO).trans (show (#[.int .u64 0, .int .u32 0, .int .u16 0, .int .u16 0] : Array Value)[3]? = some (.int .u16 0) from rfl)
        have y0 := frozen_of_row _ _ 0 _ _ rO
        have y1 := frozen_of_row _ _ 1 _ _ rO
        have y2 := frozen_of_row _ _ 2 _ _ rO
        have y3 := frozen_of_row _ _ 3 _ _ rO
        have RO := Lib.hid rO
        clear rO
        go_wp2_with fail
        have hrow2 : ((((w2.setCell ⟨w.heap.size + 1, 0, none⟩ (.int .u64 0)).setCell ⟨w.heap.size + 1, 1, none⟩ (.int .u32 0)).setCell ⟨w.heap.size + 1, 2, none⟩ (.int .u16 0)).setCell ⟨w.heap.size + 1, 3, none⟩ (.int .u16 0)).heap[w.heap.size + 1]? = some (.cells #[.int .u64 0, .int .u32 0, .int .u16 0, .int .u16 0] 44 (0, 0)) := (setc_rowT (setc_rowT (setc_rowT (setc_rowT RO.out)))).trans rfl
        have hl := run_loadVar_row (P := Try.prog) _ _ _ 44 _ _ _ hrow2 Try.underlying44 rfl (by kernel_rfl)
        refine bodyPost_ret (v := .tuple #[.agg #[.int .u64 0, .int .u32 0, .int .u16 0, .int .u16 0], .int .i64 2]) (by simp [results, Try.results21, asAddr, hl]) rfl ?_
        exact ⟨rfl, (((((below_then bV hb2)).setCell (p := ⟨w.heap.size + 1, 0, none⟩) (by simp) _).setCell (p := ⟨w.heap.size + 1, 1, none⟩) (by simp) _).setCell (p := ⟨w.heap.size + 1, 2, none⟩) (by simp) _).setCell (p := ⟨w.heap.size + 1, 3, none⟩) (by simp) _⟩
      · have i1 : decide (i < 0) = false := decide_eq_false hi0
        have i2 : decide (k ≤ i) = true := decide_eq_true (by omega)
        go_enter Try.func21, Try.ntmps21
        go_wp2_with fail
        rw [← HV.out]
        refine HC.out.mono ?_
        rintro e w2 ⟨rfl, hb2⟩
        have rO := (hb2.block _ (by have := ZV.out; omega)).trans Q1.out
        have z0 := (cell_of_row w2 _ 0 _ _ _ rO).trans (show (#[.int .u64 0, .int .u32 0, .int .u16 0, .int .u16 0] : Array Value)[0]? = some (.int .u64 0) from rfl)
        have z1 := (cell_of_row w2 _ 1 _ _ _ rO).trans (show (#[.int .u64 0, .int .u32 0, .int .u16 0, .int .u16 0] : Array Value)[1]? = some (.int .u32 0) from rfl)
        have z2 := (cell_of_row w2 _ 2 _ _ _ rO).trans (show (#[.int .u64 0, .int .u32 0, .int .u16 0, .int .u16 0] : Array Value)[2]? = some (.int .u16 0) from rfl)
        have z3 := (cell_of_row w2 _ 3 _ _ _ rO).trans (show (#[.int .u64 0, .int .u32 0, .int .u16 0, .int .u16 0] : Array Value)[3]? = some (.int .u16 0) from rfl)
        have y0 := frozen_of_row _ _ 0 _ _ rO
        have y1 := frozen_of_row _ _ 1 _ _ rO
        have y2 := frozen_of_row _ _ 2 _ _ rO
        have y3 := frozen_of_row _ _ 3 _ _ rO
        have RO := Lib.hid rO
        clear rO
        go_wp2_with fail
        have hrow2 : ((((w2.setCell ⟨w.heap.size + 1, 0, none⟩ (.int .u64 0)).setCell ⟨w.heap.size + 1, 1, none⟩ (.int .u32 0)).setCell ⟨w.heap.size + 1, 2, none⟩ (.int .u16 0)).setCell ⟨w.heap.size + 1, 3, none⟩ (.int .u16 0)).heap[w.heap.size + 1]? = some (.cells #[.int .u64 0, .int .u32 0, .int .u16 0, .int .u16 0] 44 (0, 0)) := (setc_rowT (setc_rowT (setc_rowT (setc_rowT RO.out)))).trans rfl
        have hl := run_loadVar_row (P := Try.prog) _ _ _ 44 _ _ _ hrow2 Try.underlying44 rfl (by kernel_rfl)
        refine bodyPost_ret (v := .tuple #[.agg #[.int .u64 0, .int .u32 0, .int .u16 0, .int .u16 0], .int .i64 2]) (by simp [results, Try.results21, asAddr, hl]) rfl ?_
        exact ⟨rfl, (((((below_then bV hb2)).setCell (p := ⟨w.heap.size + 1, 0, none⟩) (by simp) _).setCell (p := ⟨w.heap.size + 1, 1, none⟩) (by simp) _).setCell (p := ⟨w.heap.size + 1, 2, none⟩) (by simp) _).setCell (p := ⟨w.heap.size + 1, 3, none⟩) (by simp) _⟩
  · have h' : rgCheck n b k = false := by simpa using h
    have hE : (if rgCheck n b k = true then (if 0 ≤ i ∧ i < k then (0 : Int) else 2) else 70) = 70 := by rw [h']; rfl
    rw [hE, if_neg (by decide)]
    rw [h'] at HC
    clear hE h h'
    go_enter Try.func21, Try.ntmps21
    go_wp2_with fail
    rw [← HV.out]
    refine HC.out.mono ?_
    rintro e w2 ⟨rfl, hb2⟩
    have rO := (hb2.block _ (by have := ZV.out; omega)).trans Q1.out
    have z0 := (cell_of_row w2 _ 0 _ _ _ rO).trans (show (#[.int .u64 0, .int .u32 0, .int .u16 0, .int .u16 0] : Array Value)[0]? = some (.int .u64 0) from rfl)
    have z1 := (cell_of_row w2 _ 1 _ _ _ rO).trans (show (#[.int .u64 0, .int .u32 0, .int .u16 0, .int .u16 0] : Array Value)[1]? = some (.int .u32 0) from rfl)
    have z2 := (cell_of_row w2 _ 2 _ _ _ rO).trans (show (#[.int .u64 0, .int .u32 0, .int .u16 0, .int .u16 0] : Array Value)[2]? = some (.int .u16 0) from rfl)
    have z3 := (cell_of_row w2 _ 3 _ _ _ rO).trans (show (#[.int .u64 0, .int .u32 0, .int .u16 0, .int .u16 0] : Array Value)[3]? = some (.int .u16 0) from rfl)
    have y0 := frozen_of_row _ _ 0 _ _ rO
    have y1 := frozen_of_row _ _ 1 _ _ rO
    have y2 := frozen_of_row _ _ 2 _ _ rO
    have y3 := frozen_of_row _ _ 3 _ _ rO
    have RO := Lib.hid rO
    clear rO
    go_wp2_with fail
    have hrow2 : ((((w2.setCell ⟨w.heap.size + 1, 0, none⟩ (.int .u64 0)).setCell ⟨w.heap.size + 1, 1, none⟩ (.int .u32 0)).setCell ⟨w.heap.size + 1, 2, none⟩ (.int .u16 0)).setCell ⟨w.heap.size + 1, 3, none⟩ (.int .u16 0)).heap[w.heap.size + 1]? = some (.cells #[.int .u64 0, .int .u32 0, .int .u16 0, .int .u16 0] 44 (0, 0)) := (setc_rowT (setc_rowT (setc_rowT (setc_rowT RO.out)))).trans rfl
    have hl := run_loadVar_row (P := Try.prog) _ _ _ 44 _ _ _ hrow2 Try.underlying44 rfl (by kernel_rfl)
    refine bodyPost_ret (v := .tuple #[.agg #[.int .u64 0, .int .u32 0, .int .u16 0, .int .u16 0], .int .i64 70]) (by simp [results, Try.results21, asAddr, hl]) rfl ?_
    exact ⟨rfl, (((((below_then bV hb2)).setCell (p := ⟨w.heap.size + 1, 0, none⟩) (by simp) _).setCell (p := ⟨w.heap.size + 1, 1, none⟩) (by simp) _).setCell (p := ⟨w.heap.size + 1, 2, none⟩) (by simp) _).setCell (p := ⟨w.heap.size + 1, 3, none⟩) (by simp) _⟩
theorem refUsedAt7_any (A : Option Addr) (n c : Nat) (xs : List UInt8) (b k : Int) (i : Nat) (w : World) (hr : RdB w A n c xs) (hb : -9223372036854775808 ≤ b ∧ b ≤ 9223372036854775807) (hk : -9223372036854775808 ≤ k ∧ k ≤ 9223372036854775807) (hi : i < 65536) :
    Calls Try.prog 31 #[.agg #[.slice A n c], .int .i64 b, .int .i64 k, .int .u16 (i : Int)] w (RetT w (.agg #[.int .u32 (rgUId xs b k i : Nat), .int .u32 (rgULen xs b k i : Nat)]) (.int .i64 (rgE n b k))) := by
  have hn := hr.n63
  unfold rgUId rgULen rgE
  rw [hr.2.1]
  obtain ⟨V, hV⟩ : ∃ V, V = (w.alloc (.cells #[.slice A n c] 28)).alloc (.cells #[.int .u32 0, .int .u32 0] 25) := ⟨_, rfl⟩
  have bV : Below w.heap.size w V := by rw [hV]; exact ((below_self w).alloc (Nat.le_refl _) _).alloc (by simp) _
  have zV : V.heap.size = w.heap.size + 2 := by rw [hV]; simp
  have q0 : BoxAt V w.heap.size 28 (.slice A n c) := by rw [hV]; exact row_old _ (row_at _ rfl)
  have q1 : V.heap[w.heap.size + 1]? = some (.cells #[.int .u32 0, .int .u32 0] 25 (0, 0)) := by rw [hV]; exact row_at _ (by simp)
  have k0 := q0.c
  have Q0 := Lib.hid q0
  have Q1 := Lib.hid q1
  have HV := Lib.hid hV
  have ZV := Lib.hid zV
  have hrV := hr.below bV
  have HC := Lib.hid (refCheck7_any A n c b k V hn hb hk)
  clear hV zV q0 q1
  by_cases h : rgCheck n b k = true
  · rw [h] at HC
    rw [if_pos h, if_pos h, if_pos h]
    obtain ⟨o1, o2, o3, o4, o5, o6, o7⟩ := rgCheck_ok h
    have hkn := (of_decide_eq_true h).2.1
    obtain ⟨m, hm⟩ : ∃ m : Nat, k = (m : Int) := ⟨k.toNat, by omega⟩
    obtain ⟨r, hr2⟩ : ∃ r, r = i % m := ⟨_, rfl⟩
    have hrm : r < m := by rw [hr2]; exact Nat.mod_lt _ (by omega)
    have hrp : rgPlace k i 8 = 4 + 8 * (r : Int) := by unfold rgPlace; rw [hr2, hm]; simp
    rw [hrp]
    have r1 : (i : Int) % k = (r : Int) := by rw [hm, hr2]; rfl
    have r2 : (i : Int).tmod k = (r : Int) := by rw [Int.tmod_eq_emod_of_nonneg (by omega)]; exact r1
    have kz : ¬ (k = 0) := by omega
    have wi := wi64n (k := i) (by omega)
    have hbk := rgBack_le hkn
    obtain ⟨q, hq⟩ : ∃ q, q = rgBack k := ⟨_, rfl⟩
    obtain ⟨y, hy⟩ : ∃ y, y = 8 * (r : Int) := ⟨_, rfl⟩
    obtain ⟨t, ht⟩ : ∃ t, t = b + q := ⟨_, rfl⟩
    obtain ⟨u, hu⟩ : ∃ u, u = t + 4 := ⟨_, rfl⟩
    obtain ⟨s, hs⟩ : ∃ s, s = u + y := ⟨_, rfl⟩
    obtain ⟨s4, hs4⟩ : ∃ s4, s4 = s + 4 := ⟨_, rfl⟩
    rw [show b + (rgBack k + (4 + 8 * (r : Int))) = s by omega, ← hs4]
    have s0 : 8 * (r : Int) = y := hy.symm
    have s1 : b + q = t := ht.symm
    have s2 : t + 4 = u := hu.symm
    have s3 : u + y = s := hs.symm
    have s5 : s + 4 = s4 := hs4.symm
    have hs0 : 0 ≤ s ∧ s ≤ 9000 := by omega
    have wr := wi64n (k := r) (by omega)
    have wy : IntKind.i64.wrap y = y := wi64i (by omega)
    have wt : IntKind.i64.wrap t = t := wi64i (by omega)
    have wu : IntKind.i64.wrap u = u := wi64i (by omega)
    have ws : IntKind.i64.wrap s = s := wi64i (by omega)
    have ws4 : IntKind.i64.wrap s4 = s4 := wi64i (by omega)
    have b0 := memNum_lt xs s 4
    have b1 := memNum_lt xs s4 4
    rw [show ((4 : Nat) : Int) = 4 from rfl] at b0 b1
    have hg0 := fun W (hW : Below V.heap.size V W) => refGet7_any A n c xs s 4 W (hrV.below hW) (by omega) (by omega)
    have hg1 := fun W (hW : Below V.heap.size V W) => refGet7_any A n c xs s4 4 W (hrV.below hW) (by omega) (by omega)
    obtain ⟨v0, hv0⟩ : ∃ v, memNum xs s 4 = v := ⟨_, rfl⟩
    obtain ⟨v1, hv1⟩ : ∃ v, memNum xs s4 4 = v := ⟨_, rfl⟩
    rw [hv0] at hg0 b0
    rw [hv1] at hg1 b1
    rw [hv0, hv1]
    have x0 : IntKind.u32.wrap (v0 : Int) = (v0 : Int) := by rw [IntKind.wrap_u32]; omega
    have x1 : IntKind.u32.wrap (v1 : Int) = (v1 : Int) := by rw [IntKind.wrap_u32]; omega
    have G0 := Lib.hid hg0
    have G1 := Lib.hid hg1
    have HK := Lib.hid hkn
    have HQ := Lib.hid hq
    clear hg0 hg1 hv0 hv1 hs hs4 hu ht hy hq hr2 hrp hm hbk hkn h o4 b0 b1 o7
    go_enter Try.func31, Try.ntmps31
    go_wp2_with fail
    rw [← HV.out]
    refine HC.out.mono ?_
    rintro e w2 ⟨rfl, hb2⟩
    have k2 := ((hb2.block _ (by have := ZV.out; omega)).trans Q0.out : w2.heap[w.heap.size]? = some (.cells #[.slice A n c] 28 (0, 0)))
    have k0 := (cell_of_row w2 _ 0 _ _ _ k2).trans (show (#[.slice A n c] : Array Value)[0]? = some (.slice A n c) from rfl)
    clear k2
    have hl1 : w.heap.size < w.heap.size + 1 := by omega
    go_wp2_with fail
    refine wp_region_plan (S := fun w' => Below w2.heap.size w2 w') [(0, true), (1, true), (5, true), (6, true), (7, true), (8, true), (9, true), (2, false), (3, true), (4, true), (10, true), (11, true)] (by kernel_rfl) (by kernel_rfl) (fun _ _ d _ _ h => by cases d <;> exact h) ((Below.refl _ w2).drew) ?_
    iterate 7 (refine plan_take (v := ?_) rfl (Or.inl ⟨by rfl, ?_⟩) ?_; rotate_left; (focus (intro w' hw'; go_simp <;> with_reducible rfl)); try simp only [Act.put, List.setIfInBounds_toArray, List.set_cons_zero, List.set_cons_succ])
    refine plan_run rfl (fun K hK => ?_)
    go_simp
    refine (refSecond7_any k _ HK.out).mono ?_
    rintro e_ w3 ⟨rfl, rfl⟩
    rw [← HQ.out]
    have HX := (Below.refl w2.heap.size w2).drew
    refine hK.out _ _ (HX) ?_
    clear hK
    try simp only [Act.put, List.setIfInBounds_toArray, List.set_cons_zero, List.set_cons_succ]
    iterate 4 (refine plan_take (v := ?_) rfl (Or.inl ⟨by rfl, ?_⟩) ?_; rotate_left; (focus (intro w' hw'; go_simp <;> with_reducible rfl)); try simp only [Act.put, List.setIfInBounds_toArray, List.set_cons_zero, List.set_cons_succ])
    refine plan_done ?_
    go_wp2_with fail
    have HY := HX.drew
    refine wp_region_plan (S := fun w' => Below (w.heap.size + 1) w2 w') [(0, true), (1, true), (4, true), (5, true), (6, true), (2, false), (3, true), (7, false), (8, true), (9, true), (10, false), (11, true)] (by kernel_rfl) (by kernel_rfl) (fun _ _ d _ _ h => by cases d <;> exact h) (HY.mono (by have := ZV.out; have := hb2.size; omega)) ?_
    iterate 5 (refine plan_take (v := ?_) rfl (Or.inl ⟨by rfl, ?_⟩) ?_; rotate_left; (focus (intro w' hw'; have ja := (hw'.cell (p := ⟨w.heap.size, 0, none⟩) hl1).trans k0; go_simp <;> with_reducible rfl)); try simp only [Act.put, List.setIfInBounds_toArray, List.set_cons_zero, List.set_cons_succ])
    refine plan_run rfl (fun K hK => ?_)
    go_simp
    refine (G0.out _ (below_then hb2 HY)).mono ?_
    rintro e_ w3 ⟨rfl, hb3⟩
    have HB3 := below_then HY hb3
    refine hK.out _ _ (HB3.mono (by have := ZV.out; have := hb2.size; omega)) ?_
    clear hK
    try simp only [Act.put, List.setIfInBounds_toArray, List.set_cons_zero, List.set_cons_succ]
    iterate 1 (refine plan_take (v := ?_) rfl (Or.inl ⟨by rfl, ?_⟩) ?_; rotate_left; (focus (intro w' hw'; have ja := (hw'.cell (p := ⟨w.heap.size, 0, none⟩) hl1).trans k0; go_simp <;> with_reducible rfl)); try simp only [Act.put, List.setIfInBounds_toArray, List.set_cons_zero, List.set_cons_succ])
    refine plan_run rfl (fun K hK => ?_)
    go_simp
    refine (G1.out _ (below_then hb2 HB3)).mono ?_
    rintro e_ w4 ⟨rfl, hb4⟩
    have HB4 := below_then HB3 hb4
    have rO := ((below_then hb2 HB4).block _ (by have := ZV.out; omega)).trans Q1.out
    refine hK.out _ _ (HB4.mono (by have := ZV.out; have := hb2.size; omega)) ?_
    clear hK
    try simp only [Act.put, List.setIfInBounds_toArray, List.set_cons_zero, List.set_cons_succ]
    iterate 2 (refine plan_take (v := ?_) rfl (Or.inl ⟨by rfl, ?_⟩) ?_; rotate_left; (focus (intro w' hw'; have ja := (hw'.cell (p := ⟨w.heap.size, 0, none⟩) hl1).trans k0; go_simp <;> with_reducible rfl)); try simp only [Act.put, List.setIfInBounds_toArray, List.set_cons_zero, List.set_cons_succ])
    refine plan_run rfl (fun K hK => ?_)
    go_simp
    have z0 := (cell_of_row w4 _ 0 _ _ _ rO).trans (show (#[.int .u32 0, .int .u32 0] : Array Value)[0]? = some (.int .u32 0) from rfl)
    have z1 := (cell_of_row w4 _ 1 _ _ _ rO).trans (show (#[.int .u32 0, .int .u32 0] : Array Value)[1]? = some (.int .u32 0) from rfl)
    have y0 := frozen_of_row _ _ 0 _ _ rO
    have y1 := frozen_of_row _ _ 1 _ _ rO
    go_simp
    have HB7 := ((HB4.mono (show w.heap.size + 1 ≤ w2.heap.size by have := ZV.out; have := hb2.size; omega)).setCell (p := ⟨w.heap.size + 1, 0, none⟩) (Nat.le_refl _) (.int .u32 (v0 : Int))).setCell (p := ⟨w.heap.size + 1, 1, none⟩) (Nat.le_refl _) (.int .u32 (v1 : Int))
    refine hK.out _ _ (HB7) ?_
    clear hK
    try simp only [Act.put, List.setIfInBounds_toArray, List.set_cons_zero, List.set_cons_succ]
    iterate 1 (refine plan_take (v := ?_) rfl (Or.inl ⟨by rfl, ?_⟩) ?_; rotate_left; (focus (intro w' hw'; have ja := (hw'.cell (p := ⟨w.heap.size, 0, none⟩) hl1).trans k0; go_simp <;> with_reducible rfl)); try simp only [Act.put, List.setIfInBounds_toArray, List.set_cons_zero, List.set_cons_succ])
    refine plan_done ?_
    go_wp2_with fail
    have hrow2 : ((w4.setCell ⟨w.heap.size + 1, 0, none⟩ (.int .u32 (v0 : Int))).setCell ⟨w.heap.size + 1, 1, none⟩ (.int .u32 (v1 : Int))).heap[w.heap.size + 1]? = some (.cells #[.int .u32 (v0 : Int), .int .u32 (v1 : Int)] 25 (0, 0)) := (setc_rowT (setc_rowT rO)).trans rfl
    have hl := run_loadVar_row (P := Try.prog) _ _ _ 25 _ _ _ hrow2 Try.underlying25 rfl (by kernel_rfl)
    refine bodyPost_ret (v := .tuple #[.agg #[.int .u32 (v0 : Int), .int .u32 (v1 : Int)], .int .i64 0]) (by simp [results, Try.results31, asAddr, hl]) rfl ?_
    exact ⟨rfl, bV.trans ((hb2.mono (by have := ZV.out; omega)).trans (HB7.mono (by omega)))⟩
  · have h' : rgCheck n b k = false := by simpa using h
    rw [if_neg h, if_neg h, if_neg h]
    rw [h'] at HC
    clear h h'
    go_enter Try.func31, Try.ntmps31
    go_wp2_with fail
    rw [← HV.out]
    refine HC.out.mono ?_
    rintro e w2 ⟨rfl, hb2⟩
    have rO := (hb2.block _ (by have := ZV.out; omega)).trans Q1.out
    have z0 := (cell_of_row w2 _ 0 _ _ _ rO).trans (show (#[.int .u32 0, .int .u32 0] : Array Value)[0]? = some (.int .u32 0) from rfl)
    have z1 := (cell_of_row w2 _ 1 _ _ _ rO).trans (show (#[.int .u32 0, .int .u32 0] : Array Value)[1]? = some (.int .u32 0) from rfl)
    have y0 := frozen_of_row _ _ 0 _ _ rO
    have y1 := frozen_of_row _ _ 1 _ _ rO
    have RO := Lib.hid rO
    clear rO
    go_wp2_with fail
    have hrow2 : ((w2.setCell ⟨w.heap.size + 1, 0, none⟩ (.int .u32 0)).setCell ⟨w.heap.size + 1, 1, none⟩ (.int .u32 0)).heap[w.heap.size + 1]? = some (.cells #[.int .u32 0, .int .u32 0] 25 (0, 0)) := (setc_rowT (setc_rowT RO.out)).trans rfl
    have hl := run_loadVar_row (P := Try.prog) _ _ _ 25 _ _ _ hrow2 Try.underlying25 rfl (by kernel_rfl)
    refine bodyPost_ret (v := .tuple #[.agg #[.int .u32 0, .int .u32 0], .int .i64 70]) (by simp [results, Try.results31, asAddr, hl]) rfl ?_
    exact ⟨rfl, (((below_then bV hb2)).setCell (p := ⟨w.heap.size + 1, 0, none⟩) (by simp) _).setCell (p := ⟨w.heap.size + 1, 1, none⟩) (by simp) _⟩
end Go.Proofs.Ytnfepikgbdeomaa
