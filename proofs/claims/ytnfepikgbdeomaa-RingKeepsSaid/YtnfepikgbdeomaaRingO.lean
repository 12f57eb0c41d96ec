/-
  Layer 7: rings (the document): AvailAt.
-/
import Derived.Test.YtnfepikgbdeomaaRingN
namespace Go.Proofs.Ytnfepikgbdeomaa
set_option maxRecDepth 20000
open Go.RowKit
set_option linter.unusedVariables false
set_option linter.unusedSimpArgs false
set_option maxHeartbeats 4000000

theorem refAvailAt7_any (A : Option Addr) (n c : Nat) (xs : List UInt8) (b k : Int) (i : Nat) (w : World) (hr : RdB w A n c xs) (hb : -9223372036854775808 ≤ b ∧ b ≤ 9223372036854775807) (hk : -9223372036854775808 ≤ k ∧ k ≤ 9223372036854775807) (hi : i < 65536) :
    Calls Try.prog 30 #[.agg #[.slice A n c], .int .i64 b, .int .i64 k, .int .u16 (i : Int)] w (RetT w (.int .i64 (rgAt xs b k i : Nat)) (.int .i64 (rgE n b k))) := by
  have hn := hr.n63
  unfold rgAt rgE
  rw [hr.2.1]
  obtain ⟨V, hV⟩ : ∃ V, V = w.alloc (.cells #[.slice A n c] 28) := ⟨_, rfl⟩
  have bV : Below w.heap.size w V := by rw [hV]; exact (below_self w).alloc (Nat.le_refl _) _
  have zV : w.heap.size < V.heap.size := by rw [hV]; simp
  have cV : V.cell? ⟨w.heap.size, 0, none⟩ = some (.slice A n c) := by rw [hV]; exact (alloc_box w _ _ 0).trans rfl
  have HV := Lib.hid hV
  have HC := Lib.hid (refCheck7_any A n c b k V hn hb hk)
  have hrV := hr.below bV
  clear hV
  by_cases h : rgCheck n b k = true
  · rw [if_pos h, if_pos h]
    rw [h] at HC
    have hc := of_decide_eq_true h
    have hkn := hc.2.1
    have hk16 := rgN_le hkn
    have hbk := rgBack_le hkn
    have hz := (rgSize_le k).2.2 hkn
    have hb3 : 0 ≤ b ∧ b ≤ 8192 := by omega
    obtain ⟨q, hq⟩ : ∃ q, q = 16 * k := ⟨_, rfl⟩
    rw [← hq]
    have hq0 : 0 ≤ q ∧ q ≤ 300 := by omega
    have hpl := rgPlace_le hkn i 2 (by omega)
    obtain ⟨m, hm⟩ : ∃ m : Nat, k = (m : Int) := ⟨k.toNat, by omega⟩
    obtain ⟨r, hr2⟩ : ∃ r, r = i % m := ⟨_, rfl⟩
    have hrp : rgPlace k i 2 = 4 + 2 * (r : Int) := by unfold rgPlace; rw [hr2, hm]; simp
    rw [hrp] at hpl ⊢
    have r1 : (i : Int) % k = (r : Int) := by rw [hm, hr2]; rfl
    have r2 : (i : Int).tmod k = (r : Int) := by rw [Int.tmod_eq_emod_of_nonneg (by omega)]; exact r1
    have k0 : ¬ (k = 0) := by omega
    have wi := wi64n (k := i) (by omega)
    obtain ⟨y, hy⟩ : ∃ y, y = 2 * (r : Int) := ⟨_, rfl⟩
    have y1 : 2 * (r : Int) = y := hy.symm
    obtain ⟨u, hu⟩ : ∃ u, u = b + q + 4 := ⟨_, rfl⟩
    obtain ⟨s, hs⟩ : ∃ s, s = b + (q + (4 + 2 * (r : Int))) := ⟨_, rfl⟩
    obtain ⟨t, ht⟩ : ∃ t, t = b + q := ⟨_, rfl⟩
    rw [← hs]
    have s1 : b + q = t := ht.symm
    have s2 : t + 4 = u := by omega
    have s3 : u + y = s := by omega
    have y0 : 0 ≤ y ∧ y ≤ 130 := by omega
    have u0 : 0 ≤ u ∧ u ≤ 9000 := by omega
    have wu : IntKind.i64.wrap u = u := by
      obtain ⟨pn, hpn⟩ : ∃ pn : Nat, u = (pn : Int) := ⟨u.toNat, by omega⟩
      rw [hpn]; exact wi64n (k := pn) (by omega)
    have wy : IntKind.i64.wrap y = y := by
      obtain ⟨pn, hpn⟩ : ∃ pn : Nat, y = (pn : Int) := ⟨y.toNat, by omega⟩
      rw [hpn]; exact wi64n (k := pn) (by omega)
    have wr := wi64n (k := r) (by omega)
    have hs0 : 0 ≤ s ∧ s ≤ 9000 := by omega
    have ht0 : 0 ≤ t ∧ t ≤ 9000 := by omega
    have ws : IntKind.i64.wrap s = s := by
      obtain ⟨pn, hpn⟩ : ∃ pn : Nat, s = (pn : Int) := ⟨s.toNat, by omega⟩
      rw [hpn]; exact wi64n (k := pn) (by omega)
    have wt : IntKind.i64.wrap t = t := by
      obtain ⟨pn, hpn⟩ : ∃ pn : Nat, t = (pn : Int) := ⟨t.toNat, by omega⟩
      rw [hpn]; exact wi64n (k := pn) (by omega)
    have hlt := memNum_lt xs s 2
    have HG := Lib.hid (fun W (hW : Below V.heap.size V W) => refGet7_any A n c xs s 2 W (hrV.below hW) (by omega) (by omega))
    obtain ⟨v, hv⟩ : ∃ v, memNum xs s 2 = v := ⟨_, rfl⟩
    rw [hv] at HG ⊢
    rw [show ((2 : Nat) : Int) = 2 from rfl, hv] at hlt
    have wv := wi64n (k := v) (by omega)
    have HQ := Lib.hid hq
    have HK := Lib.hid hkn
    clear hv hq hs ht hy hu hr2 hm hrp hpl hc hz hkn h hbk
    go_enter Try.func30, Try.ntmps30
    go_wp2_with fail
    rw [← HV.out]
    refine HC.out.mono ?_
    rintro e w2 ⟨rfl, hb2⟩
    have c2 := (hb2.cell (p := ⟨w.heap.size, 0, none⟩) zV).trans cV
    have zv2 : w.heap.size < w2.heap.size := Nat.lt_of_lt_of_le zV hb2.size
    go_wp2_with fail
    refine wp_region_seg (S := fun w' => Below w2.heap.size w2 w') 0 #[true, true, true, true, true, true, true, true, true, true, true, true, true, true, true, true] [(0, true), (1, true), (2, true), (6, true), (7, true), (8, true), (9, true), (10, true), (3, false), (4, true), (5, true), (11, true), (12, false), (13, true), (14, true), (15, true)] (by kernel_rfl) (by kernel_rfl) (fun _ _ d _ _ h => by first | (cases d <;> exact h) | cases h.1) ((Below.refl w2.heap.size w2).drew) ?_
    have HB := (Below.refl w2.heap.size w2).drew
    iterate 8 (refine seg_take (v := ?_) rfl (Or.inl ⟨by rfl, ?_⟩) ?_; rotate_left; (focus (intro w' hw'; have ja := (hw'.cell (p := ⟨w.heap.size, 0, none⟩) zv2).trans c2; go_simp <;> with_reducible rfl)); try simp only [Act.put, List.setIfInBounds_toArray, List.set_cons_zero, List.set_cons_succ])
    refine seg_run rfl (fun K hK => ?_)
    go_simp
    refine (refFirst7_any k _ HK.out).mono ?_
    rintro e_ w3 ⟨rfl, rfl⟩
    rw [← HQ.out]
    refine hK.out _ _ (HB) ?_
    clear hK
    try simp only [Act.put, List.setIfInBounds_toArray, List.set_cons_zero, List.set_cons_succ]
    iterate 3 (refine seg_take (v := ?_) rfl (Or.inl ⟨by rfl, ?_⟩) ?_; rotate_left; (focus (intro w' hw'; have ja := (hw'.cell (p := ⟨w.heap.size, 0, none⟩) zv2).trans c2; go_simp <;> with_reducible rfl)); try simp only [Act.put, List.setIfInBounds_toArray, List.set_cons_zero, List.set_cons_succ])
    refine seg_run rfl (fun K hK => ?_)
    go_simp
    refine (HG.out _ (below_then hb2 HB)).mono ?_
    rintro e_ w4 ⟨rfl, hb4⟩
    have HB := below_then HB hb4
    refine hK.out _ _ (HB) ?_
    clear hK
    try simp only [Act.put, List.setIfInBounds_toArray, List.set_cons_zero, List.set_cons_succ]
    iterate 3 (refine seg_take (v := ?_) rfl (Or.inl ⟨by rfl, ?_⟩) ?_; rotate_left; (focus (intro w' hw'; have ja := (hw'.cell (p := ⟨w.heap.size, 0, none⟩) zv2).trans c2; go_simp <;> with_reducible rfl)); try simp only [Act.put, List.setIfInBounds_toArray, List.set_cons_zero, List.set_cons_succ])
    refine seg_done (fun _ => ?_)
    refine wpAnyH_done (by kernel_rfl) ?_ _
    go_wp2_with fail
    go_ret2
    exact ⟨rfl, below_then bV (below_then hb2 HB)⟩
  · rw [if_neg h, if_neg h]
    have h' : rgCheck n b k = false := by simpa using h
    rw [h'] at HC
    clear h h'
    go_enter Try.func30, Try.ntmps30
    go_wp2_with fail
    rw [← HV.out]
    refine HC.out.mono ?_
    rintro e w2 ⟨rfl, hb2⟩
    go_wp2_with fail
    go_ret2
    exact ⟨rfl, below_then bV hb2⟩
end Go.Proofs.Ytnfepikgbdeomaa
