/-
  Layer 7: rings: UsedAt.
-/
import Derived.Test.YtnfepikgbdeomaaRingF
namespace Go.Proofs.Ytnfepikgbdeomaa
set_option maxRecDepth 20000
open Go.RowKit
set_option linter.unusedVariables false
set_option linter.unusedSimpArgs false
set_option maxHeartbeats 4000000

/-- A slice that lies below block B. -/
def Old (A : Option Addr) (B : Nat) : Prop := ∀ a, A = some a → a.block < B
theorem RdB.old {w : World} {A : Option Addr} {n c : Nat} {xs : List UInt8} (h : RdB w A n c xs) (hn : 0 < n) : Old A w.heap.size := by
  rcases h.1 with h0 | ⟨b, o, rfl, hl, _⟩
  · have := h.2.1; rw [List.map_eq_nil_iff.1 h0] at this; simp at this; omega
  · intro a e; injection e with e; subst e; exact hl
theorem rdB_old {w w' : World} {A : Option Addr} {n c B : Nat} {xs : List UInt8} (h : RdB w A n c xs) (ho : Old A B) (hb : Below B w w') : RdB w' A n c xs := by
  refine ⟨?_, h.2⟩
  rcases h.1 with h0 | ⟨b, o, rfl, hl, hc⟩
  · exact .inl h0
  · exact .inr ⟨b, o, rfl, Nat.lt_of_lt_of_le hl hb.size, fun i v hv => (hb.cell (p := ⟨b, o + i, none⟩) (ho ⟨b, o, none⟩ rfl)).trans (hc i v hv)⟩
theorem ringUsedAt1_any (g gi : Nat) (A : Option Addr) (n c : Nat) (xs : List UInt8) (at_ : Int) (o1 o2 : Value) (w : World) (hf : FdAt w g A n c at_) (hr : RdB w A n c xs) (ha : 0 ≤ at_ ∧ at_ ≤ 900000) (hg : gi < g) (ho : Old A gi) (hi : w.heap[gi]? = some (.cells #[o1, o2] 25 (0, 0))) :
    Calls Try.prog 71 #[.pointer (some ⟨g, 0, none⟩), .pointer (some ⟨gi, 0, none⟩)] w fun e w' => e = .returned (.tuple #[]) ∧ w'.heap[gi]? = some (.cells #[.int .u32 (memNum xs at_ 4), .int .u32 (memNum xs (at_ + 4) 4)] 25 (0, 0)) ∧ Below gi w w' := by
  have hh := fget_any g A n c xs at_ 4 w hf hr (by omega) (by omega)
  have h1 := memNum_lt xs at_ 4
  have h2 := memNum_lt xs (at_ + 4) 4
  have hh2 := fun W hf2 hr2 => fget_any g A n c xs (at_ + 4) 4 W hf2 hr2 (by omega) (by omega)
  rw [show ((4 : Nat) : Int) = 4 from rfl] at h1 h2
  obtain ⟨v1, hv1⟩ : ∃ v, memNum xs at_ 4 = v := ⟨_, rfl⟩
  obtain ⟨v2, hv2⟩ : ∃ v, memNum xs (at_ + 4) 4 = v := ⟨_, rfl⟩
  rw [hv1] at hh h1 ⊢
  rw [hv2] at hh2 h2 ⊢
  have HH := Lib.hid hh
  have HH2 := Lib.hid hh2
  have w1 : IntKind.u32.wrap (v1 : Int) = (v1 : Int) := by rw [IntKind.wrap_u32]; omega
  have w2 : IntKind.u32.wrap (v2 : Int) = (v2 : Int) := by rw [IntKind.wrap_u32]; omega
  have HI := Lib.hid hi
  clear hh hh2 hv1 hv2 hi
  go_enter Try.func71, Try.ntmps71
  go_wp2_with fail
  refine HH.out.mono ?_
  rintro e w3 ⟨rfl, hf3, hb3⟩
  have hi3 := (hb3.block gi hg).trans HI.out
  have hr3 : RdB w3 A n c xs := rdB_old hr ho (hb3.mono (Nat.le_of_lt hg))
  have c3 := (cell_of_row w3 gi 0 _ _ _ hi3).trans (show (#[o1, o2] : Array Value)[0]? = some o1 from rfl)
  have f3 : w3.frozen? ⟨gi, 0, none⟩ = false := frozen_of_row _ _ 0 _ _ hi3
  obtain ⟨V, hV⟩ : ∃ V, V = w3.setCell ⟨gi, 0, none⟩ (.int .u32 (v1 : Int)) := ⟨_, rfl⟩
  have rowV : V.heap[gi]? = some (.cells #[.int .u32 (v1 : Int), o2] 25 (0, 0)) := by rw [hV]; exact (setc_rowT hi3).trans rfl
  have fV : FdAt V g A n c (at_ + 4) := by rw [hV]; exact (Below.heap_setCell _ _ _ _ (by show g ≠ gi; omega)).trans hf3
  have bV : Below gi w V := by rw [hV]; exact (hb3.mono (Nat.le_of_lt hg)).setCell (p := ⟨gi, 0, none⟩) (Nat.le_refl _) _
  have rV : RdB V A n c xs := rdB_old hr ho bV
  have HV := Lib.hid hV
  have RV := Lib.hid rowV
  have FV := Lib.hid fV
  clear hV rowV fV hi3 hf3 hf
  go_wp2_with fail
  rw [← HV.out]
  refine (HH2.out V FV.out rV).mono ?_
  rintro e w4 ⟨rfl, hf4, hb4⟩
  have hi4 := (hb4.block gi hg).trans RV.out
  have c4 := (cell_of_row w4 gi 1 _ _ _ hi4).trans (show (#[.int .u32 (v1 : Int), o2] : Array Value)[1]? = some o2 from rfl)
  have f4 : w4.frozen? ⟨gi, 1, none⟩ = false := frozen_of_row _ _ 1 _ _ hi4
  have HI4 := Lib.hid hi4
  clear hi4
  go_wp2_with fail
  refine bodyPost_end (v := .tuple #[]) (by simp [results, Try.results71]) rfl ?_
  exact ⟨rfl, (setc_rowT HI4.out).trans rfl, (bV.trans (hb4.mono (Nat.le_of_lt hg))).setCell (p := ⟨gi, 1, none⟩) (Nat.le_refl _) _⟩
def rgUId (xs : List UInt8) (b k : Int) (i : Nat) : Nat := if rgCheck xs.length b k = true then memNum xs (b + (rgBack k + rgPlace k i 8)) 4 else 0
def rgULen (xs : List UInt8) (b k : Int) (i : Nat) : Nat := if rgCheck xs.length b k = true then memNum xs (b + (rgBack k + rgPlace k i 8) + 4) 4 else 0
theorem ringUsedAt_any (A : Option Addr) (n c : Nat) (xs : List UInt8) (b k : Int) (i : Nat) (w : World) (hr : RdB w A n c xs) (hb : -9223372036854775808 ≤ b ∧ b ≤ 9223372036854775807) (hk : -9223372036854775808 ≤ k ∧ k ≤ 9223372036854775807) (hi : i < 65536) :
    Calls Try.prog 17 #[.agg #[.slice A n c], .int .i64 b, .int .i64 k, .int .u16 (i : Int)] w (RetT w (.agg #[.int .u32 (rgUId xs b k i : Nat), .int .u32 (rgULen xs b k i : Nat)]) (.int .i64 (rgE n b k))) := by
  have hn := hr.n63
  unfold rgUId rgULen rgE
  rw [hr.2.1]
  obtain ⟨V, hV⟩ : ∃ V, V = ((w.alloc (.cells #[.slice A n c] 28)).alloc (.cells #[.int .u32 0, .int .u32 0] 25)).alloc (.cells #[.int .u32 0, .int .u32 0] 25) := ⟨_, rfl⟩
  have bV : Below w.heap.size w V := by rw [hV]; exact (((below_self w).alloc (Nat.le_refl _) _).alloc (by simp) _).alloc (by simp; omega) _
  have zV : V.heap.size = w.heap.size + 1 + 1 + 1 := by rw [hV]; simp
  have rV : V.heap[w.heap.size + 2]? = some (.cells #[.int .u32 0, .int .u32 0] 25 (0, 0)) := by rw [hV]; exact (show ((w.alloc (.cells #[.slice A n c] 28)).alloc (.cells #[.int .u32 0, .int .u32 0] 25)).heap.size = w.heap.size + 2 by simp) ▸ heap_alloc_new _ _
  have rO : V.heap[w.heap.size + 1]? = some (.cells #[.int .u32 0, .int .u32 0] 25 (0, 0)) := by rw [hV]; exact (heap_alloc_old _ _ (by simp)).trans (row2b ..)
  have rM : V.heap[w.heap.size]? = some (.cells #[.slice A n c] 28 (0, 0)) := by rw [hV]; exact (heap_alloc_old _ _ (by simp; omega)).trans (row2a ..)
  have cM : V.cell? ⟨w.heap.size, 0, none⟩ = some (.slice A n c) := (cell_of_row V _ 0 _ _ _ rM).trans rfl
  have HV := Lib.hid hV
  have RV := Lib.hid rV
  have RO := Lib.hid rO
  have ZV := Lib.hid zV
  have zv0 : w.heap.size < V.heap.size := by omega
  have hrV := hr.below bV
  clear hV rV rO zV
  by_cases h : rgCheck n b k = true
  · rw [if_pos h, if_pos h, if_pos h]
    have hc := of_decide_eq_true h
    have hkn := hc.2.1
    have hpl := rgPlace_le hkn i 8 (by omega)
    have hk16 := rgBack_le hkn
    have hnp : 0 < n := by have := (rgSize_le k).2.2 hkn; have := hc.2.2.2; omega
    have hold := hr.old hnp
    have hz := (rgSize_le k).2.2 hkn
    have hb2 : 0 ≤ b ∧ b ≤ 8192 := by omega
    obtain ⟨p, hp⟩ : ∃ p, p = rgBack k + rgPlace k i 8 := ⟨_, rfl⟩
    have hp0 : 0 ≤ p ∧ p ≤ 1000 := by omega
    rw [← hp]
    obtain ⟨v, hv⟩ : ∃ v, memNum xs (b + p) 4 = v := ⟨_, rfl⟩
    obtain ⟨u, hu⟩ : ∃ v, memNum xs (b + p + 4) 4 = v := ⟨_, rfl⟩
    rw [hv, hu]
    have hh := fun V2 (hb2 : Below V.heap.size V V2) => ringReading_yes A n c xs b k p 71 #[.pointer (some ⟨w.heap.size + 2, 0, none⟩)] V2 (fun W g w' => w'.heap[w.heap.size + 2]? = some (.cells #[.int .u32 (memNum xs (b + p) 4), .int .u32 (memNum xs (b + p + 4) 4)] 25 (0, 0)) ∧ Below (w.heap.size + 2) W w') (hrV.below hb2) hb hk h hp0 (fun args W => by go_simp)
      (fun W g hbW hg hs hf => ringUsedAt1_any g (w.heap.size + 2) A n c xs (b + p) _ _ W hf ((hrV.below hb2).below hbW) (by omega) (by have := ZV.out; have := hb2.size; omega) (fun a e => by have := hold a e; omega) ((hbW.block _ (by have := ZV.out; have := hb2.size; omega)).trans ((hb2.block _ (by have := ZV.out; omega)).trans RV.out)))
    rw [hv, hu] at hh
    have HH := Lib.hid hh
    obtain ⟨q, hq⟩ : ∃ q, q = rgBack k := ⟨_, rfl⟩
    obtain ⟨r, hr2⟩ : ∃ r, r = rgPlace k i 8 := ⟨_, rfl⟩
    rw [← hr2] at hp hpl
    rw [← hq] at hp
    have hqr : q + r = p := hp.symm
    have hq0 : 0 ≤ q ∧ q ≤ 292 := by omega
    have hr0 : 4 ≤ r ∧ r ≤ 130 := hpl
    have HQ := Lib.hid hq
    have HR2 := Lib.hid hr2
    have HK := Lib.hid hkn
    have wp : IntKind.i64.wrap p = p := by
      obtain ⟨pn, hpn⟩ : ∃ pn : Nat, p = (pn : Int) := ⟨p.toNat, by omega⟩
      rw [hpn]; exact wi64n (k := pn) (by omega)
    clear hh hv hu hp hc hz h hpl hkn hq hr2
    go_enter Try.func17, Try.ntmps17
    go_wp2_with fail
    rw [← HV.out]
    have HX := (Below.refl V.heap.size V).drew
    have HB := (Below.refl (w.heap.size + 2) V).drew
    have zv1 : w.heap.size < w.heap.size + 2 := by omega
    refine wp_region_plan (S := fun w' => Below (w.heap.size + 2) V w') [(0, true), (1, true), (2, true), (3, true), (5, true), (6, true), (9, true), (4, false), (7, false), (8, true), (10, false), (11, true)] (by kernel_rfl) (by kernel_rfl) (fun _ _ d _ _ h => by cases d <;> exact h) (HB) ?_
    iterate 7 (refine plan_take (v := ?_) rfl (Or.inl ⟨by rfl, ?_⟩) ?_; rotate_left; (focus (intro w' hw'; have ja := (hw'.cell (p := ⟨w.heap.size, 0, none⟩) zv1).trans cM; go_simp <;> with_reducible rfl)); try simp only [Act.put, List.setIfInBounds_toArray, List.set_cons_zero, List.set_cons_succ])
    refine plan_run rfl (fun K hK => ?_)
    go_simp
    refine (ringBack_any k _).mono ?_
    rintro e_ w2 ⟨z1, rfl, hz1, rfl⟩
    rw [hz1 HK.out, ← HQ.out]
    clear hz1
    refine hK.out _ _ (HB) ?_
    clear hK
    try simp only [Act.put, List.setIfInBounds_toArray, List.set_cons_zero, List.set_cons_succ]
    refine plan_run rfl (fun K hK => ?_)
    go_simp
    refine (ringPlace_any k i 8 _ hi (by omega)).mono ?_
    rintro e_ w2 ⟨z2, rfl, hz2, rfl⟩
    rw [hz2 HK.out, ← HR2.out]
    clear hz2
    refine hK.out _ _ (HB) ?_
    clear hK
    try simp only [Act.put, List.setIfInBounds_toArray, List.set_cons_zero, List.set_cons_succ]
    iterate 1 (refine plan_take (v := ?_) rfl (Or.inl ⟨by rfl, ?_⟩) ?_; rotate_left; (focus (intro w' hw'; have ja := (hw'.cell (p := ⟨w.heap.size, 0, none⟩) zv1).trans cM; go_simp <;> with_reducible rfl)); try simp only [Act.put, List.setIfInBounds_toArray, List.set_cons_zero, List.set_cons_succ])
    refine plan_run rfl (fun K hK => ?_)
    go_simp
    refine (HH.out _ HX).mono ?_
    rintro e_ w3 ⟨rfl, W, g, hbW, hg, hf, hrow, hb3⟩
    have HB9 : Below (w.heap.size + 2) V w3 := (HB.trans (hbW.mono (by have := ZV.out; have := HX.size; omega))).trans hb3
    refine hK.out _ _ (HB9) ?_
    clear hK
    try simp only [Act.put, List.setIfInBounds_toArray, List.set_cons_zero, List.set_cons_succ]
    iterate 1 (refine plan_take (v := ?_) rfl (Or.inl ⟨by rfl, ?_⟩) ?_; rotate_left; (focus (intro w' hw'; have ja := (hw'.cell (p := ⟨w.heap.size, 0, none⟩) zv1).trans cM; go_simp <;> with_reducible rfl)); try simp only [Act.put, List.setIfInBounds_toArray, List.set_cons_zero, List.set_cons_succ])
    refine plan_done ?_
    have c2 := (cell_of_row w3 _ 0 _ _ _ hrow).trans (show (#[.int .u32 (v : Int), .int .u32 (u : Int)] : Array Value)[0]? = some (.int .u32 (v : Int)) from rfl)
    have c3 := (cell_of_row w3 _ 1 _ _ _ hrow).trans (show (#[.int .u32 (v : Int), .int .u32 (u : Int)] : Array Value)[1]? = some (.int .u32 (u : Int)) from rfl)
    have rO3 := (HB9.block (w.heap.size + 1) (by omega)).trans RO.out
    have o0 := (cell_of_row w3 _ 0 _ _ _ rO3).trans (show (#[.int .u32 0, .int .u32 0] : Array Value)[0]? = some (.int .u32 0) from rfl)
    have o1 := (cell_of_row w3 _ 1 _ _ _ rO3).trans (show (#[.int .u32 0, .int .u32 0] : Array Value)[1]? = some (.int .u32 0) from rfl)
    have f0 : w3.frozen? ⟨w.heap.size + 1, 0, none⟩ = false := frozen_of_row _ _ 0 _ _ rO3
    have f1 : w3.frozen? ⟨w.heap.size + 1, 1, none⟩ = false := frozen_of_row _ _ 1 _ _ rO3
    have RO3 := Lib.hid rO3
    clear rO3 hrow
    go_wp2_with fail
    have hrow2 : ((w3.setCell ⟨w.heap.size + 1, 0, none⟩ (.int .u32 (v : Int))).setCell ⟨w.heap.size + 1, 1, none⟩ (.int .u32 (u : Int))).heap[w.heap.size + 1]? = some (.cells #[.int .u32 (v : Int), .int .u32 (u : Int)] 25 (0, 0)) := (setc_rowT (setc_rowT RO3.out)).trans rfl
    have hl := run_loadVar_row (P := Try.prog) _ _ _ 25 _ _ _ hrow2 Try.underlying25 rfl (by kernel_rfl)
    refine bodyPost_ret (v := .tuple #[.agg #[.int .u32 (v : Int), .int .u32 (u : Int)], .int .i64 0]) (by simp [results, Try.results17, asAddr, hl]) rfl ?_
    exact ⟨rfl, ((bV.trans (HB9.mono (by omega))).setCell (p := ⟨w.heap.size + 1, 0, none⟩) (by simp) _).setCell (p := ⟨w.heap.size + 1, 1, none⟩) (by simp) _⟩
  · have h' : rgCheck n b k = false := by simpa using h
    rw [if_neg h, if_neg h, if_neg h]
    have HH := Lib.hid (fun a d V2 => ringReading_no A n c b k a d V2 hn hb hk h')
    clear h h'
    go_enter Try.func17, Try.ntmps17
    go_wp2_with fail
    rw [← HV.out]
    have HX := (Below.refl V.heap.size V).drew
    have HB := (Below.refl (w.heap.size + 2) V).drew
    have zv1 : w.heap.size < w.heap.size + 2 := by omega
    refine wp_region_plan (S := fun w' => Below (w.heap.size + 2) V w') [(0, true), (1, true), (2, true), (3, true), (5, true), (6, true), (9, true), (4, false), (7, false), (8, true), (10, false), (11, true)] (by kernel_rfl) (by kernel_rfl) (fun _ _ d _ _ h => by cases d <;> exact h) (HB) ?_
    iterate 7 (refine plan_take (v := ?_) rfl (Or.inl ⟨by rfl, ?_⟩) ?_; rotate_left; (focus (intro w' hw'; have ja := (hw'.cell (p := ⟨w.heap.size, 0, none⟩) zv1).trans cM; go_simp <;> with_reducible rfl)); try simp only [Act.put, List.setIfInBounds_toArray, List.set_cons_zero, List.set_cons_succ])
    refine plan_run rfl (fun K hK => ?_)
    go_simp
    refine (ringBack_any k _).mono ?_
    rintro e_ w2 ⟨z1, rfl, hz1, rfl⟩
    clear hz1
    refine hK.out _ _ (HB) ?_
    clear hK
    try simp only [Act.put, List.setIfInBounds_toArray, List.set_cons_zero, List.set_cons_succ]
    refine plan_run rfl (fun K hK => ?_)
    go_simp
    refine (ringPlace_any k i 8 _ hi (by omega)).mono ?_
    rintro e_ w2 ⟨z2, rfl, hz2, rfl⟩
    clear hz2
    refine hK.out _ _ (HB) ?_
    clear hK
    try simp only [Act.put, List.setIfInBounds_toArray, List.set_cons_zero, List.set_cons_succ]
    iterate 1 (refine plan_take (v := ?_) rfl (Or.inl ⟨by rfl, ?_⟩) ?_; rotate_left; (focus (intro w' hw'; have ja := (hw'.cell (p := ⟨w.heap.size, 0, none⟩) zv1).trans cM; go_simp <;> with_reducible rfl)); try simp only [Act.put, List.setIfInBounds_toArray, List.set_cons_zero, List.set_cons_succ])
    refine plan_run rfl (fun K hK => ?_)
    go_simp
    refine (HH.out _ _ _).mono ?_
    rintro e_ w3 ⟨rfl, hb3⟩
    have HX9 := below_then HX hb3
    have HB9 := HX9.mono (show w.heap.size + 2 ≤ V.heap.size by have := ZV.out; omega)
    refine hK.out _ _ (HB9) ?_
    clear hK
    try simp only [Act.put, List.setIfInBounds_toArray, List.set_cons_zero, List.set_cons_succ]
    iterate 1 (refine plan_take (v := ?_) rfl (Or.inl ⟨by rfl, ?_⟩) ?_; rotate_left; (focus (intro w' hw'; have ja := (hw'.cell (p := ⟨w.heap.size, 0, none⟩) zv1).trans cM; go_simp <;> with_reducible rfl)); try simp only [Act.put, List.setIfInBounds_toArray, List.set_cons_zero, List.set_cons_succ])
    refine plan_done ?_
    have hrow := (HX9.block (w.heap.size + 2) (by have := ZV.out; omega)).trans RV.out
    have c2 := (cell_of_row w3 _ 0 _ _ _ hrow).trans (show (#[.int .u32 0, .int .u32 0] : Array Value)[0]? = some (.int .u32 0) from rfl)
    have c3 := (cell_of_row w3 _ 1 _ _ _ hrow).trans (show (#[.int .u32 0, .int .u32 0] : Array Value)[1]? = some (.int .u32 0) from rfl)
    have rO3 := (HX9.block (w.heap.size + 1) (by have := ZV.out; omega)).trans RO.out
    have o0 := (cell_of_row w3 _ 0 _ _ _ rO3).trans (show (#[.int .u32 0, .int .u32 0] : Array Value)[0]? = some (.int .u32 0) from rfl)
    have o1 := (cell_of_row w3 _ 1 _ _ _ rO3).trans (show (#[.int .u32 0, .int .u32 0] : Array Value)[1]? = some (.int .u32 0) from rfl)
    have f0 : w3.frozen? ⟨w.heap.size + 1, 0, none⟩ = false := frozen_of_row _ _ 0 _ _ rO3
    have f1 : w3.frozen? ⟨w.heap.size + 1, 1, none⟩ = false := frozen_of_row _ _ 1 _ _ rO3
    have RO3 := Lib.hid rO3
    clear rO3 hrow
    go_wp2_with fail
    have hrow2 : ((w3.setCell ⟨w.heap.size + 1, 0, none⟩ (.int .u32 0)).setCell ⟨w.heap.size + 1, 1, none⟩ (.int .u32 0)).heap[w.heap.size + 1]? = some (.cells #[.int .u32 0, .int .u32 0] 25 (0, 0)) := (setc_rowT (setc_rowT RO3.out)).trans rfl
    have hl := run_loadVar_row (P := Try.prog) _ _ _ 25 _ _ _ hrow2 Try.underlying25 rfl (by kernel_rfl)
    refine bodyPost_ret (v := .tuple #[.agg #[.int .u32 0, .int .u32 0], .int .i64 70]) (by simp [results, Try.results17, asAddr, hl]) rfl ?_
    exact ⟨rfl, ((below_then bV HX9).setCell (p := ⟨w.heap.size + 1, 0, none⟩) (by simp) _).setCell (p := ⟨w.heap.size + 1, 1, none⟩) (by simp) _⟩
end Go.Proofs.Ytnfepikgbdeomaa
