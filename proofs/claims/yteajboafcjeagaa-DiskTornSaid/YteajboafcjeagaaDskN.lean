/-
  Layer 5: disks: the law DiskTorn.
-/
import Derived.Test.YteajboafcjeagaaDskM
namespace Go.Proofs.Yteajboafcjeagaa
set_option maxRecDepth 20000
open Go.RowKit
set_option linter.unusedVariables false
set_option linter.unusedSimpArgs false
set_option maxHeartbeats 8000000

/-! ### A row of truth values of the call's own -/
theorem delemBo : ElemAt Try.prog 26 4 (.bool false) 1 := ⟨Try.underlying26, by kernel_rfl, rfl⟩
def OwBo (w : World) (base g n : Nat) (bs : List Bool) : Prop := w.ownsRow base 4 1 (.slice (some ⟨g, 0, none⟩) n n) n (bs.map Value.bool)
theorem OwBo.below {w w' : World} {base g n : Nat} {bs : List Bool} (h : OwBo w base g n bs) (hb : Below w.heap.size w w') : OwBo w' base g n bs := down_keep h hb
theorem OwBo.rd {w : World} {base g n : Nat} {bs : List Bool} (h : OwBo w base g n bs) (hn : n ≤ 1000000) : RdBo w (some ⟨g, 0, none⟩) n n bs := ⟨Rd.of_own h, by have := h.1; rw [List.length_map] at this; omega, Nat.le_refl _, by unfold maxLen; omega⟩
theorem wp_makeBo {ops : Array Oper} {rest : List Oper} {o : Oper} {a : Act} {w : World} {Q : Exit → Act → World → Prop} (hgd : o.guard = none) (l c : Operand) (ho : o.op = Op.makeSlice 26 l c)
    (kl kc : IntKind) (n : Nat) (hl : a.eval l = .int kl n) (hc : a.eval c = .int kc n) (hn : n ≤ 1000000)
    (h : ∀ w', OwBo w' w.heap.size w.heap.size n (List.replicate n false) → Below w.heap.size w w' → wpList Try.prog ops Q rest (a.put o.dst (.slice (some ⟨w.heap.size, 0, none⟩) n n)) w') : wpList Try.prog ops Q (o :: rest) a w := by
  obtain ⟨i, hi, hz, hsz, hby⟩ := info_parts delemBo.info
  refine wpList_make_full w hgd l c _ ho w.heap.size _ i _ 1 delemBo.slice hi hz hsz kl kc n n n hl hc rfl rfl (by rw [hby]; omega) (by unfold maxLen; omega) (Nat.le_refl _) (fun w' h1 h2 => h w' ?_ ?_)
  · unfold OwBo
    rw [Nat.mul_one, show (Value.bool false).cells = #[Value.bool false] from rfl, toList_madeCells_one] at h1
    rw [List.map_replicate]
    exact h1
  · exact ⟨h2.os, h2.tape, h2.output, h2.size, fun k hk => h2.block k hk (by simp)⟩
theorem bo_set (k n : Nat) (h : k < n) : (List.replicate k true ++ List.replicate (n - k) false).set k true = List.replicate (k + 1) true ++ List.replicate (n - (k + 1)) false := by
  rw [List.set_append_right _ _ (by simp), List.length_replicate, Nat.sub_self, show n - k = (n - (k + 1)) + 1 by omega, List.replicate_succ, List.set_cons_zero, List.replicate_succ' (n := k)]
  simp
def BoI (V : World) (g n : Nat) (v : Value) (wr : World) : Prop := ∃ k : Nat, k ≤ n ∧ v = .int .i64 (k : Int) ∧ OwBo wr V.heap.size g n (List.replicate k true ++ List.replicate (n - k) false) ∧ Below V.heap.size V wr
/-! ### What stands between two rounds -/
def TornI (V : World) (n : Nat) (v : Value) (wr : World) : Prop := ∃ k : Nat, k ≤ n ∧ v = .int .i64 (k : Int) ∧ Below V.heap.size V wr
def TornJ (V : World) (n : Nat) (Ei Si : List UInt8) (l : List (Int × List UInt8)) (i : Int) (v8 v9 : Value) (wr : World) : Prop :=
  ∃ (b : Bool) (k : Nat), k ≤ n ∧ v8 = .bool b ∧ v9 = .int .i64 (k : Int) ∧ (b = false → Ei ≠ Si ∧ ∀ j, j < k → ¬ ((l.getD j (0, [])).1 = i ∧ (l.getD j (0, [])).2 = Ei)) ∧ Below V.heap.size V wr
theorem dkKeep_all (n j : Nat) (h : j < n) : dkKeep (List.replicate n true) j = true := by simp [dkKeep, h]
theorem dkCrash_all {D : Dk} (h : dkOk D = true) : dkCrash D (List.replicate D.k.length true) = dkFlush D := by
  unfold dkCrash dkFlush
  rw [if_pos h, if_pos h]
  exact dkLeft_congr D _ _ (fun j hj => dkKeep_all _ j hj)
theorem dskTorn_early (S : Option Addr) (sn sc : Nat) (K : Option Addr) (kn kc : Nat) (D : Dk) (A : Option Addr) (n c : Nat) (bs : List Bool) (w : World) (hr : RdDk w S sn sc K kn kc D) (hb : RdBo w A n c bs) (h : dkFew D = false ∨ (dkFew D = true ∧ dkOk D = false) ∨ (dkFew D = true ∧ dkOk D = true ∧ 700 < n)) :
    Calls Try.prog 6 #[.agg #[.slice S sn sc, .slice K kn kc], .slice A n c] w (RetV w (.bool true)) := by
  have hn63 := hb.n63
  obtain ⟨AV, hAV⟩ : ∃ AV : Array Value, AV = #[.slice S sn sc, .slice K kn kc] := ⟨_, rfl⟩
  have v : DkVal AV w D := ⟨S, sn, sc, K, kn, kc, hAV, hr⟩
  rw [← hAV]
  obtain ⟨V, hV⟩ : ∃ V, V = w.alloc (.cells AV 25) := ⟨_, rfl⟩
  have bV : Below w.heap.size w V := by rw [hV]; exact (below_self w).alloc (Nat.le_refl _) _
  have q : Hid (DkV V w.heap.size AV D) := Lib.hid ⟨by rw [hV]; exact drw_at _ rfl, v.below bV⟩
  have q0 := q
  have HV := Lib.hid hV
  have C1 := Lib.hid (fun W (v : DkVal AV W D) => vFew v)
  have C2 := Lib.hid (fun W (v : DkVal AV W D) => vRefCheck v)
  clear hV hAV v
  rcases h with h | ⟨h1, h2⟩ | ⟨h1, h2, h3⟩
  · rw [h] at C1
    clear h
    go_enter Try.func6, Try.ntmps6
    go_wp2_with (rw [← HV.out]; refine dk_load rfl _ rfl rfl q.out ?_)
    refine (C1.out V q.out.2).mono ?_
    rintro e w1 ⟨rfl, hb1⟩
    go_wp2_with fail
    refine (heads05 _).mono ?_
    rintro e w9 ⟨rfl, hb9⟩
    go_wp2
    go_ret
    exact ⟨rfl, below_then (below_then bV hb1) hb9⟩
  · rw [h1] at C1
    rw [h2] at C2
    clear h1 h2
    go_enter Try.func6, Try.ntmps6
    go_wp2_with (rw [← HV.out]; refine dk_load rfl _ rfl rfl q.out ?_)
    refine (C1.out V q.out.2).mono ?_
    rintro e w1 ⟨rfl, hb1⟩
    have q := Lib.hid (q.out.up hb1)
    go_wp2_with (refine wpList_unguard (by rfl) (dk_load rfl _ rfl rfl q.out ?_))
    refine (C2.out w1 q.out.2).mono ?_
    rintro e w2 ⟨rfl, hb2⟩
    go_wp2_with fail
    refine (heads05 _).mono ?_
    rintro e w9 ⟨rfl, hb9⟩
    go_wp2
    go_ret
    exact ⟨rfl, below_then (below_then (below_then bV hb1) hb2) hb9⟩
  · rw [h1] at C1
    rw [h2] at C2
    have d1 : decide ((700 : Int) < (n : Int)) = true := decide_eq_true (by omega)
    clear h1 h2 h3
    go_enter Try.func6, Try.ntmps6
    go_wp2_with (rw [← HV.out]; refine dk_load rfl _ rfl rfl q.out ?_)
    refine (C1.out V q.out.2).mono ?_
    rintro e w1 ⟨rfl, hb1⟩
    have q := Lib.hid (q.out.up hb1)
    go_wp2_with (refine wpList_unguard (by rfl) (dk_load rfl _ rfl rfl q.out ?_))
    refine (C2.out w1 q.out.2).mono ?_
    rintro e w2 ⟨rfl, hb2⟩
    go_wp2_with fail
    refine (heads05 _).mono ?_
    rintro e w9 ⟨rfl, hb9⟩
    go_wp2
    go_ret
    exact ⟨rfl, below_then (below_then (below_then bV hb1) hb2) hb9⟩
theorem dskTorn_main (S : Option Addr) (sn sc : Nat) (K : Option Addr) (kn kc : Nat) (D : Dk) (A : Option Addr) (n c : Nat) (bs : List Bool) (w : World) (hr : RdDk w S sn sc K kn kc D) (hb : RdBo w A n c bs) (h1 : dkFew D = true) (h2 : dkOk D = true) (h3 : n ≤ 700) :
    Calls Try.prog 6 #[.agg #[.slice S sn sc, .slice K kn kc], .slice A n c] w (RetV w (.bool true)) := by
  have hn63 := hb.n63
  have hsl := hr.sl
  have hkl := hr.kl
  have hsn : sn ≤ 256 := by rw [← hsl]; exact ((dkOk_iff D).1 h2).1
  have hkn : kn ≤ 512 := by rw [← hkl]; exact ((dkOk_iff D).1 h2).2.1
  obtain ⟨AV, hAV⟩ : ∃ AV : Array Value, AV = #[.slice S sn sc, .slice K kn kc] := ⟨_, rfl⟩
  have v : DkVal AV w D := ⟨S, sn, sc, K, kn, kc, hAV, hr⟩
  have c0 : ∀ (W : World), DkV W w.heap.size AV D → W.cell? ⟨w.heap.size, 0, none⟩ = some (.slice S sn sc) := fun W q => (cell_of_row _ _ 0 _ _ _ q.1).trans (by rw [hAV]; rfl)
  have c1 : ∀ (W : World), DkV W w.heap.size AV D → W.cell? ⟨w.heap.size, 1, none⟩ = some (.slice K kn kc) := fun W q => (cell_of_row _ _ 1 _ _ _ q.1).trans (by rw [hAV]; rfl)
  have H0 := Lib.hid c0
  have H1 := Lib.hid c1
  rw [← hAV]
  obtain ⟨V, hV⟩ : ∃ V, V = w.alloc (.cells AV 25) := ⟨_, rfl⟩
  have bV : Below w.heap.size w V := by rw [hV]; exact (below_self w).alloc (Nat.le_refl _) _
  have q : Hid (DkV V w.heap.size AV D) := Lib.hid ⟨by rw [hV]; exact drw_at _ rfl, v.below bV⟩
  have HV := Lib.hid hV
  have C1 := Lib.hid (fun W (v : DkVal AV W D) => vFew v)
  have C2 := Lib.hid (fun W (v : DkVal AV W D) => vRefCheck v)
  rw [h1] at C1
  rw [h2] at C2
  have hE0 : dkE D = 0 := by unfold dkE; rw [if_pos h2]
  have hCr : dkCrash D bs = dkLeft D (dkKeep bs) := by unfold dkCrash; rw [if_pos h2]
  obtain ⟨E, hE⟩ : ∃ E, dkCrash D bs = E := ⟨_, rfl⟩
  have hEs : E.s.length = sn := by rw [← hE, hCr, dkLeft_len, hsl]
  have hEk : E.k.length = 0 := by rw [← hE, hCr]; rfl
  have hEi : ∀ i, i < sn → E.s.getD i [] = D.s.getD i [] ∨ ∃ j, j < kn ∧ (D.k.getD j (0, [])).1 = (i : Int) ∧ (D.k.getD j (0, [])).2 = E.s.getD i [] := fun i hi => by
    rw [← hE, hCr, dkLeft_s D _ i (by omega), ← hkl]
    exact dkAt_or D (dkKeep bs) i
  have C3 := Lib.hid (fun W (v : DkVal AV W D) (hb : RdBo W A n c bs) => vCrash v A n c bs hb)
  rw [hE, hE0] at C3
  obtain ⟨G, hG⟩ : ∃ E, dkFlush D = E := ⟨_, rfl⟩
  have C4 := Lib.hid (fun W (v : DkVal AV W D) => vFlush v)
  rw [hG, hE0] at C4
  have C5 := Lib.hid (fun W (v : DkVal AV W D) (g : Nat) (hb : RdBo W (some ⟨g, 0, none⟩) kn kn (List.replicate kn true)) => vCrash v (some ⟨g, 0, none⟩) kn kn (List.replicate kn true) hb)
  have hall := dkCrash_all h2
  rw [hkl, hG] at hall
  rw [hall, hE0] at C5
  have C6 := Lib.hid (fun BV CV W (v : DkVal BV W G) (u : DkVal CV W G) => vSame v u)
  have d1 : decide ((700 : Int) < (n : Int)) = false := decide_eq_false (by omega)
  have HES := Lib.hid hEs
  have HEK := Lib.hid hEk
  have HEI := Lib.hid hEi
  obtain ⟨⟨vs, hs⟩, us, hus⟩ := id hr
  have HS := Lib.hid hs
  have HUS := Lib.hid hus
  have t1 : ((sn : Int) != (sn : Int)) = false := by simp
  have HOK := Lib.hid h2
  have HSL := Lib.hid hsl
  have HKL := Lib.hid hkl
  clear hV hAV v c0 c1 h1 h2 h3 hE hG hE0 hCr hEs hEk hEi hall hs hus hsl hkl
  go_enter Try.func6, Try.ntmps6
  go_wp2_with (rw [← HV.out]; refine dk_load rfl _ rfl rfl q.out ?_)
  refine (C1.out V q.out.2).mono ?_
  rintro e w1 ⟨rfl, hb1⟩
  have q := Lib.hid (q.out.up hb1)
  have B := below_then bV hb1
  go_wp2_with (refine wpList_unguard (by rfl) (dk_load rfl _ rfl rfl q.out ?_))
  refine (C2.out w1 q.out.2).mono ?_
  rintro e w2 ⟨rfl, hb2⟩
  have q := Lib.hid (q.out.up hb2)
  have B := below_then B hb2
  go_wp2_with (refine dk_load rfl _ rfl rfl q.out ?_)
  refine (C3.out w2 q.out.2 (hb.below B)).mono ?_
  rintro e w3 ⟨A3, rfl, v3, hb3⟩
  have q := Lib.hid (q.out.up hb3)
  have B := below_then B hb3
  go_wp2_with (refine dk_fresh rfl _ _ rfl rfl rfl w3 rfl rfl v3 ?_; intro X3 q3 x3; have q := Lib.hid (q.out.up x3); obtain ⟨S3, c3, vs3, hc3, hs3⟩ := q3.out.c0; obtain ⟨K3, kc3, hk3⟩ := q3.out.c1; rw [HES.out] at hc3 hs3; rw [HEK.out] at hk3; have k0 := H0.out _ q.out; have k1 := H1.out _ q.out)
  have B := below_then B x3
  have l3 := q3.out.lt
  have lq := q.out.lt
  have HC3 := Lib.hid hc3
  have HS3 := Lib.hid hs3
  have HK0 := Lib.hid k0
  have HK1 := Lib.hid k1
  clear hc3 hs3 hk3 k0 k1
  go_loopw [7] (TornI X3 sn) (fun v _ => sn - (intOf v).toNat)
  case atStart => exact ⟨0, by omega, rfl, Below.refl _ _⟩
  case round =>
  obtain ⟨i, hi, rfl, hI⟩ := hrel
  obtain ⟨wo, rfl⟩ : ∃ W : World, W = wr := ⟨_, rfl⟩
  have BI := below_then B hI
  have c3i := (hI.cell (p := ⟨w3.heap.size, 0, none⟩) l3).trans HC3.out
  have lqw : w.heap.size < wo.heap.size := Nat.lt_of_lt_of_le lq hI.size
  have l3w : w3.heap.size < wo.heap.size := Nat.lt_of_lt_of_le l3 hI.size
  by_cases hlt : i < sn
  · obtain ⟨b5, o5, B5, m5, d5, hS3e, hb5, hc5, hy5⟩ := (HS3.out.below hI).at_ i hlt
    obtain ⟨b6, o6, B6, m6, d6, hSe, hb6, hc6, hy6⟩ := (HS.out.below BI).at_ i hlt
    obtain ⟨Ei, hEi⟩ : ∃ Y, E.s.getD i [] = Y := ⟨_, rfl⟩
    obtain ⟨Si, hSi⟩ : ∃ Y, D.s.getD i [] = Y := ⟨_, rfl⟩
    rw [hEi] at hy5
    rw [hSi] at hy6
    have hor := HEI.out i hlt
    rw [hEi, hSi] at hor
    have HOR := Lib.hid hor
    have k0 := (hI.cell (p := ⟨w.heap.size, 0, none⟩) lq).trans HK0.out
    have k1 := (hI.cell (p := ⟨w.heap.size, 1, none⟩) lq).trans HK1.out
    subst hS3e
    have k0' := k0
    rw [hSe] at k0'
    obtain ⟨T, hT⟩ : ∃ T, decide (Ei = Si) = T := ⟨_, rfl⟩
    have HT := Lib.hid hT
    have HSE := Lib.hid hSe
    have HEi := Lib.hid hEi
    clear hEi hSi hor hT k0 hSe
    go_wp2_with fail
    refine wp_region_seg (S := fun w' => Below wo.heap.size wo w') 0 #[true, true, true, true, true, true, true, true, true, true, true, true] [(0, true), (1, true), (2, true), (3, true), (4, true), (5, true), (6, true), (7, true), (8, true), (9, true), (10, false), (11, true)] (by kernel_rfl) (by kernel_rfl) (fun _ _ d _ _ h => by first | (cases d <;> exact h) | cases h.1) ((Below.refl wo.heap.size wo).drew) ?_
    have HB := (Below.refl wo.heap.size wo).drew
    iterate 10 (refine seg_take (v := ?_) rfl (Or.inl ⟨by rfl, ?_⟩) ?_; rotate_left; (focus (intro w' hw'; have j0 := (hw'.cell (p := ⟨w3.heap.size, 0, none⟩) l3w).trans c3i; have j1 := (hw'.cell (p := ⟨w.heap.size, 0, none⟩) lqw).trans k0'; have j2 := (hw'.cell (p := ⟨b5, o5 + i, none⟩) hb5).trans hc5; have j3 := (hw'.cell (p := ⟨b6, o6 + i, none⟩) hb6).trans hc6; go_simp <;> with_reducible rfl)); try simp only [Act.put, List.setIfInBounds_toArray, List.set_cons_zero, List.set_cons_succ])
    refine seg_run rfl (fun K hK => ?_)
    go_simp
    refine (bytes_any B5 B6 m5 d5 m6 d6 Ei Si _ (hy5.below HB) (hy6.below HB)).mono ?_
    rintro e_ u1 ⟨rfl, rfl⟩
    rw [HT.out]
    refine hK.out _ _ (HB) ?_
    clear hK
    try simp only [Act.put, List.setIfInBounds_toArray, List.set_cons_zero, List.set_cons_succ]
    iterate 1 (refine seg_take (v := ?_) rfl (Or.inl ⟨by rfl, ?_⟩) ?_; rotate_left; (focus (intro w' hw'; have j0 := (hw'.cell (p := ⟨w3.heap.size, 0, none⟩) l3w).trans c3i; have j1 := (hw'.cell (p := ⟨w.heap.size, 0, none⟩) lqw).trans k0'; have j2 := (hw'.cell (p := ⟨b5, o5 + i, none⟩) hb5).trans hc5; have j3 := (hw'.cell (p := ⟨b6, o6 + i, none⟩) hb6).trans hc6; go_simp <;> with_reducible rfl)); try simp only [Act.put, List.setIfInBounds_toArray, List.set_cons_zero, List.set_cons_succ])
    refine seg_done (fun _ => ?_)
    refine wpAnyH_done (by kernel_rfl) ?_ _
    obtain ⟨W9, hW9⟩ : ∃ W, W = wo.drew := ⟨_, rfl⟩
    rw [← hW9] at HB ⊢
    have B9 := below_then BI HB
    have I9 := below_then hI HB
    clear hW9 c3i k1 k0' hc5 hc6 hb6
    go_wp2_with fail
    go_loopw [8, 9] (TornJ W9 kn Ei Si D.k (i : Int)) (fun _ k _ => kn - (intOf k).toNat)
    case atStart => exact ⟨T, 0, by omega, rfl, rfl, fun hh => ⟨fun e => by rw [← HT.out, e] at hh; simp at hh, fun j hj => by omega⟩, Below.refl _ _⟩
    case round =>
    obtain ⟨bb, k, hk, rfl, rfl, hJ, hBj⟩ := hrel
    obtain ⟨wk, rfl⟩ : ∃ W : World, W = wr := ⟨_, rfl⟩
    have HJ := Lib.hid hJ
    have IK := below_then I9 hBj
    have BK := below_then B9 hBj
    have k1 := (IK.cell (p := ⟨w.heap.size, 1, none⟩) lq).trans HK1.out
    have c3k := (IK.cell (p := ⟨w3.heap.size, 0, none⟩) l3).trans HC3.out
    have lqk : w.heap.size < wk.heap.size := Nat.lt_of_lt_of_le lq IK.size
    have l3k : w3.heap.size < wk.heap.size := Nat.lt_of_lt_of_le l3 IK.size
    clear hJ
    cases bb with
    | true =>
      by_cases hkl : k < kn
      · have dk : decide ((k : Int) < (kn : Int)) = true := decide_eq_true (by omega)
        go_wp2_with fail
        go_roundw
        case rel => exact ⟨i + 1, by omega, by go_num, IK⟩
        case measure => simp [intOf]; omega
      · have dk : decide ((k : Int) < (kn : Int)) = false := decide_eq_false (by omega)
        go_wp2_with fail
        go_roundw
        case rel => exact ⟨i + 1, by omega, by go_num, IK⟩
        case measure => simp [intOf]; omega
    | false =>
      obtain ⟨hne, hno⟩ := HJ.out rfl
      by_cases hkl : k < kn
      · have dk : decide ((k : Int) < (kn : Int)) = true := decide_eq_true (by omega)
        obtain ⟨b7, o7, B7, m7, d7, hKe, hb7, hc70, hc71, hy7, hrg⟩ := (HUS.out.below BK).at_ k hkl
        obtain ⟨b8, o8, B8, m8, d8, hS8, hb8, hc8, hy8⟩ := (HS3.out.below IK).at_ i hlt
        injection hS8 with hS8
        injection hS8 with e8 e9
        subst e8 e9
        obtain ⟨a7, ha7⟩ : ∃ a, (D.k.getD k (0, [])).1 = a := ⟨_, rfl⟩
        obtain ⟨Y7, hY7⟩ : ∃ y, (D.k.getD k (0, [])).2 = y := ⟨_, rfl⟩
        rw [HEi.out] at hy8
        rw [ha7] at hc70
        rw [hY7] at hy7
        have k1' := k1
        rw [hKe] at k1'
        have HA7 := Lib.hid ha7
        have HY7 := Lib.hid hY7
        have lk : (k : Int) < (kn : Int) := by omega
        have li : (i : Int) < (sn : Int) := by omega
        have HNE := Lib.hid hne
        have HNO := Lib.hid hno
        have hstep : ∀ (hx : ¬ (a7 = (i : Int) ∧ Y7 = Ei)), ∀ j, j < k + 1 → ¬ ((D.k.getD j (0, [])).1 = (i : Int) ∧ (D.k.getD j (0, [])).2 = Ei) := fun hx j hj => by
          rcases Nat.lt_or_ge j k with h | h
          · exact HNO.out j h
          · obtain rfl : j = k := by omega
            rw [HA7.out, HY7.out]; exact hx
        have HST := Lib.hid hstep
        clear ha7 hY7 k1 hKe hne hno hrg hstep
        by_cases hq : a7 = (i : Int)
        · have d9 : (a7 == (i : Int)) = true := by rw [hq]; simp
          obtain ⟨T7, hT7⟩ : ∃ T, decide (Ei = Y7) = T := ⟨_, rfl⟩
          have HT7 := Lib.hid hT7
          have HQ := Lib.hid hq
          clear hq hT7
          go_wp2_with fail
          refine wp_region_seg (S := fun w' => Below wk.heap.size wk w') 0 #[true, true, true, true, true, true, true, true, true, true, true, true, true, true, true, true, true, true, true, true, true, true, true] [(0, true), (1, true), (2, true), (3, true), (4, true), (5, true), (6, true), (7, true), (8, true), (9, true), (10, true), (11, true), (12, true), (13, true), (14, true), (15, true), (16, true), (17, true), (18, true), (19, true), (20, false), (21, true), (22, true)] (by kernel_rfl) (by kernel_rfl) (fun _ _ d _ _ h => by first | (cases d <;> exact h) | cases h.1) ((Below.refl wk.heap.size wk).drew) ?_
          have HB := (Below.refl wk.heap.size wk).drew
          iterate 9 (refine seg_take (v := ?_) rfl (Or.inl ⟨by rfl, ?_⟩) ?_; rotate_left; (focus (intro w' hw'; have j0 := (hw'.cell (p := ⟨w3.heap.size, 0, none⟩) l3k).trans c3k; have j1 := (hw'.cell (p := ⟨w.heap.size, 1, none⟩) lqk).trans k1'; have j2 := (hw'.cell (p := ⟨b5, o5 + i, none⟩) hb8).trans hc8; have j3 := (hw'.cell (p := ⟨b7, o7 + k * 2, none⟩) hb7).trans hc70; have j4 := (hw'.cell (p := ⟨b7, o7 + k * 2 + 1, none⟩) hb7).trans hc71; go_simp <;> with_reducible rfl)); try simp only [Act.put, List.setIfInBounds_toArray, List.set_cons_zero, List.set_cons_succ])
          iterate 11 ((first | refine seg_take (v := undef) rfl (Or.inr ⟨by rfl, rfl⟩) ?_ | (refine seg_take (v := ?_) rfl (Or.inl ⟨by rfl, ?_⟩) ?_; rotate_left; (focus (intro w' hw'; have j0 := (hw'.cell (p := ⟨w3.heap.size, 0, none⟩) l3k).trans c3k; have j1 := (hw'.cell (p := ⟨w.heap.size, 1, none⟩) lqk).trans k1'; have j2 := (hw'.cell (p := ⟨b5, o5 + i, none⟩) hb8).trans hc8; have j3 := (hw'.cell (p := ⟨b7, o7 + k * 2, none⟩) hb7).trans hc70; have j4 := (hw'.cell (p := ⟨b7, o7 + k * 2 + 1, none⟩) hb7).trans hc71; go_simp <;> with_reducible rfl)))); try simp only [Act.put, List.setIfInBounds_toArray, List.set_cons_zero, List.set_cons_succ])
          refine seg_run rfl (fun K hK => ?_)
          go_simp
          refine (bytes_any B8 B7 m8 d8 m7 d7 Ei Y7 _ (hy8.below HB) (hy7.below HB)).mono ?_
          rintro e_ u1 ⟨rfl, rfl⟩
          rw [HT7.out]
          refine hK.out _ _ (HB) ?_
          clear hK
          try simp only [Act.put, List.setIfInBounds_toArray, List.set_cons_zero, List.set_cons_succ]
          iterate 2 (refine seg_take (v := ?_) rfl (Or.inl ⟨by rfl, ?_⟩) ?_; rotate_left; (focus (intro w' hw'; have j0 := (hw'.cell (p := ⟨w3.heap.size, 0, none⟩) l3k).trans c3k; have j1 := (hw'.cell (p := ⟨w.heap.size, 1, none⟩) lqk).trans k1'; have j2 := (hw'.cell (p := ⟨b5, o5 + i, none⟩) hb8).trans hc8; have j3 := (hw'.cell (p := ⟨b7, o7 + k * 2, none⟩) hb7).trans hc70; have j4 := (hw'.cell (p := ⟨b7, o7 + k * 2 + 1, none⟩) hb7).trans hc71; go_simp <;> with_reducible rfl)); try simp only [Act.put, List.setIfInBounds_toArray, List.set_cons_zero, List.set_cons_succ])
          refine seg_done (fun _ => ?_)
          refine wpAnyH_done (by kernel_rfl) ?_ _
          go_wp2_with fail
          go_roundw
          case rel => exact ⟨T7, k + 1, by omega, rfl, by go_num, fun hh => ⟨HNE.out, HST.out (fun hx => by have := HT7.out; rw [hh] at this; exact of_decide_eq_false this hx.2.symm)⟩, below_then hBj HB⟩
          case measure => simp [intOf]; omega
        · have d9 : (a7 == (i : Int)) = false := beq_eq_false_iff_ne.2 hq
          have HQ := Lib.hid hq
          clear hq
          go_wp2_with fail
          refine wp_region_seg (S := fun w' => Below wk.heap.size wk w') 0 #[true, true, true, true, true, true, true, true, true, true, true, true, true, true, true, true, true, true, true, true, true, true, true] [(0, true), (1, true), (2, true), (3, true), (4, true), (5, true), (6, true), (7, true), (8, true), (9, true), (10, true), (11, true), (12, true), (13, true), (14, true), (15, true), (16, true), (17, true), (18, true), (19, true), (20, false), (21, true), (22, true)] (by kernel_rfl) (by kernel_rfl) (fun _ _ d _ _ h => by first | (cases d <;> exact h) | cases h.1) ((Below.refl wk.heap.size wk).drew) ?_
          have HB := (Below.refl wk.heap.size wk).drew
          iterate 9 (refine seg_take (v := ?_) rfl (Or.inl ⟨by rfl, ?_⟩) ?_; rotate_left; (focus (intro w' hw'; have j0 := (hw'.cell (p := ⟨w3.heap.size, 0, none⟩) l3k).trans c3k; have j1 := (hw'.cell (p := ⟨w.heap.size, 1, none⟩) lqk).trans k1'; have j2 := (hw'.cell (p := ⟨b5, o5 + i, none⟩) hb8).trans hc8; have j3 := (hw'.cell (p := ⟨b7, o7 + k * 2, none⟩) hb7).trans hc70; have j4 := (hw'.cell (p := ⟨b7, o7 + k * 2 + 1, none⟩) hb7).trans hc71; go_simp <;> with_reducible rfl)); try simp only [Act.put, List.setIfInBounds_toArray, List.set_cons_zero, List.set_cons_succ])
          iterate 11 ((first | refine seg_take (v := undef) rfl (Or.inr ⟨by rfl, rfl⟩) ?_ | (refine seg_take (v := ?_) rfl (Or.inl ⟨by rfl, ?_⟩) ?_; rotate_left; (focus (intro w' hw'; have j0 := (hw'.cell (p := ⟨w3.heap.size, 0, none⟩) l3k).trans c3k; have j1 := (hw'.cell (p := ⟨w.heap.size, 1, none⟩) lqk).trans k1'; have j2 := (hw'.cell (p := ⟨b5, o5 + i, none⟩) hb8).trans hc8; have j3 := (hw'.cell (p := ⟨b7, o7 + k * 2, none⟩) hb7).trans hc70; have j4 := (hw'.cell (p := ⟨b7, o7 + k * 2 + 1, none⟩) hb7).trans hc71; go_simp <;> with_reducible rfl)))); try simp only [Act.put, List.setIfInBounds_toArray, List.set_cons_zero, List.set_cons_succ])
          refine seg_run rfl (fun K hK => ?_)
          go_simp
          refine hK.out _ _ (HB) ?_
          clear hK
          try simp only [Act.put, List.setIfInBounds_toArray, List.set_cons_zero, List.set_cons_succ]
          iterate 2 (refine seg_take (v := ?_) rfl (Or.inl ⟨by rfl, ?_⟩) ?_; rotate_left; (focus (intro w' hw'; have j0 := (hw'.cell (p := ⟨w3.heap.size, 0, none⟩) l3k).trans c3k; have j1 := (hw'.cell (p := ⟨w.heap.size, 1, none⟩) lqk).trans k1'; have j2 := (hw'.cell (p := ⟨b5, o5 + i, none⟩) hb8).trans hc8; have j3 := (hw'.cell (p := ⟨b7, o7 + k * 2, none⟩) hb7).trans hc70; have j4 := (hw'.cell (p := ⟨b7, o7 + k * 2 + 1, none⟩) hb7).trans hc71; go_simp <;> with_reducible rfl)); try simp only [Act.put, List.setIfInBounds_toArray, List.set_cons_zero, List.set_cons_succ])
          refine seg_done (fun _ => ?_)
          refine wpAnyH_done (by kernel_rfl) ?_ _
          go_wp2_with fail
          go_roundw
          case rel => exact ⟨false, k + 1, by omega, rfl, by go_num, fun hh => ⟨HNE.out, HST.out (fun hx => HQ.out hx.1)⟩, below_then hBj HB⟩
          case measure => simp [intOf]; omega
      · obtain rfl : kn = k := by omega
        exfalso
        rcases HOR.out with e | ⟨j, hj, e1, e2⟩
        · exact hne e
        · exact hno j hj ⟨e1, e2⟩
  obtain rfl : sn = i := by omega
  have k1 := (hI.cell (p := ⟨w.heap.size, 1, none⟩) lq).trans HK1.out
  have qo := Lib.hid (q.out.up hI)
  clear HC3 HS3 HK0
  go_wp2_with (refine wp_makeBo rfl _ _ rfl .i64 .i64 kn rfl rfl (by omega) ?_; intro wb hob hbb)
  go_loopw [11] (BoI wo wo.heap.size kn) (fun v _ => kn - (intOf v).toNat)
  case atStart => exact ⟨0, by omega, rfl, by simpa using hob, hbb⟩
  case round =>
  obtain ⟨k, hk, rfl, hO, hBk⟩ := hrel
  have HO := Lib.hid hO
  clear hO
  by_cases hkl : k < kn
  · have x0 : ∃ v, wr.cell? ⟨wo.heap.size, k, none⟩ = some v := by
      have := World.ownsRow.cellAt HO.out k (by omega)
      rw [List.getElem?_eq_getElem (by have := HO.out.1; omega)] at this
      exact ⟨_, this⟩
    obtain ⟨v0, x0⟩ := x0
    have x1 := World.ownsRow.frozenAt HO.out k
    have x2 : OwBo (wr.setCell ⟨wo.heap.size, k, none⟩ (.bool true)) wo.heap.size wo.heap.size kn (List.replicate (k + 1) true ++ List.replicate (kn - (k + 1)) false) := by
      have := (World.ownsRow.stored HO.out k (.bool true)).1
      unfold OwBo
      rw [← bo_set k kn hkl, List.map_set]
      exact this
    have X2 := Lib.hid x2
    have lk : (k : Int) < (kn : Int) := by omega
    clear x2
    go_wp2_with fail
    go_roundw
    case rel => exact ⟨k + 1, by omega, by go_num, X2.out, hBk.setCell (p := ⟨wo.heap.size, k, none⟩) (Nat.le_refl _) _⟩
    case measure => simp [intOf]; omega
  obtain rfl : kn = k := by omega
  obtain ⟨wz, rfl⟩ : ∃ W : World, W = wr := ⟨_, rfl⟩
  have hbo := HO.out.rd (by omega)
  rw [Nat.sub_self, List.replicate_zero, List.append_nil] at hbo
  have q := Lib.hid (qo.out.up hBk)
  have B := below_then BI hBk
  clear k1 hI hBk
  go_wp2_with (refine dk_load rfl _ rfl rfl q.out ?_)
  refine (C4.out wz q.out.2).mono ?_
  rintro e w5 ⟨A5, rfl, v5, hb5⟩
  have q := Lib.hid (q.out.up hb5)
  have B := below_then B hb5
  have hbo := hbo.below hb5
  go_wp2_with (first | (refine dk_fresh rfl _ _ rfl rfl rfl w5 rfl rfl v5 ?_; intro X5 q5 x5; have q := Lib.hid (q.out.up x5)) | (refine dk_load rfl _ rfl rfl q.out ?_))
  have B := below_then B x5
  refine (C5.out X5 q.out.2 _ (hbo.below x5)).mono ?_
  rintro e w6 ⟨A6, rfl, v6, hb6⟩
  have q5 := Lib.hid (q5.out.up hb6)
  have B := below_then B hb6
  go_wp2_with (first | (refine dk_fresh rfl _ _ rfl rfl rfl w6 rfl rfl v6 ?_; intro X6 q6 x6; have q5 := Lib.hid (q5.out.up x6)) | (refine wpList_unguard (by rfl) (dk_load rfl _ rfl rfl q5.out ?_)) | (refine wpList_unguard (by rfl) (dk_load rfl _ rfl rfl q6.out ?_)))
  have B := below_then B x6
  refine (C6.out A5 A6 X6 q5.out.2 q6.out.2).mono ?_
  rintro e w7 ⟨rfl, hb7⟩
  go_wp2_with fail
  refine (heads05 _).mono ?_
  rintro e w9 ⟨rfl, hb9⟩
  go_wp2_with fail
  go_ret
  exact ⟨rfl, below_then (below_then B hb7) hb9⟩
theorem dskTorn_law (S : Option Addr) (sn sc : Nat) (K : Option Addr) (kn kc : Nat) (D : Dk) (A : Option Addr) (n c : Nat) (bs : List Bool) (w : World) (hr : RdDk w S sn sc K kn kc D) (hb : RdBo w A n c bs) :
    Calls Try.prog 6 #[.agg #[.slice S sn sc, .slice K kn kc], .slice A n c] w (RetV w (.bool true)) := by
  cases h1 : dkFew D with
  | false => exact dskTorn_early S sn sc K kn kc D A n c bs w hr hb (.inl h1)
  | true =>
    cases h2 : dkOk D with
    | false => exact dskTorn_early S sn sc K kn kc D A n c bs w hr hb (.inr (.inl ⟨h1, h2⟩))
    | true =>
      by_cases h3 : n ≤ 700
      · exact dskTorn_main S sn sc K kn kc D A n c bs w hr hb h1 h2 h3
      · exact dskTorn_early S sn sc K kn kc D A n c bs w hr hb (.inr (.inr ⟨h1, h2, by omega⟩))
end Go.Proofs.Yteajboafcjeagaa
