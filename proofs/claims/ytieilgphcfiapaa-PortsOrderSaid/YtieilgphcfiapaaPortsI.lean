/-
  Numbers of 64 bits in a slice; the law PortsOrder.
-/
import Derived.Test.YtieilgphcfiapaaPortsG
import Derived.Test.YtieilgphcfiapaaOps
import Derived.Test.YtieilgphcfiapaaBld
namespace Go.Proofs.Ytieilgphcfiapaa
set_option maxRecDepth 20000
open Go.RowKit
set_option linter.unusedVariables false
set_option linter.unusedSimpArgs false
set_option maxHeartbeats 8000000

def vU (t : Nat) : Value := .int .u64 (t : Int)
def RdU (w : World) (A : Option Addr) (n c : Nat) (ts : List Nat) : Prop := Rd w A (ts.map vU) ∧ ts.length = n ∧ n ≤ c ∧ c ≤ maxLen ∧ ∀ t ∈ ts, t < 18446744073709551616
theorem RdU.below {w w' : World} {A : Option Addr} {n c : Nat} {ts : List Nat} (h : RdU w A n c ts) (hb : Below w.heap.size w w') : RdU w' A n c ts := ⟨h.1.below hb, h.2⟩
theorem RdU.at_ {w : World} {A : Option Addr} {n c : Nat} {ts : List Nat} (h : RdU w A n c ts) (k : Nat) (hk : k < n) : ∃ b o t, A = some ⟨b, o, none⟩ ∧ b < w.heap.size ∧ ts[k]? = some t ∧ t < 18446744073709551616 ∧ w.cell? ⟨b, o + k, none⟩ = some (.int .u64 (t : Int)) := by
  obtain ⟨h1, h2, _, _, h5⟩ := h
  obtain ⟨b, o, hA, hb, hc⟩ := h1.at_ k (by simpa [h2] using hk)
  have hk' : k < ts.length := by omega
  refine ⟨b, o, ts[k], hA, hb, List.getElem?_eq_getElem hk', h5 _ (List.getElem_mem hk'), ?_⟩
  rw [hc]
  simp [vU]

theorem own_farR {w : World} {base : Nat} {A : Option Addr} {n c : Nat} {xs : List UInt8} (h : OwnB w base A n c xs) (g : Nat) (cs : Array Value) (hg : g < base) : OwnB (w.setRow g cs) base A n c xs := by
  refine ⟨h.1, ?_⟩
  rcases h.2 with h2 | ⟨g', cap, cur, hv, hb, hh, r⟩
  · exact .inl h2
  · exact .inr ⟨g', cap, cur, hv, hb, by rw [setRow_other w g g' cs (by omega)]; exact hh, r⟩
theorem wp_appX6 {ops : Array Oper} {rest : List Oper} {o : Oper} {a : Act} {Bd : Nat} {w0 w : World} {Q : Exit → Act → World → Prop} (hgd : o.guard = none) (s x : Operand)
    (ho : o.op = .call { callee := .builtin .append, args := #[s, x], argTypes := #[25, 25] })
    (hb : Below Bd w0 w) (hBw : Bd ≤ w.heap.size) {base : Nat} (hbase : Bd ≤ base) (hbw : base ≤ w.heap.size) (A : Option Addr) (n c : Nat) (xs : List UInt8) (hs : a.eval s = .slice A n c) (hown : OwnB w base A n c xs)
    (B : Option Addr) (m d : Nat) (ys : List UInt8) (hx : a.eval x = .slice B m d) (hr : RdB w B m d ys) (hm : n + m ≤ 70368744177664) (k : Nat) (zs : List UInt8) (hk : n + m = k) (hz : xs ++ ys = zs)
    (h : ∀ A' c' w', OwnB w' base A' k c' zs → Below Bd w0 w' → w.grownBy w' (Value.slice A n c).ownBlock → wpList Try.prog ops Q rest (a.put o.dst (.slice A' k c')) w') : wpList Try.prog ops Q (o :: rest) a w := by
  subst hk hz
  refine wp_app hgd s x _ _ ho elemB base _ n _ hs hown B m d _ hx hr.1 (by simpa using hr.2.1) (oneCell_vB _) (by unfold maxLen; omega) (by omega) hbw (fun A' c' w' h1 h2 => h A' c' w' ?_ ?_ h2)
  · unfold OwnB; rw [List.map_append]; exact h1
  · exact hb.grown h2 hBw (fun q hq => Nat.le_trans hbase (hown.lt q hq).1)
/-- out ++ pool is what was filled. -/
def OrdI (w : World) (xs : List UInt8) (s8 s9 : Value) (V : World) : Prop := ∃ (i : Nat) (A : Option Addr) (n c : Nat) (os : List UInt8) (B : Option Addr) (j d : Nat) (ps : List UInt8),
  i ≤ xs.length ∧ s9 = .int .i64 (i : Nat) ∧ s8 = .slice A n c ∧ os ++ ps = xs.take i ∧ OwnB V (w.heap.size + 1) A n c os ∧ PtAt V w.heap.size 0 0 0 B j d ∧ RdB V B j d ps ∧ Below w.heap.size w V
def OrdJ (w : World) (ts : List Nat) (A : Option Addr) (n c : Nat) (os : List UInt8) (B : Option Addr) (j d : Nat) (ps : List UInt8) (s15 : Value) (V : World) : Prop := ∃ (i k : Nat),
  i ≤ ts.length ∧ s15 = .int .i64 (i : Nat) ∧ k ≤ 1099511627776 ∧ OwnB V (w.heap.size + 1) A n c os ∧ PtAt V w.heap.size 0 0 k B j d ∧ RdB V B j d ps ∧ Below w.heap.size w V

theorem portsOrder_early (A : Option Addr) (n c : Nat) (xs : List UInt8) (m : Int) (T : Option Addr) (tn tc : Nat) (ts : List Nat) (w : World) (hr : RdB w A n c xs) (ht : RdU w T tn tc ts) (h : 40 < n ∨ m < 1 ∨ 60 < tn) :
    Calls Try.prog 11 #[.slice A n c, .int .i64 m, .slice T tn tc] w (RetV w (.bool true)) := by
  have hn63 := hr.n63
  by_cases h1 : 40 < n
  · have d1 : decide ((40 : Int) < (n : Int)) = true := decide_eq_true (by omega)
    clear h
    go_enter Try.func11, Try.ntmps11
    go_wp2_with fail
    refine (heads06 _).mono ?_
    rintro e w9 ⟨rfl, hb9⟩
    go_wp2
    go_ret
    exact ⟨rfl, hb9⟩
  · have d1 : decide ((40 : Int) < (n : Int)) = false := decide_eq_false (by omega)
    by_cases h2 : m < 1
    · have d2 : decide (m < 1) = true := decide_eq_true h2
      clear h
      go_enter Try.func11, Try.ntmps11
      go_wp2_with fail
      refine (heads06 _).mono ?_
      rintro e w9 ⟨rfl, hb9⟩
      go_wp2
      go_ret
      exact ⟨rfl, hb9⟩
    · have d2 : decide (m < 1) = false := decide_eq_false h2
      have d3 : decide ((60 : Int) < (tn : Int)) = true := decide_eq_true (by omega)
      clear h
      go_enter Try.func11, Try.ntmps11
      go_wp2_with fail
      refine (heads06 _).mono ?_
      rintro e w9 ⟨rfl, hb9⟩
      go_wp2
      go_ret
      exact ⟨rfl, hb9⟩

theorem portsOrder_main (A : Option Addr) (n c : Nat) (xs : List UInt8) (m : Int) (T : Option Addr) (tn tc : Nat) (ts : List Nat) (w : World) (hr : RdB w A n c xs) (ht : RdU w T tn tc ts) (h1 : n ≤ 40) (h2 : 1 ≤ m) (h3 : tn ≤ 60) :
    Calls Try.prog 11 #[.slice A n c, .int .i64 m, .slice T tn tc] w (RetV w (.bool true)) := by
  have hn63 := hr.n63
  have hl := hr.2.1
  have hnc := hr.2.2.1
  have d1 : decide ((40 : Int) < (n : Int)) = false := decide_eq_false (by omega)
  have d2 : decide (m < 1) = false := decide_eq_false (by omega)
  have d3 : decide ((60 : Int) < (tn : Int)) = false := decide_eq_false (by omega)
  have HI : OrdI w xs (.slice none 0 0) (.int .i64 0) (w.alloc (.cells #[.int .u32 0, .int .u32 0, .int .u64 0, .slice none 0 0] 63)) :=
    ⟨0, none, 0, 0, [], none, 0, 0, [], by omega, rfl, rfl, by simp, OwnB.nilB _ _, row1 .., RdB.nilB _, (below_self w).alloc (Nat.le_refl _) _⟩
  go_enter Try.func11, Try.ntmps11
  go_wp2_with fail
  go_loopw [8, 9] (OrdI w xs) (fun _ s _ => 100 - (intOf s).toNat)
  case atStart => exact HI
  case round =>
    obtain ⟨i, A1, n1, c1, os, B, j, d, ps, hi, rfl, rfl, hsplit, hown, hP, hps, hB⟩ := hrel
    have HS := Lib.hid hsplit
    have hlen : os.length + ps.length = i := by have := congrArg List.length hsplit; rw [List.length_append, List.length_take] at this; omega
    have hj : j ≤ i := by rw [← hps.2.1]; omega
    have hn1 : n1 ≤ i := by rw [← hown.len]; omega
    clear HI hsplit
    by_cases hlt : i < n
    · have k1 : (i : Int) < (n : Int) := by omega
      have k0 : (0 : Int) ≤ (i : Int) := by omega
      obtain ⟨xb, xo, u, rfl, hxb, hu, _⟩ := hr.at_ i hlt
      have kw : IntKind.i64.wrap ((i : Int) + 1) = (i : Int) + 1 := IntWalk.i64_in _ (by omega)
      have k2 : (i : Int) ≤ (i : Int) + 1 := by omega
      have k3 : (i : Int) + 1 ≤ (c : Int) := by omega
      have kc : ¬ (c = i) := by omega
      have hx1 := (hr.below hB).cutS i (n - i) (by omega) (by omega)
      have hx1 := hx1.take 1 (by omega)
      have hu1 : ((xs.drop i).take 1) = [u] := by
        rw [List.drop_eq_getElem_cons (by omega)]
        have : xs[i] = u := by rw [List.getElem?_eq_getElem (by omega)] at hu; exact Option.some.inj hu
        rw [this]; rfl
      rw [hu1] at hx1
      have hF0 : fillE 0 j 1 = 0 := by unfold fillE ptCheck; rw [if_pos (by simp; omega), if_neg (by omega)]
      have hcap := hown.rd.2.2.1
      go_wp2_with fail
      have hPl := hP.lt
      refine wp_region_seg (S := fun w' => Below wr.heap.size wr w') 7 #[true, true, true, true, true, true, false, false, false, false, false, false, false] [(0, true), (1, true), (2, true), (3, true), (4, true), (5, true)] (by kernel_rfl) (by kernel_rfl) (fun _ _ d _ _ h => by cases d <;> exact h) ((Below.refl wr.heap.size wr).drew) ?_
      have HB := (Below.refl wr.heap.size wr).drew
      iterate 6 (refine seg_take (v := ?_) rfl (Or.inl ⟨by rfl, ?_⟩) ?_; rotate_left; (focus (intro w' hw'; obtain ⟨a0, a1, a2, a3, af⟩ := (hP.below hw' hPl).cells; clear af; go_simp <;> with_reducible rfl)); try simp only [Act.put, List.setIfInBounds_toArray, List.set_cons_zero, List.set_cons_succ])
      refine seg_done (fun _ => ?_)
      refine wpAnyH_two (i := 6) (j := 10) (f := 6) (by kernel_rfl) ?_ ?_
      · skip
        refine op_run rfl (fun K hK => ?_)
        rw [if_pos (by rfl)]
        have hf := ptFill_any 0 0 0 B j d ps (some ⟨xb, xo + i, none⟩) 1 (c - i) [u] _ (hps.below HB) (hx1.below HB) (by omega)
        rw [hF0, show fillL ps [u] 0 = ps ++ [u] from rfl] at hf
        go_simp
        refine hf.mono ?_
        clear hf
        rintro e wf ⟨Af, nf, cf, rfl, hrf, hbf⟩
        try have h10 := (hbf.block g10 (by omega)).trans h10
        try have h10z := Nat.lt_of_lt_of_le h10z hbf.size
        have HB0 := HB.size
        have HB := below_then HB hbf
        refine hK.out _ _ (HB) ?_
        clear hK
        try simp only [Act.put, List.setIfInBounds_toArray, List.set_cons_zero, List.set_cons_succ]
        refine wpAnyH_seg (by kernel_rfl) (fun _ _ d _ _ h => by cases d <;> exact h) 0 #[true, true, true, true, true, true, true, true, true, true, true, true, true] [(7, true), (8, true), (9, true), (10, false), (11, false), (12, true)] _ _ _ (by kernel_rfl) (HB) ?_
        iterate 3 (refine seg_take (v := ?_) rfl (Or.inl ⟨by rfl, ?_⟩) ?_; rotate_left; (focus (intro w' hw'; obtain ⟨a0, a1, a2, a3, af⟩ := (hP.below hw' hPl).cells; clear af; go_simp <;> with_reducible rfl)); try simp only [Act.put, List.setIfInBounds_toArray, List.set_cons_zero, List.set_cons_succ])
        refine seg_run rfl (fun K hK => ?_)
        rw [if_pos (by rfl)]
        refine op_new #[.int .u32 0, .int .u32 0, .int .u64 0, .slice none 0 0] 63 (fun w => by go_simp) ?_
        intro g10 w10 e10 h10 hb10 hz10
        have h10z : g10 < w10.heap.size := by omega
        have h10l : wr.heap.size ≤ g10 := by have := HB.size; omega
        try have hrf := hrf.below hb10
        have HB0 := HB.size
        have HB := below_then HB hb10
        refine hK.out _ _ (HB) ?_
        clear hK
        try simp only [Act.put, List.setIfInBounds_toArray, List.set_cons_zero, List.set_cons_succ]
        refine seg_run rfl (fun K hK => ?_)
        rw [if_pos (by rfl)]
        refine wp_store_row _ _ _ rfl g10 #[.int .u32 0, .int .u32 0, .int .u64 0, .slice Af nf cf] rfl rfl _ _ h10 (by kernel_rfl : (Try.prog.info? 63).map (·.size) = some 4) rfl (by simp [Value.oneCell']) ?_
        have HB := below_setRow HB h10l #[.int .u32 0, .int .u32 0, .int .u64 0, .slice Af nf cf]
        refine hK.out _ _ (HB) ?_
        clear hK
        try simp only [Act.put, List.setIfInBounds_toArray, List.set_cons_zero, List.set_cons_succ]
        iterate 1 (refine seg_take (v := ?_) rfl (Or.inl ⟨by rfl, ?_⟩) ?_; rotate_left; (focus (intro w' hw'; obtain ⟨a0, a1, a2, a3, af⟩ := (hP.below hw' hPl).cells; clear af; go_simp <;> with_reducible rfl)); try simp only [Act.put, List.setIfInBounds_toArray, List.set_cons_zero, List.set_cons_succ])
        refine seg_done (fun _ => ?_)
        refine wpAnyH_done (by kernel_rfl) ?_ _
        have h10' := setRow_heap _ g10 _ #[.int .u32 0, .int .u32 0, .int .u64 0, .slice Af nf cf] _ _ h10
        have hrf' := hrf.setPt (show PtAt _ g10 0 0 0 none 0 0 from h10) #[.int .u32 0, .int .u32 0, .int .u64 0, .slice Af nf cf]
        generalize hWl : World.setRow _ g10 _ = Wl at h10' hrf' HB ⊢
        clear hWl
        try clear hrf hbf h10 hb10 h10z
        try clear hrf h10
        have P10 : PtAt Wl g10 0 0 0 Af nf cf := h10'
        have PV := hP.below HB hPl
        have oV := hown.below HB
        have BV := below_then hB HB
        have hnf : nf = j + 1 := by rw [← hrf'.2.1, List.length_append, hps.2.1]; rfl
        subst hnf
        have P7 : PtAt (Wl.setRow w.heap.size #[.int .u32 0, .int .u32 0, .int .u64 0, .slice Af (j + 1) cf]) w.heap.size 0 0 0 Af (j + 1) cf := PV.set 0 0 0 Af (j + 1) cf
        have r7 := hrf'.setPt PV #[.int .u32 0, .int .u32 0, .int .u64 0, .slice Af (j + 1) cf]
        have o7 := own_farR oV w.heap.size #[.int .u32 0, .int .u32 0, .int .u64 0, .slice Af (j + 1) cf] (by omega)
        have B7 := below_setRow BV (Nat.le_refl _) #[.int .u32 0, .int .u32 0, .int .u64 0, .slice Af (j + 1) cf]
        obtain ⟨b0, b1, b2, b3, bf⟩ := P10.cells
        clear bf
        have HPV := Lib.hid PV
        have hm0 : ¬ (m = 0) := by omega
        by_cases hz : ((i : Int) + 1) % m = 0
        · have kz : (((i : Int) + 1) % m == 0) = true := by rw [beq_iff_eq]; exact hz
          obtain ⟨a0, a1, a2, a3, af⟩ := P7.cells
          clear af hz
          go_wp2_with (refine wpList_store_row rfl _ _ _ rfl (w.heap.size) #[.int .u32 0, .int .u32 0, .int .u64 0, .slice Af (j + 1) cf] rfl rfl _ _ HPV.out (by kernel_rfl : (Try.prog.info? 63).map (·.size) = some 4) rfl (by simp [Value.oneCell']) ?_)
          have eE : drawE 0 (j + 1) ((j : Int) + 1) = 0 := by unfold drawE ptCheck; rw [if_pos (by simp; omega), if_neg (by omega), if_neg (by omega)]
          have eZ : drawZ (ps ++ [u]) ((j : Int) + 1) 0 = [] := by
            unfold drawZ; rw [if_pos rfl, show ((j : Int) + 1).toNat = j + 1 by omega, List.drop_of_length_le (by rw [List.length_append, hps.2.1]; simp)]
          have eD : drawD (ps ++ [u]) ((j : Int) + 1) 0 = ps ++ [u] := by
            unfold drawD; rw [if_pos rfl, show ((j : Int) + 1).toNat = j + 1 by omega, List.take_of_length_le (by rw [List.length_append, hps.2.1]; simp)]
          have hd := ptDraw_any 0 0 0 Af (j + 1) cf (ps ++ [u]) ((j : Int) + 1) _ r7 (by omega)
          rw [eE, eZ, eD] at hd
          refine hd.mono ?_
          clear hd eE eZ eD a0 a1 a2 a3
          rintro e w4 ⟨A7, n7, c7, B8, j8, d8, rfl, hr8, hs8, hb8⟩
          have hn7 : n7 = 0 := by rw [← hr8.2.1]; rfl
          subst hn7
          have hj8 : j8 = j + 1 := by rw [← hs8.2.1, List.length_append, hps.2.1]; rfl
          subst hj8
          have P8 := P7.below hb8 P7.lt
          have o8 := o7.below hb8
          have B8' := below_then B7 hb8
          have x8 := P8.lt
          go_wp2_with fail
          generalize hV : World.alloc w4 _ = V
          have bV : Below w4.heap.size w4 V := by rw [← hV]; exact (below_self w4).alloc (Nat.le_refl _) _
          have Q12 : PtAt V w4.heap.size 0 0 0 A7 0 c7 := by rw [← hV]; exact row1 ..
          clear hV
          have P9 := P8.below bV x8
          have o9 := o8.below bV
          have s9 := hs8.below bV
          have BV9 := below_then B8' bV
          have zV := P9.lt
          have zV2 := Q12.lt
          have oz := hown.len
          refine wp_region_plan (S := fun w' => PtAt w' w4.heap.size 0 0 0 A7 0 c7) [(0, true), (1, true), (2, true), (3, false), (4, false), (5, true)] (by kernel_rfl) (by kernel_rfl) (fun _ _ d _ _ h => by cases d <;> exact h) (Q12) ?_
          iterate 3 (refine plan_take (v := ?_) rfl (Or.inl ⟨by rfl, ?_⟩) ?_; rotate_left; (focus (intro w' hw'; obtain ⟨a0, a1, a2, a3, af⟩ := hw'.cells; clear af; go_simp <;> with_reducible rfl)); try simp only [Act.put, List.setIfInBounds_toArray, List.set_cons_zero, List.set_cons_succ])
          refine plan_run rfl (fun K hK => ?_)
          rw [if_pos (by rfl)]
          refine op_appX (Bd := w.heap.size + 1) _ _ rfl (Below.refl (w.heap.size + 1) V).drew (by simp; omega) (Nat.le_refl _) (by simp; omega) A1 n1 c1 os rfl o9 B8 (j + 1) d8 (ps ++ [u]) rfl s9.drew (by omega) (n1 + (j + 1)) (os ++ (ps ++ [u])) rfl rfl ?_
          intro A9 c9 w9 ho9 hb9 hg9
          have hQ10 : PtAt w9 w4.heap.size 0 0 0 A7 0 c7 := grown_keep hg9 Q12 (fun a ha => (own_ne o9 Q12 (by decide) a ha).1)
          have P10 : PtAt w9 w.heap.size 0 0 0 Af (j + 1) cf := P9.below hb9 (by omega)
          refine hK.out _ _ (hQ10) ?_
          clear hK
          try simp only [Act.put, List.setIfInBounds_toArray, List.set_cons_zero, List.set_cons_succ]
          refine plan_run rfl (fun K hK => ?_)
          rw [if_pos (by rfl)]
          refine wp_store_row _ _ _ rfl w.heap.size #[.int .u32 0, .int .u32 0, .int .u64 0, .slice A7 0 c7] rfl rfl _ _ P10 (by kernel_rfl : (Try.prog.info? 63).map (·.size) = some 4) rfl (by simp [Value.oneCell']) ?_
          have hQ11 : PtAt (w9.setRow w.heap.size #[.int .u32 0, .int .u32 0, .int .u64 0, .slice A7 0 c7]) w4.heap.size 0 0 0 A7 0 c7 := hQ10.setOther _ _ (by omega)
          refine hK.out _ _ (hQ11) ?_
          clear hK
          try simp only [Act.put, List.setIfInBounds_toArray, List.set_cons_zero, List.set_cons_succ]
          iterate 1 (refine plan_take (v := ?_) rfl (Or.inl ⟨by rfl, ?_⟩) ?_; rotate_left; (focus (intro w' hw'; obtain ⟨a0, a1, a2, a3, af⟩ := hw'.cells; clear af; go_simp <;> with_reducible rfl)); try simp only [Act.put, List.setIfInBounds_toArray, List.set_cons_zero, List.set_cons_succ])
          refine plan_done ?_
          have B10 := below_setRow (BV9.trans (hb9.mono (by omega))) (Nat.le_refl _) #[.int .u32 0, .int .u32 0, .int .u64 0, .slice A7 0 c7]
          have P11 : PtAt (w9.setRow w.heap.size #[.int .u32 0, .int .u32 0, .int .u64 0, .slice A7 0 c7]) w.heap.size 0 0 0 A7 0 c7 := P10.set 0 0 0 A7 0 c7
          have o11 := own_farR ho9 w.heap.size #[.int .u32 0, .int .u32 0, .int .u64 0, .slice A7 0 c7] (by omega)
          go_wp2
          go_roundw
          case rel => exact ⟨i + 1, A9, n1 + (j + 1), c9, os ++ (ps ++ [u]), A7, 0, c7, [], by omega, by go_num, rfl, by rw [List.append_nil, ← List.append_assoc, HS.out, List.take_add_one, hu]; rfl, o11, P11, ⟨.inl rfl, rfl, hr8.2.2⟩, B10⟩
          case measure => simp [intOf] <;> omega
        · have kz : (((i : Int) + 1) % m == 0) = false := by rw [beq_eq_false_iff_ne]; exact hz
          clear hz
          go_wp2_with (refine wpList_store_row rfl _ _ _ rfl (w.heap.size) #[.int .u32 0, .int .u32 0, .int .u64 0, .slice Af (j + 1) cf] rfl rfl _ _ HPV.out (by kernel_rfl : (Try.prog.info? 63).map (·.size) = some 4) rfl (by simp [Value.oneCell']) ?_)
          go_roundw
          case rel => exact ⟨i + 1, A1, n1, c1, os, Af, j + 1, cf, ps ++ [u], by omega, by go_num, rfl, by rw [← List.append_assoc, HS.out, List.take_add_one, hu]; rfl, o7, P7, r7, by first | exact B7 | exact B7.drew⟩
          case measure => simp [intOf] <;> omega
      · skip
        refine op_run rfl (fun K hK => ?_)
        rw [if_pos (by rfl)]
        refine op_new #[.int .u32 0, .int .u32 0, .int .u64 0, .slice none 0 0] 63 (fun w => by go_simp) ?_
        intro g10 w10 e10 h10 hb10 hz10
        have h10z : g10 < w10.heap.size := by omega
        have h10l : wr.heap.size ≤ g10 := by have := HB.size; omega
        try have hrf := hrf.below hb10
        have HB0 := HB.size
        have HB := below_then HB hb10
        refine hK.out _ _ (HB) ?_
        clear hK
        try simp only [Act.put, List.setIfInBounds_toArray, List.set_cons_zero, List.set_cons_succ]
        refine wpAnyH_seg (by kernel_rfl) (fun _ _ d _ _ h => by cases d <;> exact h) 0 #[true, true, true, true, true, true, true, true, true, true, true, true, true] [(6, false), (7, true), (8, true), (9, true), (11, false), (12, true)] _ _ _ (by kernel_rfl) (HB) ?_
        refine seg_run rfl (fun K hK => ?_)
        rw [if_pos (by rfl)]
        have hf := ptFill_any 0 0 0 B j d ps (some ⟨xb, xo + i, none⟩) 1 (c - i) [u] _ (hps.below HB) (hx1.below HB) (by omega)
        rw [hF0, show fillL ps [u] 0 = ps ++ [u] from rfl] at hf
        go_simp
        refine hf.mono ?_
        clear hf
        rintro e wf ⟨Af, nf, cf, rfl, hrf, hbf⟩
        try have h10 := (hbf.block g10 (by omega)).trans h10
        try have h10z := Nat.lt_of_lt_of_le h10z hbf.size
        have HB0 := HB.size
        have HB := below_then HB hbf
        refine hK.out _ _ (HB) ?_
        clear hK
        try simp only [Act.put, List.setIfInBounds_toArray, List.set_cons_zero, List.set_cons_succ]
        iterate 3 (refine seg_take (v := ?_) rfl (Or.inl ⟨by rfl, ?_⟩) ?_; rotate_left; (focus (intro w' hw'; obtain ⟨a0, a1, a2, a3, af⟩ := (hP.below hw' hPl).cells; clear af; go_simp <;> with_reducible rfl)); try simp only [Act.put, List.setIfInBounds_toArray, List.set_cons_zero, List.set_cons_succ])
        refine seg_run rfl (fun K hK => ?_)
        rw [if_pos (by rfl)]
        refine wp_store_row _ _ _ rfl g10 #[.int .u32 0, .int .u32 0, .int .u64 0, .slice Af nf cf] rfl rfl _ _ h10 (by kernel_rfl : (Try.prog.info? 63).map (·.size) = some 4) rfl (by simp [Value.oneCell']) ?_
        have HB := below_setRow HB h10l #[.int .u32 0, .int .u32 0, .int .u64 0, .slice Af nf cf]
        refine hK.out _ _ (HB) ?_
        clear hK
        try simp only [Act.put, List.setIfInBounds_toArray, List.set_cons_zero, List.set_cons_succ]
        iterate 1 (refine seg_take (v := ?_) rfl (Or.inl ⟨by rfl, ?_⟩) ?_; rotate_left; (focus (intro w' hw'; obtain ⟨a0, a1, a2, a3, af⟩ := (hP.below hw' hPl).cells; clear af; go_simp <;> with_reducible rfl)); try simp only [Act.put, List.setIfInBounds_toArray, List.set_cons_zero, List.set_cons_succ])
        refine seg_done (fun _ => ?_)
        refine wpAnyH_done (by kernel_rfl) ?_ _
        have h10' := setRow_heap _ g10 _ #[.int .u32 0, .int .u32 0, .int .u64 0, .slice Af nf cf] _ _ h10
        have hrf' := hrf.setPt (show PtAt _ g10 0 0 0 none 0 0 from h10) #[.int .u32 0, .int .u32 0, .int .u64 0, .slice Af nf cf]
        generalize hWl : World.setRow _ g10 _ = Wl at h10' hrf' HB ⊢
        clear hWl
        try clear hrf hbf h10 hb10 h10z
        try clear hrf h10
        have P10 : PtAt Wl g10 0 0 0 Af nf cf := h10'
        have PV := hP.below HB hPl
        have oV := hown.below HB
        have BV := below_then hB HB
        have hnf : nf = j + 1 := by rw [← hrf'.2.1, List.length_append, hps.2.1]; rfl
        subst hnf
        have P7 : PtAt (Wl.setRow w.heap.size #[.int .u32 0, .int .u32 0, .int .u64 0, .slice Af (j + 1) cf]) w.heap.size 0 0 0 Af (j + 1) cf := PV.set 0 0 0 Af (j + 1) cf
        have r7 := hrf'.setPt PV #[.int .u32 0, .int .u32 0, .int .u64 0, .slice Af (j + 1) cf]
        have o7 := own_farR oV w.heap.size #[.int .u32 0, .int .u32 0, .int .u64 0, .slice Af (j + 1) cf] (by omega)
        have B7 := below_setRow BV (Nat.le_refl _) #[.int .u32 0, .int .u32 0, .int .u64 0, .slice Af (j + 1) cf]
        obtain ⟨b0, b1, b2, b3, bf⟩ := P10.cells
        clear bf
        have HPV := Lib.hid PV
        have hm0 : ¬ (m = 0) := by omega
        by_cases hz : ((i : Int) + 1) % m = 0
        · have kz : (((i : Int) + 1) % m == 0) = true := by rw [beq_iff_eq]; exact hz
          obtain ⟨a0, a1, a2, a3, af⟩ := P7.cells
          clear af hz
          go_wp2_with (refine wpList_store_row rfl _ _ _ rfl (w.heap.size) #[.int .u32 0, .int .u32 0, .int .u64 0, .slice Af (j + 1) cf] rfl rfl _ _ HPV.out (by kernel_rfl : (Try.prog.info? 63).map (·.size) = some 4) rfl (by simp [Value.oneCell']) ?_)
          have eE : drawE 0 (j + 1) ((j : Int) + 1) = 0 := by unfold drawE ptCheck; rw [if_pos (by simp; omega), if_neg (by omega), if_neg (by omega)]
          have eZ : drawZ (ps ++ [u]) ((j : Int) + 1) 0 = [] := by
            unfold drawZ; rw [if_pos rfl, show ((j : Int) + 1).toNat = j + 1 by omega, List.drop_of_length_le (by rw [List.length_append, hps.2.1]; simp)]
          have eD : drawD (ps ++ [u]) ((j : Int) + 1) 0 = ps ++ [u] := by
            unfold drawD; rw [if_pos rfl, show ((j : Int) + 1).toNat = j + 1 by omega, List.take_of_length_le (by rw [List.length_append, hps.2.1]; simp)]
          have hd := ptDraw_any 0 0 0 Af (j + 1) cf (ps ++ [u]) ((j : Int) + 1) _ r7 (by omega)
          rw [eE, eZ, eD] at hd
          refine hd.mono ?_
          clear hd eE eZ eD a0 a1 a2 a3
          rintro e w4 ⟨A7, n7, c7, B8, j8, d8, rfl, hr8, hs8, hb8⟩
          have hn7 : n7 = 0 := by rw [← hr8.2.1]; rfl
          subst hn7
          have hj8 : j8 = j + 1 := by rw [← hs8.2.1, List.length_append, hps.2.1]; rfl
          subst hj8
          have P8 := P7.below hb8 P7.lt
          have o8 := o7.below hb8
          have B8' := below_then B7 hb8
          have x8 := P8.lt
          go_wp2_with fail
          generalize hV : World.alloc w4 _ = V
          have bV : Below w4.heap.size w4 V := by rw [← hV]; exact (below_self w4).alloc (Nat.le_refl _) _
          have Q12 : PtAt V w4.heap.size 0 0 0 A7 0 c7 := by rw [← hV]; exact row1 ..
          clear hV
          have P9 := P8.below bV x8
          have o9 := o8.below bV
          have s9 := hs8.below bV
          have BV9 := below_then B8' bV
          have zV := P9.lt
          have zV2 := Q12.lt
          have oz := hown.len
          refine wp_region_plan (S := fun w' => PtAt w' w4.heap.size 0 0 0 A7 0 c7) [(0, true), (1, true), (2, true), (3, false), (4, false), (5, true)] (by kernel_rfl) (by kernel_rfl) (fun _ _ d _ _ h => by cases d <;> exact h) (Q12) ?_
          iterate 3 (refine plan_take (v := ?_) rfl (Or.inl ⟨by rfl, ?_⟩) ?_; rotate_left; (focus (intro w' hw'; obtain ⟨a0, a1, a2, a3, af⟩ := hw'.cells; clear af; go_simp <;> with_reducible rfl)); try simp only [Act.put, List.setIfInBounds_toArray, List.set_cons_zero, List.set_cons_succ])
          refine plan_run rfl (fun K hK => ?_)
          rw [if_pos (by rfl)]
          refine op_appX (Bd := w.heap.size + 1) _ _ rfl (Below.refl (w.heap.size + 1) V).drew (by simp; omega) (Nat.le_refl _) (by simp; omega) A1 n1 c1 os rfl o9 B8 (j + 1) d8 (ps ++ [u]) rfl s9.drew (by omega) (n1 + (j + 1)) (os ++ (ps ++ [u])) rfl rfl ?_
          intro A9 c9 w9 ho9 hb9 hg9
          have hQ10 : PtAt w9 w4.heap.size 0 0 0 A7 0 c7 := grown_keep hg9 Q12 (fun a ha => (own_ne o9 Q12 (by decide) a ha).1)
          have P10 : PtAt w9 w.heap.size 0 0 0 Af (j + 1) cf := P9.below hb9 (by omega)
          refine hK.out _ _ (hQ10) ?_
          clear hK
          try simp only [Act.put, List.setIfInBounds_toArray, List.set_cons_zero, List.set_cons_succ]
          refine plan_run rfl (fun K hK => ?_)
          rw [if_pos (by rfl)]
          refine wp_store_row _ _ _ rfl w.heap.size #[.int .u32 0, .int .u32 0, .int .u64 0, .slice A7 0 c7] rfl rfl _ _ P10 (by kernel_rfl : (Try.prog.info? 63).map (·.size) = some 4) rfl (by simp [Value.oneCell']) ?_
          have hQ11 : PtAt (w9.setRow w.heap.size #[.int .u32 0, .int .u32 0, .int .u64 0, .slice A7 0 c7]) w4.heap.size 0 0 0 A7 0 c7 := hQ10.setOther _ _ (by omega)
          refine hK.out _ _ (hQ11) ?_
          clear hK
          try simp only [Act.put, List.setIfInBounds_toArray, List.set_cons_zero, List.set_cons_succ]
          iterate 1 (refine plan_take (v := ?_) rfl (Or.inl ⟨by rfl, ?_⟩) ?_; rotate_left; (focus (intro w' hw'; obtain ⟨a0, a1, a2, a3, af⟩ := hw'.cells; clear af; go_simp <;> with_reducible rfl)); try simp only [Act.put, List.setIfInBounds_toArray, List.set_cons_zero, List.set_cons_succ])
          refine plan_done ?_
          have B10 := below_setRow (BV9.trans (hb9.mono (by omega))) (Nat.le_refl _) #[.int .u32 0, .int .u32 0, .int .u64 0, .slice A7 0 c7]
          have P11 : PtAt (w9.setRow w.heap.size #[.int .u32 0, .int .u32 0, .int .u64 0, .slice A7 0 c7]) w.heap.size 0 0 0 A7 0 c7 := P10.set 0 0 0 A7 0 c7
          have o11 := own_farR ho9 w.heap.size #[.int .u32 0, .int .u32 0, .int .u64 0, .slice A7 0 c7] (by omega)
          go_wp2
          go_roundw
          case rel => exact ⟨i + 1, A9, n1 + (j + 1), c9, os ++ (ps ++ [u]), A7, 0, c7, [], by omega, by go_num, rfl, by rw [List.append_nil, ← List.append_assoc, HS.out, List.take_add_one, hu]; rfl, o11, P11, ⟨.inl rfl, rfl, hr8.2.2⟩, B10⟩
          case measure => simp [intOf] <;> omega
        · have kz : (((i : Int) + 1) % m == 0) = false := by rw [beq_eq_false_iff_ne]; exact hz
          clear hz
          go_wp2_with (refine wpList_store_row rfl _ _ _ rfl (w.heap.size) #[.int .u32 0, .int .u32 0, .int .u64 0, .slice Af (j + 1) cf] rfl rfl _ _ HPV.out (by kernel_rfl : (Try.prog.info? 63).map (·.size) = some 4) rfl (by simp [Value.oneCell']) ?_)
          go_roundw
          case rel => exact ⟨i + 1, A1, n1, c1, os, Af, j + 1, cf, ps ++ [u], by omega, by go_num, rfl, by rw [← List.append_assoc, HS.out, List.take_add_one, hu]; rfl, o7, P7, r7, by first | exact B7 | exact B7.drew⟩
          case measure => simp [intOf] <;> omega
    · obtain rfl : i = n := by omega
      have k1 : ¬ ((i : Int) < (i : Int)) := by omega
      have hall : os ++ ps = xs := by rw [HS.out, List.take_of_length_le (by omega)]
      have HA := Lib.hid hall
      have HJ : OrdJ w ts A1 n1 c1 os B j d ps (.int .i64 0) wr := ⟨0, 0, by omega, rfl, by omega, hown, hP, hps, hB⟩
      have hj40 : j ≤ 40 := by omega
      have hn40 : n1 ≤ 40 := by omega
      clear hall hown hP hps hB HS hlen
      go_wp2_with fail
      go_loopw [15] (OrdJ w ts A1 n1 c1 os B j d ps) (fun s _ => 100 - (intOf s).toNat)
      case atStart => exact HJ
      case round =>
        obtain ⟨q, k, hq, rfl, hk, hown, hP, hps, hB⟩ := hrel
        clear HJ
        have htn := ht.2.1
        by_cases hlt : q < tn
        · have k2 : (q : Int) < (tn : Int) := by omega
          have k0 : (0 : Int) ≤ (q : Int) := by omega
          obtain ⟨tb, to, tv, rfl, htb, htv, ht64, htc⟩ := (ht.below hB).at_ q hlt
          have hPl := hP.lt
          go_wp2_with fail
          obtain ⟨er, her⟩ : ∃ er, tickE tv k j = er := ⟨tickE tv k j, rfl⟩
          obtain ⟨k', hk'⟩ : ∃ k', tickK tv k er = k' := ⟨tickK tv k er, rfl⟩
          have hcase : (er = 0 ∧ k' = tv ∧ k ≤ tv ∧ tv ≤ 1099511627776) ∨ (er ≠ 0 ∧ k' = k ∧ (1099511627776 < tv ∨ tv < k)) := by
            rw [← hk', ← her]
            unfold tickK tickE
            have hck : ptCheck k j = true := by unfold ptCheck; simp; omega
            rw [if_pos hck]
            by_cases h1 : 1099511627776 < tv
            · right; rw [if_pos h1]; exact ⟨by decide, by rw [if_neg (by decide)], .inl h1⟩
            · rw [if_neg h1]
              by_cases h2 : tv < k
              · right; rw [if_pos h2]; exact ⟨by decide, by rw [if_neg (by decide)], .inr h2⟩
              · left; rw [if_neg h2]; exact ⟨rfl, by rw [if_pos rfl], by omega, by omega⟩
          have HER := Lib.hid her
          have HKK := Lib.hid hk'
          have HCS := Lib.hid hcase
          clear her hk' hcase
          refine wp_region_seg (S := fun w' => Below wr.heap.size wr w') 7 #[true, true, true, true, true, false, false, false, false, false, false, false] [(0, true), (1, true), (2, true), (3, true), (4, true)] (by kernel_rfl) (by kernel_rfl) (fun _ _ d _ _ h => by cases d <;> exact h) ((Below.refl wr.heap.size wr).drew) ?_
          have HB := (Below.refl wr.heap.size wr).drew
          iterate 5 (refine seg_take (v := ?_) rfl (Or.inl ⟨by rfl, ?_⟩) ?_; rotate_left; (focus (intro w' hw'; obtain ⟨a0, a1, a2, a3, af⟩ := (hP.below hw' hPl).cells; clear af; have a4 := (hw'.cell (p := ⟨tb, to + q, none⟩) htb).trans htc; go_simp <;> with_reducible rfl)); try simp only [Act.put, List.setIfInBounds_toArray, List.set_cons_zero, List.set_cons_succ])
          refine seg_done (fun _ => ?_)
          refine wpAnyH_two (i := 5) (j := 9) (f := 6) (by kernel_rfl) ?_ ?_
          · skip
            refine op_run rfl (fun K hK => ?_)
            rw [if_pos (by rfl)]
            have hf := (fun {W : World} (_ : Below wr.heap.size wr W) => ptTick_any tv 0 0 k B j d W (by omega) (by omega) (by omega) (by omega) ht64) HB
            rw [HER.out, HKK.out] at hf
            go_simp
            refine hf.mono ?_
            clear hf
            rintro e wf ⟨rfl, hbf⟩
            try have h10 := (hbf.block g10 (by omega)).trans h10
            try have h10z := Nat.lt_of_lt_of_le h10z hbf.size
            have HB0 := HB.size
            have HB := below_then HB hbf
            refine hK.out _ _ (HB) ?_
            clear hK
            try simp only [Act.put, List.setIfInBounds_toArray, List.set_cons_zero, List.set_cons_succ]
            refine wpAnyH_seg (by kernel_rfl) (fun _ _ d _ _ h => by cases d <;> exact h) 0 #[true, true, true, true, true, true, true, true, true, true, true, true] [(6, true), (7, true), (8, true), (9, false), (10, false), (11, true)] _ _ _ (by kernel_rfl) (HB) ?_
            iterate 3 (refine seg_take (v := ?_) rfl (Or.inl ⟨by rfl, ?_⟩) ?_; rotate_left; (focus (intro w' hw'; obtain ⟨a0, a1, a2, a3, af⟩ := (hP.below hw' hPl).cells; clear af; have a4 := (hw'.cell (p := ⟨tb, to + q, none⟩) htb).trans htc; go_simp <;> with_reducible rfl)); try simp only [Act.put, List.setIfInBounds_toArray, List.set_cons_zero, List.set_cons_succ])
            refine seg_run rfl (fun K hK => ?_)
            rw [if_pos (by rfl)]
            refine op_new #[.int .u32 0, .int .u32 0, .int .u64 0, .slice none 0 0] 63 (fun w => by go_simp) ?_
            intro g10 w10 e10 h10 hb10 hz10
            have h10z : g10 < w10.heap.size := by omega
            have h10l : wr.heap.size ≤ g10 := by have := HB.size; omega
            have HB0 := HB.size
            have HB := below_then HB hb10
            refine hK.out _ _ (HB) ?_
            clear hK
            try simp only [Act.put, List.setIfInBounds_toArray, List.set_cons_zero, List.set_cons_succ]
            refine seg_run rfl (fun K hK => ?_)
            rw [if_pos (by rfl)]
            refine wp_store_row _ _ _ rfl g10 #[.int .u32 0, .int .u32 0, .int .u64 k', .slice B j d] rfl rfl _ _ h10 (by kernel_rfl : (Try.prog.info? 63).map (·.size) = some 4) rfl (by simp [Value.oneCell']) ?_
            have HB := below_setRow HB h10l #[.int .u32 0, .int .u32 0, .int .u64 k', .slice B j d]
            refine hK.out _ _ (HB) ?_
            clear hK
            try simp only [Act.put, List.setIfInBounds_toArray, List.set_cons_zero, List.set_cons_succ]
            iterate 1 (refine seg_take (v := ?_) rfl (Or.inl ⟨by rfl, ?_⟩) ?_; rotate_left; (focus (intro w' hw'; obtain ⟨a0, a1, a2, a3, af⟩ := (hP.below hw' hPl).cells; clear af; have a4 := (hw'.cell (p := ⟨tb, to + q, none⟩) htb).trans htc; go_simp <;> with_reducible rfl)); try simp only [Act.put, List.setIfInBounds_toArray, List.set_cons_zero, List.set_cons_succ])
            refine seg_done (fun _ => ?_)
            refine wpAnyH_done (by kernel_rfl) ?_ _
            have h10' := setRow_heap _ g10 _ #[.int .u32 0, .int .u32 0, .int .u64 k', .slice B j d] _ _ h10
            generalize hWl : World.setRow _ g10 _ = Wl at h10' HB ⊢
            clear hWl
            try clear h10 hb10 h10z
            try clear h10 hbf
            have P10 : PtAt Wl g10 0 0 k' B j d := h10'
            have PV := hP.below HB hPl
            have oV := hown.below HB
            have pV := hps.below HB
            have BV := below_then hB HB
            have tV := (HB.cell (p := ⟨tb, to + q, none⟩) htb).trans htc
            obtain ⟨a0, a1, a2, a3, af⟩ := PV.cells
            obtain ⟨b0, b1, b2, b3, bf⟩ := P10.cells
            clear af bf
            have P7 : PtAt (Wl.setRow w.heap.size #[.int .u32 0, .int .u32 0, .int .u64 k', .slice B j d]) w.heap.size 0 0 k' B j d := PV.set 0 0 k' B j d
            have r7 := pV.setPt PV #[.int .u32 0, .int .u32 0, .int .u64 k', .slice B j d]
            have o7 := own_farR oV w.heap.size #[.int .u32 0, .int .u32 0, .int .u64 k', .slice B j d] (by omega)
            have B7 := below_setRow BV (Nat.le_refl _) #[.int .u32 0, .int .u32 0, .int .u64 k', .slice B j d]
            have HPV := Lib.hid PV
            rcases HCS.out with ⟨rfl, rfl, h5, h6⟩ | ⟨h5, rfl, h6⟩
            · have e1 : decide ((k' : Int) < (k : Int)) = false := decide_eq_false (by omega)
              have e1n : decide (k' < k) = false := decide_eq_false (by omega)
              have e2 : decide ((k : Int) ≤ (k' : Int)) = true := decide_eq_true (by omega)
              have e2n : decide (k ≤ k') = true := decide_eq_true (by omega)
              have e3 : decide ((k' : Int) ≤ 1099511627776) = true := decide_eq_true (by omega)
              have e3n : decide (k' ≤ 1099511627776) = true := decide_eq_true (by omega)
              go_wp2_with fail
              refine wp_region_plan (S := fun w' => w' = Wl.drew) [(0, true), (1, true), (2, true), (3, true), (4, true), (5, true), (6, true), (7, true), (8, true), (9, true), (10, true), (11, true), (12, true), (13, true), (14, true), (15, true), (16, true), (17, true), (18, true), (19, true), (20, true), (21, true), (22, true), (23, true)] (by kernel_rfl) (by kernel_rfl) (fun _ _ d _ _ h => by cases d <;> exact h) (rfl) ?_
              iterate 6 (refine plan_take (v := ?_) rfl (Or.inl ⟨by rfl, ?_⟩) ?_; rotate_left; (focus (intro w' hw'; subst hw'; go_simp <;> with_reducible rfl)); try simp only [Act.put, List.setIfInBounds_toArray, List.set_cons_zero, List.set_cons_succ])
              iterate 17 ((first | refine plan_take (v := undef) rfl (Or.inr ⟨by rfl, rfl⟩) ?_ | (refine plan_take (v := ?_) rfl (Or.inl ⟨by rfl, ?_⟩) ?_; rotate_left; (focus (intro w' hw'; subst hw'; go_simp <;> with_reducible rfl)))); try simp only [Act.put, List.setIfInBounds_toArray, List.set_cons_zero, List.set_cons_succ])
              iterate 1 (refine plan_take (v := ?_) rfl (Or.inl ⟨by rfl, ?_⟩) ?_; rotate_left; (focus (intro w' hw'; subst hw'; go_simp <;> with_reducible rfl)); try simp only [Act.put, List.setIfInBounds_toArray, List.set_cons_zero, List.set_cons_succ])
              refine plan_done ?_
              go_wp2_with (refine wpList_store_row rfl _ _ _ rfl (w.heap.size) #[.int .u32 0, .int .u32 0, .int .u64 k', .slice B j d] rfl rfl _ _ HPV.out (by kernel_rfl : (Try.prog.info? 63).map (·.size) = some 4) rfl (by simp [Value.oneCell']) ?_)
              go_roundw
              case rel => exact ⟨q + 1, k', by omega, by go_num, by omega, o7, P7, r7, by first | exact B7 | exact B7.drew⟩
              case measure => simp [intOf] <;> omega
            · have e0 : (er == 0) = false := by rw [beq_eq_false_iff_ne]; exact h5
              have e1 : decide ((k' : Int) < (k' : Int)) = false := decide_eq_false (by omega)
              have e1n : decide (k' < k') = false := decide_eq_false (by omega)
              by_cases h7 : k' ≤ tv
              · have e2 : decide ((k' : Int) ≤ (tv : Int)) = true := decide_eq_true (by omega)
                have e2n : decide (k' ≤ tv) = true := decide_eq_true (by omega)
                have e3 : decide ((tv : Int) ≤ 1099511627776) = false := decide_eq_false (by omega)
                have e3n : decide (tv ≤ 1099511627776) = false := decide_eq_false (by omega)
                go_wp2_with fail
                refine wp_region_plan (S := fun w' => w' = Wl.drew) [(0, true), (1, true), (2, true), (3, true), (4, true), (5, true), (6, true), (7, true), (8, true), (9, true), (10, true), (11, true), (12, true), (13, true), (14, true), (15, true), (16, true), (17, true), (18, true), (19, true), (20, true), (21, true), (22, true), (23, true)] (by kernel_rfl) (by kernel_rfl) (fun _ _ d _ _ h => by cases d <;> exact h) (rfl) ?_
                iterate 6 (refine plan_take (v := ?_) rfl (Or.inl ⟨by rfl, ?_⟩) ?_; rotate_left; (focus (intro w' hw'; subst hw'; go_simp <;> with_reducible rfl)); try simp only [Act.put, List.setIfInBounds_toArray, List.set_cons_zero, List.set_cons_succ])
                iterate 17 ((first | refine plan_take (v := undef) rfl (Or.inr ⟨by rfl, rfl⟩) ?_ | (refine plan_take (v := ?_) rfl (Or.inl ⟨by rfl, ?_⟩) ?_; rotate_left; (focus (intro w' hw'; subst hw'; go_simp <;> with_reducible rfl)))); try simp only [Act.put, List.setIfInBounds_toArray, List.set_cons_zero, List.set_cons_succ])
                iterate 1 (refine plan_take (v := ?_) rfl (Or.inl ⟨by rfl, ?_⟩) ?_; rotate_left; (focus (intro w' hw'; subst hw'; go_simp <;> with_reducible rfl)); try simp only [Act.put, List.setIfInBounds_toArray, List.set_cons_zero, List.set_cons_succ])
                refine plan_done ?_
                go_wp2_with (refine wpList_store_row rfl _ _ _ rfl (w.heap.size) #[.int .u32 0, .int .u32 0, .int .u64 k', .slice B j d] rfl rfl _ _ HPV.out (by kernel_rfl : (Try.prog.info? 63).map (·.size) = some 4) rfl (by simp [Value.oneCell']) ?_)
                go_roundw
                case rel => exact ⟨q + 1, k', by omega, by go_num, by omega, o7, P7, r7, by first | exact B7 | exact B7.drew⟩
                case measure => simp [intOf] <;> omega
              · have e2 : decide ((k' : Int) ≤ (tv : Int)) = false := decide_eq_false (by omega)
                have e2n : decide (k' ≤ tv) = false := decide_eq_false (by omega)
                go_wp2_with fail
                refine wp_region_plan (S := fun w' => w' = Wl.drew) [(0, true), (1, true), (2, true), (3, true), (4, true), (5, true), (6, true), (7, true), (8, true), (9, true), (10, true), (11, true), (12, true), (13, true), (14, true), (15, true), (16, true), (17, true), (18, true), (19, true), (20, true), (21, true), (22, true), (23, true)] (by kernel_rfl) (by kernel_rfl) (fun _ _ d _ _ h => by cases d <;> exact h) (rfl) ?_
                iterate 6 (refine plan_take (v := ?_) rfl (Or.inl ⟨by rfl, ?_⟩) ?_; rotate_left; (focus (intro w' hw'; subst hw'; go_simp <;> with_reducible rfl)); try simp only [Act.put, List.setIfInBounds_toArray, List.set_cons_zero, List.set_cons_succ])
                iterate 17 ((first | refine plan_take (v := undef) rfl (Or.inr ⟨by rfl, rfl⟩) ?_ | (refine plan_take (v := ?_) rfl (Or.inl ⟨by rfl, ?_⟩) ?_; rotate_left; (focus (intro w' hw'; subst hw'; go_simp <;> with_reducible rfl)))); try simp only [Act.put, List.setIfInBounds_toArray, List.set_cons_zero, List.set_cons_succ])
                iterate 1 (refine plan_take (v := ?_) rfl (Or.inl ⟨by rfl, ?_⟩) ?_; rotate_left; (focus (intro w' hw'; subst hw'; go_simp <;> with_reducible rfl)); try simp only [Act.put, List.setIfInBounds_toArray, List.set_cons_zero, List.set_cons_succ])
                refine plan_done ?_
                go_wp2_with (refine wpList_store_row rfl _ _ _ rfl (w.heap.size) #[.int .u32 0, .int .u32 0, .int .u64 k', .slice B j d] rfl rfl _ _ HPV.out (by kernel_rfl : (Try.prog.info? 63).map (·.size) = some 4) rfl (by simp [Value.oneCell']) ?_)
                go_roundw
                case rel => exact ⟨q + 1, k', by omega, by go_num, by omega, o7, P7, r7, by first | exact B7 | exact B7.drew⟩
                case measure => simp [intOf] <;> omega
          · skip
            refine op_run rfl (fun K hK => ?_)
            rw [if_pos (by rfl)]
            refine op_new #[.int .u32 0, .int .u32 0, .int .u64 0, .slice none 0 0] 63 (fun w => by go_simp) ?_
            intro g10 w10 e10 h10 hb10 hz10
            have h10z : g10 < w10.heap.size := by omega
            have h10l : wr.heap.size ≤ g10 := by have := HB.size; omega
            have HB0 := HB.size
            have HB := below_then HB hb10
            refine hK.out _ _ (HB) ?_
            clear hK
            try simp only [Act.put, List.setIfInBounds_toArray, List.set_cons_zero, List.set_cons_succ]
            refine wpAnyH_seg (by kernel_rfl) (fun _ _ d _ _ h => by cases d <;> exact h) 0 #[true, true, true, true, true, true, true, true, true, true, true, true] [(5, false), (6, true), (7, true), (8, true), (10, false), (11, true)] _ _ _ (by kernel_rfl) (HB) ?_
            refine seg_run rfl (fun K hK => ?_)
            rw [if_pos (by rfl)]
            have hf := (fun {W : World} (_ : Below wr.heap.size wr W) => ptTick_any tv 0 0 k B j d W (by omega) (by omega) (by omega) (by omega) ht64) HB
            rw [HER.out, HKK.out] at hf
            go_simp
            refine hf.mono ?_
            clear hf
            rintro e wf ⟨rfl, hbf⟩
            try have h10 := (hbf.block g10 (by omega)).trans h10
            try have h10z := Nat.lt_of_lt_of_le h10z hbf.size
            have HB0 := HB.size
            have HB := below_then HB hbf
            refine hK.out _ _ (HB) ?_
            clear hK
            try simp only [Act.put, List.setIfInBounds_toArray, List.set_cons_zero, List.set_cons_succ]
            iterate 3 (refine seg_take (v := ?_) rfl (Or.inl ⟨by rfl, ?_⟩) ?_; rotate_left; (focus (intro w' hw'; obtain ⟨a0, a1, a2, a3, af⟩ := (hP.below hw' hPl).cells; clear af; have a4 := (hw'.cell (p := ⟨tb, to + q, none⟩) htb).trans htc; go_simp <;> with_reducible rfl)); try simp only [Act.put, List.setIfInBounds_toArray, List.set_cons_zero, List.set_cons_succ])
            refine seg_run rfl (fun K hK => ?_)
            rw [if_pos (by rfl)]
            refine wp_store_row _ _ _ rfl g10 #[.int .u32 0, .int .u32 0, .int .u64 k', .slice B j d] rfl rfl _ _ h10 (by kernel_rfl : (Try.prog.info? 63).map (·.size) = some 4) rfl (by simp [Value.oneCell']) ?_
            have HB := below_setRow HB h10l #[.int .u32 0, .int .u32 0, .int .u64 k', .slice B j d]
            refine hK.out _ _ (HB) ?_
            clear hK
            try simp only [Act.put, List.setIfInBounds_toArray, List.set_cons_zero, List.set_cons_succ]
            iterate 1 (refine seg_take (v := ?_) rfl (Or.inl ⟨by rfl, ?_⟩) ?_; rotate_left; (focus (intro w' hw'; obtain ⟨a0, a1, a2, a3, af⟩ := (hP.below hw' hPl).cells; clear af; have a4 := (hw'.cell (p := ⟨tb, to + q, none⟩) htb).trans htc; go_simp <;> with_reducible rfl)); try simp only [Act.put, List.setIfInBounds_toArray, List.set_cons_zero, List.set_cons_succ])
            refine seg_done (fun _ => ?_)
            refine wpAnyH_done (by kernel_rfl) ?_ _
            have h10' := setRow_heap _ g10 _ #[.int .u32 0, .int .u32 0, .int .u64 k', .slice B j d] _ _ h10
            generalize hWl : World.setRow _ g10 _ = Wl at h10' HB ⊢
            clear hWl
            try clear h10 hb10 h10z
            try clear h10 hbf
            have P10 : PtAt Wl g10 0 0 k' B j d := h10'
            have PV := hP.below HB hPl
            have oV := hown.below HB
            have pV := hps.below HB
            have BV := below_then hB HB
            have tV := (HB.cell (p := ⟨tb, to + q, none⟩) htb).trans htc
            obtain ⟨a0, a1, a2, a3, af⟩ := PV.cells
            obtain ⟨b0, b1, b2, b3, bf⟩ := P10.cells
            clear af bf
            have P7 : PtAt (Wl.setRow w.heap.size #[.int .u32 0, .int .u32 0, .int .u64 k', .slice B j d]) w.heap.size 0 0 k' B j d := PV.set 0 0 k' B j d
            have r7 := pV.setPt PV #[.int .u32 0, .int .u32 0, .int .u64 k', .slice B j d]
            have o7 := own_farR oV w.heap.size #[.int .u32 0, .int .u32 0, .int .u64 k', .slice B j d] (by omega)
            have B7 := below_setRow BV (Nat.le_refl _) #[.int .u32 0, .int .u32 0, .int .u64 k', .slice B j d]
            have HPV := Lib.hid PV
            rcases HCS.out with ⟨rfl, rfl, h5, h6⟩ | ⟨h5, rfl, h6⟩
            · have e1 : decide ((k' : Int) < (k : Int)) = false := decide_eq_false (by omega)
              have e1n : decide (k' < k) = false := decide_eq_false (by omega)
              have e2 : decide ((k : Int) ≤ (k' : Int)) = true := decide_eq_true (by omega)
              have e2n : decide (k ≤ k') = true := decide_eq_true (by omega)
              have e3 : decide ((k' : Int) ≤ 1099511627776) = true := decide_eq_true (by omega)
              have e3n : decide (k' ≤ 1099511627776) = true := decide_eq_true (by omega)
              go_wp2_with fail
              refine wp_region_plan (S := fun w' => w' = Wl.drew) [(0, true), (1, true), (2, true), (3, true), (4, true), (5, true), (6, true), (7, true), (8, true), (9, true), (10, true), (11, true), (12, true), (13, true), (14, true), (15, true), (16, true), (17, true), (18, true), (19, true), (20, true), (21, true), (22, true), (23, true)] (by kernel_rfl) (by kernel_rfl) (fun _ _ d _ _ h => by cases d <;> exact h) (rfl) ?_
              iterate 6 (refine plan_take (v := ?_) rfl (Or.inl ⟨by rfl, ?_⟩) ?_; rotate_left; (focus (intro w' hw'; subst hw'; go_simp <;> with_reducible rfl)); try simp only [Act.put, List.setIfInBounds_toArray, List.set_cons_zero, List.set_cons_succ])
              iterate 17 ((first | refine plan_take (v := undef) rfl (Or.inr ⟨by rfl, rfl⟩) ?_ | (refine plan_take (v := ?_) rfl (Or.inl ⟨by rfl, ?_⟩) ?_; rotate_left; (focus (intro w' hw'; subst hw'; go_simp <;> with_reducible rfl)))); try simp only [Act.put, List.setIfInBounds_toArray, List.set_cons_zero, List.set_cons_succ])
              iterate 1 (refine plan_take (v := ?_) rfl (Or.inl ⟨by rfl, ?_⟩) ?_; rotate_left; (focus (intro w' hw'; subst hw'; go_simp <;> with_reducible rfl)); try simp only [Act.put, List.setIfInBounds_toArray, List.set_cons_zero, List.set_cons_succ])
              refine plan_done ?_
              go_wp2_with (refine wpList_store_row rfl _ _ _ rfl (w.heap.size) #[.int .u32 0, .int .u32 0, .int .u64 k', .slice B j d] rfl rfl _ _ HPV.out (by kernel_rfl : (Try.prog.info? 63).map (·.size) = some 4) rfl (by simp [Value.oneCell']) ?_)
              go_roundw
              case rel => exact ⟨q + 1, k', by omega, by go_num, by omega, o7, P7, r7, by first | exact B7 | exact B7.drew⟩
              case measure => simp [intOf] <;> omega
            · have e0 : (er == 0) = false := by rw [beq_eq_false_iff_ne]; exact h5
              have e1 : decide ((k' : Int) < (k' : Int)) = false := decide_eq_false (by omega)
              have e1n : decide (k' < k') = false := decide_eq_false (by omega)
              by_cases h7 : k' ≤ tv
              · have e2 : decide ((k' : Int) ≤ (tv : Int)) = true := decide_eq_true (by omega)
                have e2n : decide (k' ≤ tv) = true := decide_eq_true (by omega)
                have e3 : decide ((tv : Int) ≤ 1099511627776) = false := decide_eq_false (by omega)
                have e3n : decide (tv ≤ 1099511627776) = false := decide_eq_false (by omega)
                go_wp2_with fail
                refine wp_region_plan (S := fun w' => w' = Wl.drew) [(0, true), (1, true), (2, true), (3, true), (4, true), (5, true), (6, true), (7, true), (8, true), (9, true), (10, true), (11, true), (12, true), (13, true), (14, true), (15, true), (16, true), (17, true), (18, true), (19, true), (20, true), (21, true), (22, true), (23, true)] (by kernel_rfl) (by kernel_rfl) (fun _ _ d _ _ h => by cases d <;> exact h) (rfl) ?_
                iterate 6 (refine plan_take (v := ?_) rfl (Or.inl ⟨by rfl, ?_⟩) ?_; rotate_left; (focus (intro w' hw'; subst hw'; go_simp <;> with_reducible rfl)); try simp only [Act.put, List.setIfInBounds_toArray, List.set_cons_zero, List.set_cons_succ])
                iterate 17 ((first | refine plan_take (v := undef) rfl (Or.inr ⟨by rfl, rfl⟩) ?_ | (refine plan_take (v := ?_) rfl (Or.inl ⟨by rfl, ?_⟩) ?_; rotate_left; (focus (intro w' hw'; subst hw'; go_simp <;> with_reducible rfl)))); try simp only [Act.put, List.setIfInBounds_toArray, List.set_cons_zero, List.set_cons_succ])
                iterate 1 (refine plan_take (v := ?_) rfl (Or.inl ⟨by rfl, ?_⟩) ?_; rotate_left; (focus (intro w' hw'; subst hw'; go_simp <;> with_reducible rfl)); try simp only [Act.put, List.setIfInBounds_toArray, List.set_cons_zero, List.set_cons_succ])
                refine plan_done ?_
                go_wp2_with (refine wpList_store_row rfl _ _ _ rfl (w.heap.size) #[.int .u32 0, .int .u32 0, .int .u64 k', .slice B j d] rfl rfl _ _ HPV.out (by kernel_rfl : (Try.prog.info? 63).map (·.size) = some 4) rfl (by simp [Value.oneCell']) ?_)
                go_roundw
                case rel => exact ⟨q + 1, k', by omega, by go_num, by omega, o7, P7, r7, by first | exact B7 | exact B7.drew⟩
                case measure => simp [intOf] <;> omega
              · have e2 : decide ((k' : Int) ≤ (tv : Int)) = false := decide_eq_false (by omega)
                have e2n : decide (k' ≤ tv) = false := decide_eq_false (by omega)
                go_wp2_with fail
                refine wp_region_plan (S := fun w' => w' = Wl.drew) [(0, true), (1, true), (2, true), (3, true), (4, true), (5, true), (6, true), (7, true), (8, true), (9, true), (10, true), (11, true), (12, true), (13, true), (14, true), (15, true), (16, true), (17, true), (18, true), (19, true), (20, true), (21, true), (22, true), (23, true)] (by kernel_rfl) (by kernel_rfl) (fun _ _ d _ _ h => by cases d <;> exact h) (rfl) ?_
                iterate 6 (refine plan_take (v := ?_) rfl (Or.inl ⟨by rfl, ?_⟩) ?_; rotate_left; (focus (intro w' hw'; subst hw'; go_simp <;> with_reducible rfl)); try simp only [Act.put, List.setIfInBounds_toArray, List.set_cons_zero, List.set_cons_succ])
                iterate 17 ((first | refine plan_take (v := undef) rfl (Or.inr ⟨by rfl, rfl⟩) ?_ | (refine plan_take (v := ?_) rfl (Or.inl ⟨by rfl, ?_⟩) ?_; rotate_left; (focus (intro w' hw'; subst hw'; go_simp <;> with_reducible rfl)))); try simp only [Act.put, List.setIfInBounds_toArray, List.set_cons_zero, List.set_cons_succ])
                iterate 1 (refine plan_take (v := ?_) rfl (Or.inl ⟨by rfl, ?_⟩) ?_; rotate_left; (focus (intro w' hw'; subst hw'; go_simp <;> with_reducible rfl)); try simp only [Act.put, List.setIfInBounds_toArray, List.set_cons_zero, List.set_cons_succ])
                refine plan_done ?_
                go_wp2_with (refine wpList_store_row rfl _ _ _ rfl (w.heap.size) #[.int .u32 0, .int .u32 0, .int .u64 k', .slice B j d] rfl rfl _ _ HPV.out (by kernel_rfl : (Try.prog.info? 63).map (·.size) = some 4) rfl (by simp [Value.oneCell']) ?_)
                go_roundw
                case rel => exact ⟨q + 1, k', by omega, by go_num, by omega, o7, P7, r7, by first | exact B7 | exact B7.drew⟩
                case measure => simp [intOf] <;> omega
        · obtain rfl : q = tn := by omega
          have k2 : ¬ ((q : Int) < (q : Int)) := by omega
          have oc := hown.len
          obtain ⟨a0, a1, a2, a3, af⟩ := hP.cells
          clear af
          go_wp2_with (at_builtin; refine wp_appX6 (Bd := w.heap.size) rfl _ _ rfl hB hB.size (by omega) hP.lt A1 n1 c1 os rfl hown B j d ps rfl hps (by omega) (n1 + j) xs rfl HA.out ?_; intro A9 c9 w9 ho9 hb9 hg9)
          refine (bytes_any A9 A (n1 + j) c9 i c xs xs w9 ho9.rd (hr.below hb9)).mono ?_
          rintro e v1 ⟨rfl, rfl⟩
          rw [decide_eq_true rfl]
          go_wp2_with fail
          refine (heads06 _).mono ?_
          rintro e v2 ⟨rfl, hv2⟩
          go_wp2
          go_ret
          exact ⟨rfl, below_then hb9 hv2⟩

theorem portsOrder_law (A : Option Addr) (n c : Nat) (xs : List UInt8) (m : Int) (T : Option Addr) (tn tc : Nat) (ts : List Nat) (w : World) (hr : RdB w A n c xs) (hm : -9223372036854775808 ≤ m ∧ m ≤ 9223372036854775807) (ht : RdU w T tn tc ts) :
    Calls Try.prog 11 #[.slice A n c, .int .i64 m, .slice T tn tc] w (RetV w (.bool true)) := by
  by_cases h : 40 < n ∨ m < 1 ∨ 60 < tn
  · exact portsOrder_early A n c xs m T tn tc ts w hr ht h
  · exact portsOrder_main A n c xs m T tn tc ts w hr ht (by omega) (by omega) (by omega)
end Go.Proofs.Ytieilgphcfiapaa
