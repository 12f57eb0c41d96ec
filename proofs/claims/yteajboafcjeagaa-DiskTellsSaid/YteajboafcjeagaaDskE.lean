/-
  Layer 5: disks: a map from places to bytes; left.
-/
import Derived.Maps.Own
import Derived.Maps.Views
import Derived.Test.YteajboafcjeagaaDskD
namespace Go.Proofs.Yteajboafcjeagaa
set_option maxRecDepth 20000
open Go.RowKit Go.Maps
set_option linter.unusedVariables false
set_option linter.unusedSimpArgs false
set_option maxHeartbeats 4000000

/-! ### A map from places to values -/
def heldE (v : Value) : Option (DataW Value × List MemPlace) := some (.held v, [])
theorem lawI : Keyed Try.prog 3 := int_keyed Try.underlying3
theorem zeroSl (w : World) : (zeroValue 35).run Try.prog w = .ok (.slice none 0 0) w := by kernel_rfl
def MapIs (w : World) (b n : Nat) (o : Int → Option Value) : Prop := ∃ D : DataW Value, w.ownsMap Try.prog 3 heldE b n D ∧ IsMap D ∧ ∀ i : Int, (∀ v, o i = some v → ∀ z, D.atKey (.int .i64 i) z = .held v) ∧ (o i = none → ∀ z, D.atKey (.int .i64 i) z = z)
theorem MapIs.made (w : World) : MapIs (w.alloc (.map #[] 0)) w.heap.size 0 (fun _ => none) := ⟨_, World.ownsMap_made w _ _ _, isMap_empty, fun i => ⟨fun v h => by simp at h, fun _ z => rfl⟩⟩
theorem MapIs.lt {w : World} {b n : Nat} {o : Int → Option Value} (h : MapIs w b n o) : b < w.heap.size := by obtain ⟨D, h1, _⟩ := h; exact h1.lt
theorem MapIs.keep {w w' : World} {b n : Nat} {o : Int → Option Value} (h : MapIs w b n o) (hb : w'.heap[b]? = w.heap[b]?) : MapIs w' b n o := by
  obtain ⟨D, ⟨es, clock, h1, h2, h3, h4⟩, r⟩ := h
  exact ⟨D, ⟨es, clock, hb.trans h1, h2, h3, h4⟩, r⟩
theorem MapIs.below {w w' : World} {b n : Nat} {o : Int → Option Value} (h : MapIs w b n o) (hb : Below w.heap.size w w') : MapIs w' b n o := h.keep (hb.block b h.lt)
theorem MapIs.mono {w : World} {b n n' : Nat} {o : Int → Option Value} (h : MapIs w b n o) (hn : n ≤ n') : MapIs w b n' o := by obtain ⟨D, h1, r⟩ := h; exact ⟨D, h1.mono hn, r⟩
theorem MapIs.ne {w : World} {b n g : Nat} {o : Int → Option Value} {cs : Array Value} {T : TypeId} {f : Nat × Nat} (h : MapIs w b n o) (hg : w.heap[g]? = some (.cells cs T f)) : b ≠ g := by
  rintro rfl
  obtain ⟨D, ⟨es, clock, h1, _⟩, _⟩ := h
  rw [h1] at hg; cases hg
theorem wfI {i : Int} (h : -9223372036854775808 ≤ i ∧ i ≤ 9223372036854775807) : (Lit.int .i64 i).wf = true := by
  simp [Lit.wf, IntKind.min, IntKind.max, IntKind.signed, IntKind.bits]; omega
theorem MapIs.look {w : World} {b n : Nat} {o : Int → Option Value} (h : MapIs w b n o) (i : Int) (hi : -9223372036854775808 ≤ i ∧ i ≤ 9223372036854775807) :
    (Instr.lookup 100 (.map (some b)) (.int .i64 i) true).run Try.prog w = .ok (.tuple #[(o i).getD (.slice none 0 0), .bool (o i).isSome]) w := by
  obtain ⟨D, ⟨es, clock, hb, F, hs, rfl⟩, hm, hat⟩ := h
  have hz := zeroSl w
  rcases Maps.fit_look true lawI Try.underlying100 hz hb F (keyOf_int_mk Try.underlying3 (wfI hi)) with ⟨hrun, _, h3⟩ | ⟨e0, y, _, _, hrun, hRv, h3, _⟩
  · rw [hrun]
    cases ho : o i with
    | none => rfl
    | some v =>
      have h4 := (hat i).1 v ho .nil
      rw [h3 .nil] at h4; cases h4
  · rw [hrun]
    unfold heldE at hRv
    injection hRv with hRv
    subst hRv
    cases ho : o i with
    | none =>
      have h4 := (hat i).2 ho .nil
      rw [h3 .nil] at h4; cases h4
    | some v =>
      have h4 := (hat i).1 v ho .nil
      rw [h3 .nil] at h4
      injection h4 with h4
      subst h4; rfl
theorem MapIs.put {w' : World} {b n : Nat} {D : DataW Value} {o : Int → Option Value} {i : Int} {v : Value} (hm : IsMap D) (hat : ∀ i : Int, (∀ v, o i = some v → ∀ z, D.atKey (.int .i64 i) z = .held v) ∧ (o i = none → ∀ z, D.atKey (.int .i64 i) z = z)) (h : w'.ownsMap Try.prog 3 heldE b (n + 1) (D.put (.int .i64 i) (.held v))) : MapIs w' b (n + 1) (fun j => if j = i then some v else o j) := by
  refine ⟨_, h, hm.put _ _, fun j => ?_⟩
  by_cases hj : j = i
  · subst hj
    refine ⟨fun u hu z => ?_, fun hu => by simp at hu⟩
    replace hu : some v = some u := by simpa using hu
    injection hu with hu
    subst hu
    exact atKey_put_same hm (by simp [WideAt.IsKeyLit]) _ _
  · have hne : (Lit.int .i64 j) ≠ (Lit.int .i64 i) := fun e => hj (by injection e)
    refine ⟨fun u hu z => ?_, fun hu z => ?_⟩
    · replace hu : o j = some u := by simpa [hj] using hu
      rw [atKey_put_other hne]; exact (hat j).1 u hu z
    · replace hu : o j = none := by simpa [hj] using hu
      rw [atKey_put_other hne]; exact (hat j).2 hu z
/-- Which write is the last one that says place i. -/
def dkIdx (l : List (Int × List UInt8)) (kept : Nat → Bool) (i : Int) : Nat → Option Nat
  | 0 => none
  | n + 1 => if kept n = true ∧ (l.getD n (0, [])).1 = i then some n else dkIdx l kept i n
theorem dkIdx_last (l : List (Int × List UInt8)) (kept : Nat → Bool) (i : Int) : ∀ n, dkLast l kept i n = (dkIdx l kept i n).map (fun j => (l.getD j (0, [])).2)
  | 0 => rfl
  | n + 1 => by
    unfold dkLast dkIdx
    split
    · rfl
    · exact dkIdx_last l kept i n
theorem dkIdx_lt (l : List (Int × List UInt8)) (kept : Nat → Bool) (i : Int) : ∀ n j, dkIdx l kept i n = some j → j < n
  | 0, j, h => by simp [dkIdx] at h
  | n + 1, j, h => by
    unfold dkIdx at h
    split at h
    · injection h with h; omega
    · have := dkIdx_lt l kept i n j h; omega
def LfI (V : World) (m kn : Nat) (l : List (Int × List UInt8)) (kept : Nat → Bool) (X : Nat → Value) (v : Value) (wr : World) : Prop :=
  ∃ k : Nat, k ≤ kn ∧ v = .int .i64 (k : Int) ∧ MapIs wr m k (fun i => (dkIdx l kept i k).map X) ∧ Below m V wr
def LgI (w V : World) (m g sn kn : Nat) (D : Dk) (kept : Nat → Bool) (X : Nat → Value) (v : Value) (wr : World) : Prop :=
  ∃ i : Nat, i ≤ sn ∧ v = .int .i64 (i : Int) ∧ MapIs wr m kn (fun i => (dkIdx D.k kept i kn).map X) ∧ SecsI w g sn (dkAt D kept) i wr ∧ Below m V wr
theorem RdWs.atv {w : World} {A : Option Addr} {n c : Nat} {vs : List Value} {l : List (Int × List UInt8)} (h : RdWs w A n c vs l) (k : Nat) (hk : k < n) :
    ∃ b o B m d, A = some ⟨b, o, none⟩ ∧ b < w.heap.size ∧ w.cell? ⟨b, o + k * 2, none⟩ = some (.int .i64 (l.getD k (0, [])).1) ∧ w.cell? ⟨b, o + k * 2 + 1, none⟩ = some (.slice B m d) ∧ RdB w B m d (l.getD k (0, [])).2 ∧ (-9223372036854775808 ≤ (l.getD k (0, [])).1 ∧ (l.getD k (0, [])).1 ≤ 9223372036854775807) ∧ vs.getD (k * 2 + 1) undef = .slice B m d := by
  obtain ⟨b, o, B, m, d, rfl, hb, h0, h1, h2, h3⟩ := h.at_ k hk
  refine ⟨b, o, B, m, d, rfl, hb, h0, h1, h2, h3, ?_⟩
  obtain ⟨b', o', he, _, hc⟩ := h.1.at_ (k * 2 + 1) (by have := h.2.1; omega)
  injection he with he; injection he with e1 e2; subst e1 e2
  rw [← Nat.add_assoc] at hc
  rw [hc] at h1
  injection h1 with h1
  rw [List.getD, List.getElem?_eq_getElem (by have := h.2.1; omega)]
  exact h1
theorem idx_next (l : List (Int × List UInt8)) (kept : Nat → Bool) (X : Nat → Value) (k : Nat) (hk : kept k = true) : (fun i => (dkIdx l kept i (k + 1)).map X) = fun j => if j = (l.getD k (0, [])).1 then some (X k) else (dkIdx l kept j k).map X := by
  funext i
  by_cases h : i = (l.getD k (0, [])).1
  · rw [if_pos h]; unfold dkIdx; rw [if_pos ⟨hk, h.symm⟩]; rfl
  · rw [if_neg h]; conv => lhs; unfold dkIdx
    rw [if_neg (fun hh => h hh.2.symm)]
theorem idx_skip (l : List (Int × List UInt8)) (kept : Nat → Bool) (X : Nat → Value) (k : Nat) (hk : kept k = false) : (fun i => (dkIdx l kept i (k + 1)).map X) = fun i => (dkIdx l kept i k).map X := by
  funext i
  conv => lhs; unfold dkIdx
  rw [if_neg (by rw [hk]; simp)]
theorem dresults_cell {P : Program} {fn : Func} {p : Tmp} {ty : TypeId} (h : fn.results = #[.cell p ty]) (tmps : Array Value) (w : World) (g : Nat) (t : TypeId) (cs : Array Value) (fr : Nat × Nat) (d : TypeDesc)
    (hp : tmps.getD p undef = .pointer (some ⟨g, 0, none⟩)) (hg : w.heap[g]? = some (.cells cs t fr))
    (hu : P.underlying ty = some d) (hd : (match d with | .struct _ | .array _ _ => true | _ => false) = true) (hi : (P.info? ty).map (·.size) = some cs.size) :
    (results fn tmps).run P w = .ok (.agg cs) w := by
  have hp' : tmps[p]?.getD undef = .pointer (some ⟨g, 0, none⟩) := by simpa using hp
  simp [results, h, hp', asAddr, run_loadVar_row w g t ty cs fr d hg hu hd hi]
theorem dresults_cell_tmp {P : Program} {fn : Func} {p q : Tmp} {ty : TypeId} (h : fn.results = #[.cell p ty, .tmp q]) (tmps : Array Value) (w : World) (g : Nat) (t : TypeId) (cs : Array Value) (fr : Nat × Nat) (d : TypeDesc)
    (hp : tmps.getD p undef = .pointer (some ⟨g, 0, none⟩)) (hg : w.heap[g]? = some (.cells cs t fr))
    (hu : P.underlying ty = some d) (hd : (match d with | .struct _ | .array _ _ => true | _ => false) = true) (hi : (P.info? ty).map (·.size) = some cs.size) :
    (results fn tmps).run P w = .ok (.tuple #[.agg cs, tmps.getD q undef]) w := by
  have hp' : tmps[p]?.getD undef = .pointer (some ⟨g, 0, none⟩) := by simpa using hp
  simp [results, h, hp', asAddr, run_loadVar_row w g t ty cs fr d hg hu hd hi]
theorem dkInfo (S : Option Addr) (sn sc : Nat) (K : Option Addr) (kn kc : Nat) : (Try.prog.info? 25).map (·.size) = some (#[.slice S sn sc, .slice K kn kc] : Array Value).size := by show _ = some 2; kernel_rfl
theorem SecsI.far {w0 w : World} {g n i : Nat} {f : Nat → List UInt8} (h : SecsI w0 g n f i w) {q : Nat} {cs : Array Value} {T : TypeId} {fr : Nat × Nat} (hq : w.heap[q]? = some (.cells cs T fr)) (h1 : T ≠ 5) (h2 : T ≠ 35) (k : Nat) (v : Value) : SecsI w0 g n f i (w.setCell ⟨q, k, none⟩ v) := by
  obtain ⟨vs, a, b⟩ := h
  refine ⟨vs, down_keepT a (fun g' cur' _ hg' => heap_setCell_other w ⟨q, k, none⟩ g' v (fun e => dtyp_ne hg' hq h2.symm e)), fun j hj => ?_⟩
  obtain ⟨A, m, c, h3, h4⟩ := b j hj
  exact ⟨A, m, c, h3, down_keepT h4 (fun g' cur' _ hg' => heap_setCell_other w ⟨q, k, none⟩ g' v (fun e => dtyp_ne hg' hq h1.symm e))⟩
theorem dkOk_slen {D : Dk} (h : dkOk D = true) (j : Nat) (hj : j < D.s.length) : (D.s.getD j []).length = 256 := ((dkOk_iff2 D).1 h).2.2.1 j hj
theorem dkOk_klen {D : Dk} (h : dkOk D = true) (j : Nat) (hj : j < D.k.length) : (D.k.getD j (0, [])).2.length = 256 := by
  have := ((dkOk_iff2 D).1 h).2.2.2 j hj
  unfold wLost at this
  rw [Bool.or_eq_false_iff] at this
  simpa using this.2
theorem dskLeft_any (F : FuncId) (caps : Array Value) (S : Option Addr) (sn sc : Nat) (K : Option Addr) (kn kc : Nat) (D : Dk) (w : World) (kept : Nat → Bool) (hr : RdDk w S sn sc K kn kc D) (hok : dkOk D = true)
    (hF : ∀ (args : Array Value) (W : World), (callFunc F args).run Try.prog W = .ok (.enter F args) W)
    (hdo : ∀ (W : World) (i : Nat), Below w.heap.size w W → i < kn → Calls Try.prog F (#[.int .i64 (i : Int)] ++ caps) W (RetV W (.bool (kept i)))) :
    Calls Try.prog 32 #[.agg #[.slice S sn sc, .slice K kn kc], .func (.func F) #[] caps] w (fun e w' => ∃ g, e = .returned (.agg #[.slice (some ⟨g, 0, none⟩) sn sn, .slice none 0 0]) ∧ SecsI w g sn (dkAt D kept) sn w' ∧ Below w.heap.size w w') := by
  have hsn : sn ≤ 1000000 := by have := ((dkOk_iff D).1 hok).1; have := hr.sl; omega
  have hkn : kn ≤ 1000000 := by have := ((dkOk_iff D).1 hok).2.1; have := hr.kl; omega
  have HOK := Lib.hid hok
  have HDO := Lib.hid hdo
  have HFF := Lib.hid hF
  have hsl := hr.sl
  have hkl := hr.kl
  obtain ⟨V, hV⟩ : ∃ V, V = ((w.alloc (.cells #[.slice S sn sc, .slice K kn kc] 25)).alloc (.cells #[.slice none 0 0, .slice none 0 0] 25)).alloc (.map #[] 0) := ⟨_, rfl⟩
  have bV : Below w.heap.size w V := by rw [hV]; exact (((below_self w).alloc (Nat.le_refl _) _).alloc (by simp) _).alloc (by simp; omega) _
  have qV : Hid (DkAt V w.heap.size S sn sc K kn kc) := by rw [hV]; exact Lib.hid (drw_old _ (drw_old _ (drw_at _ rfl)))
  have rV : Hid (DkAt V (w.heap.size + 1) none 0 0 none 0 0) := by rw [hV]; exact Lib.hid (drw_old _ (drw_at _ (by simp)))
  have mV : Hid (MapIs V (w.heap.size + 2) 0 (fun _ => none)) := by
    have := MapIs.made ((w.alloc (.cells #[.slice S sn sc, .slice K kn kc] 25)).alloc (.cells #[.slice none 0 0, .slice none 0 0] 25))
    rw [← hV] at this
    simpa using Lib.hid this
  have HV := Lib.hid hV
  have zV : V.heap.size = w.heap.size + 3 := by rw [hV]; simp
  have ZV := Lib.hid zV
  obtain ⟨⟨vs, hs⟩, us, hk⟩ := hr
  have hmm := @run_makeMap Try.prog
  obtain ⟨X, hX⟩ : ∃ X : Nat → Value, X = fun j => us.getD (j * 2 + 1) undef := ⟨_, rfl⟩
  have hXv : ∀ j, us.getD (j * 2 + 1) undef = X j := fun j => by rw [hX]
  have HX := Lib.hid hXv
  clear hV hdo hF zV hX hXv hok
  go_enter Try.func32, Try.ntmps32
  go_wp2_with fail
  rw [← HV.out]
  clear hmm
  go_loopw [17] (LfI V (w.heap.size + 1 + 1) kn D.k kept X) (fun i _ => kn - (intOf i).toNat)
  case atStart => exact ⟨0, by omega, rfl, mV.out, Below.refl _ _⟩
  case round =>
  obtain ⟨k, hkk, rfl, hM, hB⟩ := hrel
  have BW := bV.trans (hB.mono (by omega))
  have HM := Lib.hid hM
  clear hM
  by_cases hlt : k < kn
  · obtain ⟨b, o, B, m, d, rfl, hb, hc0, hc1, hy, hrg, hxv⟩ := (hk.below BW).atv k hlt
    rw [HX.out] at hxv
    obtain ⟨a, ha⟩ : ∃ a, (D.k.getD k (0, [])).1 = a := ⟨_, rfl⟩
    rw [ha] at hc0 hrg
    have HA := Lib.hid ha
    have HXV := Lib.hid hxv
    have bX := (below_self wr).alloc (Nat.le_refl _) (.cells #[.int .i64 a, .slice B m d] 55)
    have hcall := HDO.out (wr.alloc (.cells #[.int .i64 a, .slice B m d] 55)) k (below_then BW bX) hlt
    have qX := drw_at (w := wr) (.cells #[.int .i64 a, .slice B m d] 55) rfl
    have QX := Lib.hid qX
    have BX := Lib.hid bX
    clear ha hxv qX bX
    go_wp2_with fail
    rw [HFF.out]
    cases hkp : kept k with
    | false =>
      rw [hkp] at hcall
      have HKP := Lib.hid hkp
      clear hkp
      go_wp2_with fail
      refine hcall.mono ?_
      rintro e w2 ⟨rfl, hb2⟩
      go_wp2_with fail
      go_roundw
      case rel => exact ⟨k + 1, by omega, by go_num, by rw [idx_skip _ _ _ _ HKP.out]; exact ((HM.out.below BX.out).below hb2).mono (by omega), hB.trans ((below_then BX.out hb2).mono (by have := HM.out.lt; omega))⟩
      case measure => simp [intOf]; omega
    | true =>
      rw [hkp] at hcall
      have HKP := Lib.hid hkp
      clear hkp
      go_wp2_with fail
      refine hcall.mono ?_
      rintro e w2 ⟨rfl, hb2⟩
      have Q2 := drw_up QX.out hb2
      have x0 := (cell_of_row w2 _ 0 _ _ _ Q2).trans (show (#[.int .i64 a, .slice B m d] : Array Value)[0]? = some (.int .i64 a) from rfl)
      have x1 := (cell_of_row w2 _ 1 _ _ _ Q2).trans (show (#[.int .i64 a, .slice B m d] : Array Value)[1]? = some (.slice B m d) from rfl)
      obtain ⟨D0, hown, hmap, hat⟩ := (HM.out.below BX.out).below hb2
      have HMAP := Lib.hid hmap
      have HAT := Lib.hid hat
      have HOWN := Lib.hid hown
      clear hmap hat Q2 hown
      go_wp2_with (at_mapUpdate; refine wpList_mapUpdate_own _ rfl _ _ _ 100 rfl 3 35 lawI Try.underlying100 heldE (w.heap.size + 1 + 1) k D0 rfl HOWN.out (by unfold maxLen; omega) (.int .i64 a) (.slice B m d) (.int .i64 a) rfl rfl (keyOf_int_mk Try.underlying3 (wfI hrg)) (.held (.slice B m d)) [] rfl ?_; intro w3 hown3 hgrow3)
      go_roundw
      case rel => exact ⟨k + 1, by omega, by go_num, by rw [idx_next _ _ _ _ HKP.out, HA.out, HXV.out]; exact MapIs.put HMAP.out HAT.out hown3, (hB.trans ((below_then BX.out hb2).mono (by have := HM.out.lt; omega))).grown hgrow3 (by have := HM.out.lt; have := BX.out.size; have := hb2.size; omega) (fun q hq => by injection hq with hq; omega)⟩
      case measure => simp [intOf]; omega
  obtain rfl : kn = k := by omega
  obtain ⟨W1, hW1⟩ : ∃ W : World, W = wr := ⟨_, rfl⟩
  rw [← hW1] at HM hB BW ⊢
  clear hW1
  have hm1 := HM.out.lt
  have hBq : Below (w.heap.size + 1) V W1 := hB.mono (by omega)
  have j0 := (hB.cell (p := ⟨w.heap.size, 0, none⟩) (by show w.heap.size < _; omega)).trans qV.out.c0
  have HJ0 := Lib.hid j0
  go_wp2_with (refine wp_makeSS rfl _ _ rfl .i64 .i64 sn rfl rfl (by omega) ?_; intro w3 ho3 hb3; have j0 := (hb3.cell (p := ⟨w.heap.size, 0, none⟩) (by show w.heap.size < _; omega)).trans HJ0.out)
  clear j0
  go_loopw [38] (LgI w V (w.heap.size + 1 + 1) W1.heap.size sn kn D kept X) (fun i _ => sn - (intOf i).toNat)
  case atStart => exact ⟨0, by omega, rfl, HM.out.below hb3, SecsI.zero (ho3.mono (by omega)), hB.trans (hb3.mono (by omega))⟩
  case round =>
  obtain ⟨i, hi, rfl, hM2, hS, hB2⟩ := hrel
  have BW2 := bV.trans (hB2.mono (by omega))
  have HM2 := Lib.hid hM2
  have HS := Lib.hid hS
  clear hM2 hS
  by_cases hlt2 : i < sn
  · obtain ⟨b, o, B, m, d, rfl, hb, hc, hy⟩ := (hs.below BW2).at_ i hlt2
    have hlook := HM2.out.look (i : Int) ⟨by omega, by omega⟩
    have hAt : dkAt D kept i = ((dkIdx D.k kept (i : Int) kn).map (fun j => (D.k.getD j (0, [])).2)).getD (D.s.getD i []) := by unfold dkAt; rw [dkIdx_last, hkl]
    have HAt := Lib.hid hAt
    clear hAt
    cases hix : dkIdx D.k kept (i : Int) kn with
    | none =>
      rw [hix] at hlook HAt
      simp only [Option.map_none, Option.getD_none, Option.isSome_none] at hlook HAt
      clear hix
      have hn3 := hy.n63
      have hcl := clone_any B m d _ wr hy (by have := hy.2.1; have := dkOk_slen HOK.out i (by omega); omega)
      have HCL := Lib.hid hcl
      clear hcl
      go_wp2_with fail
      refine HCL.out.mono ?_
      rintro e w4 ⟨A4, n4, c4, rfl, ho4, hb4⟩
      obtain ⟨⟨v9, hv9⟩, hf9⟩ := (HS.out.below hb4).cells i hlt2
      have l1 : (i : Int) < (sn : Int) := by omega
      have HO4 := Lib.hid ho4
      clear ho4
      go_wp2_with fail
      go_roundw
      case rel => exact ⟨i + 1, by omega, by go_num, (HM2.out.below hb4).keep (heap_setCell_other _ _ _ _ (by have := HS.out.lt; have := HM.out.lt; show _ ≠ W1.heap.size; omega)), (HS.out.below hb4).next hlt2 (HO4.out.mono (by have := BW2.size; omega)) HAt.out, (hB2.trans (hb4.mono (by have := HM2.out.lt; omega))).setCell (p := ⟨W1.heap.size, i, none⟩) (by show _ ≤ W1.heap.size; omega) _⟩
      case measure => simp [intOf]; omega
    | some j =>
      rw [hix] at hlook HAt
      have hj := dkIdx_lt _ _ _ _ _ hix
      obtain ⟨b5, o5, B5, m5, d5, he5, hb5, h50, h51, hy5, _, hxv⟩ := (hk.below BW2).atv j hj
      rw [HX.out] at hxv
      simp only [Option.map_some, Option.getD_some, Option.isSome_some, hxv] at hlook HAt
      clear hix hxv h50 h51 he5
      have hn3 := hy5.n63
      have hcl := clone_any B5 m5 d5 _ wr hy5 (by have := hy5.2.1; have := dkOk_klen HOK.out j (by omega); omega)
      have HCL := Lib.hid hcl
      clear hcl
      go_wp2_with fail
      refine HCL.out.mono ?_
      rintro e w4 ⟨A4, n4, c4, rfl, ho4, hb4⟩
      obtain ⟨⟨v9, hv9⟩, hf9⟩ := (HS.out.below hb4).cells i hlt2
      have l1 : (i : Int) < (sn : Int) := by omega
      have HO4 := Lib.hid ho4
      clear ho4
      go_wp2_with fail
      go_roundw
      case rel => exact ⟨i + 1, by omega, by go_num, (HM2.out.below hb4).keep (heap_setCell_other _ _ _ _ (by have := HS.out.lt; have := HM.out.lt; show _ ≠ W1.heap.size; omega)), (HS.out.below hb4).next hlt2 (HO4.out.mono (by have := BW2.size; omega)) HAt.out, (hB2.trans (hb4.mono (by have := HM2.out.lt; omega))).setCell (p := ⟨W1.heap.size, i, none⟩) (by show _ ≤ W1.heap.size; omega) _⟩
      case measure => simp [intOf]; omega
  obtain rfl : sn = i := by omega
  have qR : DkAt wr (w.heap.size + 1) none 0 0 none 0 0 := (hB2.block _ (by omega)).trans rV.out
  have y0 := qR.c0
  have y1 := qR.c1
  have f0 := qR.fr 0
  have f1 := qR.fr 1
  have qS : DkAt ((wr.setCell ⟨w.heap.size + 1, 0, none⟩ (.slice (some ⟨W1.heap.size, 0, none⟩) sn sn)).setCell ⟨w.heap.size + 1, 1, none⟩ (.slice none 0 0)) (w.heap.size + 1) (some ⟨W1.heap.size, 0, none⟩) sn sn none 0 0 := (qR.s0 _ _ _).s1 none 0 0
  have hfin := (HS.out.far qR (by decide) (by decide) 0 (.slice (some ⟨W1.heap.size, 0, none⟩) sn sn)).far (qR.s0 (some ⟨W1.heap.size, 0, none⟩) sn sn) (by decide) (by decide) 1 (.slice none 0 0)
  have BF := (BW2.setCell (p := ⟨w.heap.size + 1, 0, none⟩) (by show w.heap.size ≤ w.heap.size + 1; omega) (.slice (some ⟨W1.heap.size, 0, none⟩) sn sn)).setCell (p := ⟨w.heap.size + 1, 1, none⟩) (by show w.heap.size ≤ w.heap.size + 1; omega) (.slice none 0 0)
  have QS := Lib.hid qS
  have HFIN := Lib.hid hfin
  have BFH := Lib.hid BF
  clear qS hfin BF qR
  go_wp2_with fail
  refine bodyPost_ret (dresults_cell Try.results32 _ _ (w.heap.size + 1) 25 _ (0, 0) _ rfl QS.out Try.underlying25 rfl (dkInfo ..)) rfl ?_
  exact ⟨_, rfl, HFIN.out, BFH.out⟩
/-- The sectors that were left, as a disk. -/
theorem SecsI.disk {w0 w : World} {g sn : Nat} {D : Dk} {kept : Nat → Bool} (h : SecsI w0 g sn (dkAt D kept) sn w) (hsl : D.s.length = sn) (hn : sn ≤ 1000000) : RdDk w (some ⟨g, 0, none⟩) sn sn none 0 0 (dkLeft D kept) := by
  obtain ⟨vs9, h9⟩ := h.done hn
  exact ⟨⟨vs9, by unfold dkLeft; rw [hsl]; exact h9⟩, (rdDk_nil _).2⟩
end Go.Proofs.Yteajboafcjeagaa
