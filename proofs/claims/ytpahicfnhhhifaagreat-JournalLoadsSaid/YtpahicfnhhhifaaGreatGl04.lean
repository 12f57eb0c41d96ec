/-
 Proved here, for the statement JournalLoads:
 Layer 5: disks: a map from places to bytes; left.
 Layer 5: disks: Flush, Crash.
-/
import Derived.Maps.Own
import Derived.Maps.Views
import Derived.Deep.SlicePairs
import Derived.Deep.Grids
import Derived.Test.YtpahicfnhhhifaaGreatGl03
set_option linter.unusedVariables false
set_option linter.unusedSimpArgs false
namespace Go.Proofs.YtpahicfnhhhifaaGreat
set_option maxRecDepth 20000
open Go.RowKit Go.Maps
set_option maxHeartbeats 4000000
def heldE (v : Value) : Option (DataW Value × List MemPlace) := some (.held v, [])
theorem lawI : Keyed Tryz.prog 3 := int_keyed Tryz.underlying3
theorem zeroSl (w : World) : (zeroValue 47).run Tryz.prog w = .ok (.slice none 0 0) w := by kernel_rfl
def MapIs (w : World) (b n : Nat) (o : Int → Option Value) : Prop := ∃ D : DataW Value, w.ownsMap Tryz.prog 3 heldE b n D ∧ IsMap D ∧ ∀ i : Int, (∀ v, o i = some v → ∀ z, D.atKey (.int .i64 i) z = .held v) ∧ (o i = none → ∀ z, D.atKey (.int .i64 i) z = z)
theorem MapIs.made (w : World) : MapIs (w.alloc (.map #[] 0)) w.heap.size 0 (fun _ => none) := ⟨_, World.ownsMap_made w _ _ _, isMap_empty, fun i => ⟨fun v h => by simp at h, fun _ z => rfl⟩⟩
theorem MapIs.lt {w : World} {b n : Nat} {o : Int → Option Value} (h : MapIs w b n o) : b < w.heap.size := by obtain ⟨D, h1, _⟩ := h; exact h1.lt
theorem MapIs.keep {w w' : World} {b n : Nat} {o : Int → Option Value} (h : MapIs w b n o) (hb : w'.heap[b]? = w.heap[b]?) : MapIs w' b n o := by
 obtain ⟨D, ⟨es, clock, h1, h2, h3, h4⟩, r⟩ := h
 exact ⟨D, ⟨es, clock, hb.trans h1, h2, h3, h4⟩, r⟩
theorem MapIs.below {w w' : World} {b n : Nat} {o : Int → Option Value} (h : MapIs w b n o) (hb : Below w.heap.size w w') : MapIs w' b n o := h.keep (hb.block b h.lt)
theorem MapIs.mono {w : World} {b n n' : Nat} {o : Int → Option Value} (h : MapIs w b n o) (hn : n ≤ n') : MapIs w b n' o := by obtain ⟨D, h1, r⟩ := h; exact ⟨D, h1.mono hn, r⟩
theorem wfI {i : Int} (h : -9223372036854775808 ≤ i ∧ i ≤ 9223372036854775807) : (Lit.int .i64 i).wf = true := by
 simp [Lit.wf, IntKind.min, IntKind.max, IntKind.signed, IntKind.bits]; omega
theorem MapIs.look {w : World} {b n : Nat} {o : Int → Option Value} (h : MapIs w b n o) (i : Int) (hi : -9223372036854775808 ≤ i ∧ i ≤ 9223372036854775807) :
  (Instr.lookup 190 (.map (some b)) (.int .i64 i) true).run Tryz.prog w = .ok (.tuple #[(o i).getD (.slice none 0 0), .bool (o i).isSome]) w := by
 obtain ⟨D, ⟨es, clock, hb, F, hs, rfl⟩, hm, hat⟩ := h
 have hz := zeroSl w
 rcases Maps.fit_look true lawI Tryz.underlying190 hz hb F (keyOf_int_mk Tryz.underlying3 (wfI hi)) with ⟨hrun, _, h3⟩ | ⟨e0, y, _, _, hrun, hRv, h3, _⟩
 ·rw [hrun]
  cases ho : o i with
  | none => rfl
  | some v =>
   have h4 := (hat i).1 v ho .nil
   rw [h3 .nil] at h4; cases h4
 ·rw [hrun]
  unfold heldE at hRv
  injection hRv with hRv
  subst hRv
  cases ho : o i with
  | none =>
   have h4 := (hat i).2 ho .nil
   rw [h3 .nil] at h4; cases h4
  | some v =>
   have h4 := (hat i).1 v ho .nil
   rw [h3 .nil] at h4
   injection h4 with h4
   subst h4; rfl
theorem MapIs.put {w' : World} {b n : Nat} {D : DataW Value} {o : Int → Option Value} {i : Int} {v : Value} (hm : IsMap D) (hat : ∀ i : Int, (∀ v, o i = some v → ∀ z, D.atKey (.int .i64 i) z = .held v) ∧ (o i = none → ∀ z, D.atKey (.int .i64 i) z = z)) (h : w'.ownsMap Tryz.prog 3 heldE b (n + 1) (D.put (.int .i64 i) (.held v))) : MapIs w' b (n + 1) (fun j => if j = i then some v else o j) := by
 refine ⟨_, h, hm.put _ _, fun j => ?_⟩
 by_cases hj : j = i
 ·subst hj
  refine ⟨fun u hu z => ?_, fun hu => by simp at hu⟩
  replace hu : some v = some u := by simpa using hu
  injection hu with hu
  subst hu
  exact atKey_put_same hm (by simp [WideAt.IsKeyLit]) _ _
 ·have hne : (Lit.int .i64 j) ≠ (Lit.int .i64 i) := fun e => hj (by injection e)
  refine ⟨fun u hu z => ?_, fun hu z => ?_⟩
  ·replace hu : o j = some u := by simpa [hj] using hu
   rw [atKey_put_other hne]; exact (hat j).1 u hu z
  ·replace hu : o j = none := by simpa [hj] using hu
   rw [atKey_put_other hne]; exact (hat j).2 hu z
def dkIdx (l : List (Int × List UInt8)) (kept : Nat → Bool) (i : Int) : Nat → Option Nat
 | 0 => none
 | n + 1 => if kept n = true ∧ (l.getD n (0, [])).1 = i then some n else dkIdx l kept i n
theorem dkIdx_last (l : List (Int × List UInt8)) (kept : Nat → Bool) (i : Int) : ∀ n, dkLast l kept i n = (dkIdx l kept i n).map (fun j => (l.getD j (0, [])).2)
 | 0 => rfl
 | n + 1 => by
  unfold dkLast dkIdx
  split
  ·rfl
  ·exact dkIdx_last l kept i n
theorem dkIdx_lt (l : List (Int × List UInt8)) (kept : Nat → Bool) (i : Int) : ∀ n j, dkIdx l kept i n = some j → j < n
 | 0, j, h => by simp [dkIdx] at h
 | n + 1, j, h => by
  unfold dkIdx at h
  split at h
  ·injection h with h; omega
  ·have := dkIdx_lt l kept i n j h; omega
def LfI (V : World) (m kn : Nat) (l : List (Int × List UInt8)) (kept : Nat → Bool) (X : Nat → Value) (v : Value) (wr : World) : Prop :=
 ∃ k : Nat, k ≤ kn ∧ v = .int .i64 (k : Int) ∧ MapIs wr m k (fun i => (dkIdx l kept i k).map X) ∧ Below m V wr
def LgI (w V : World) (m g sn kn : Nat) (D : Dk) (kept : Nat → Bool) (X : Nat → Value) (v : Value) (wr : World) : Prop :=
 ∃ i : Nat, i ≤ sn ∧ v = .int .i64 (i : Int) ∧ MapIs wr m kn (fun i => (dkIdx D.k kept i kn).map X) ∧ SecsI w g sn (dkAt D kept) i wr ∧ Below m V wr
theorem RdWs.atv {w : World} {A : Option Addr} {n c : Nat} {vs : List Value} {l : List (Int × List UInt8)} (h : RdWs w A n c vs l) (k : Nat) (hk : k < n) :
  ∃ b o B m d, A = some ⟨b, o, none⟩ ∧ b < w.heap.size ∧ w.cell? ⟨b, o + k * 2, none⟩ = some (.int .i64 (l.getD k (0, [])).1) ∧ w.cell? ⟨b, o + k * 2 + 1, none⟩ = some (.slice B m d) ∧ RdB w B m d (l.getD k (0, [])).2 ∧ (-9223372036854775808 ≤ (l.getD k (0, [])).1 ∧ (l.getD k (0, [])).1 ≤ 9223372036854775807) ∧ vs.getD (k * 2 + 1) undef = .slice B m d := by
 obtain ⟨b, o, B, m, d, rfl, hb, h0, h1, h2, h3⟩ := h.at_ k hk
 refine ⟨b, o, B, m, d, rfl, hb, h0, h1, h2, h3, ?_⟩
 obtain ⟨b', o', he, _, hc⟩ := h.1.at_ (k * 2 + 1) (by have := h.2.1; omega)
 injection he with he; injection he with e1 e2; subst e1 e2
 rw [← Nat.add_assoc] at hc
 rw [hc] at h1
 injection h1 with h1
 rw [List.getD, List.getElem?_eq_getElem (by have := h.2.1; omega)]
 exact h1
theorem idx_next (l : List (Int × List UInt8)) (kept : Nat → Bool) (X : Nat → Value) (k : Nat) (hk : kept k = true) : (fun i => (dkIdx l kept i (k + 1)).map X) = fun j => if j = (l.getD k (0, [])).1 then some (X k) else (dkIdx l kept j k).map X := by
 funext i
 by_cases h : i = (l.getD k (0, [])).1
 ·rw [if_pos h]; unfold dkIdx; rw [if_pos ⟨hk, h.symm⟩]; rfl
 ·rw [if_neg h]; conv => lhs; unfold dkIdx
  rw [if_neg (fun hh => h hh.2.symm)]
theorem idx_skip (l : List (Int × List UInt8)) (kept : Nat → Bool) (X : Nat → Value) (k : Nat) (hk : kept k = false) : (fun i => (dkIdx l kept i (k + 1)).map X) = fun i => (dkIdx l kept i k).map X := by
 funext i
 conv => lhs; unfold dkIdx
 rw [if_neg (by rw [hk]; simp)]
theorem dresults_cell {P : Program} {fn : Func} {p : Tmp} {ty : TypeId} (h : fn.results = #[.cell p ty]) (tmps : Array Value) (w : World) (g : Nat) (t : TypeId) (cs : Array Value) (fr : Nat × Nat) (d : TypeDesc)
  (hp : tmps.getD p undef = .pointer (some ⟨g, 0, none⟩)) (hg : w.heap[g]? = some (.cells cs t fr))
  (hu : P.underlying ty = some d) (hd : (match d with | .struct _ | .array _ _ => true | _ => false) = true) (hi : (P.info? ty).map (·.size) = some cs.size) :
  (results fn tmps).run P w = .ok (.agg cs) w := by
 have hp' : tmps[p]?.getD undef = .pointer (some ⟨g, 0, none⟩) := by simpa using hp
 simp [results, h, hp', asAddr, run_loadVar_row w g t ty cs fr d hg hu hd hi]
theorem dresults_cell_tmp {P : Program} {fn : Func} {p q : Tmp} {ty : TypeId} (h : fn.results = #[.cell p ty, .tmp q]) (tmps : Array Value) (w : World) (g : Nat) (t : TypeId) (cs : Array Value) (fr : Nat × Nat) (d : TypeDesc)
  (hp : tmps.getD p undef = .pointer (some ⟨g, 0, none⟩)) (hg : w.heap[g]? = some (.cells cs t fr))
  (hu : P.underlying ty = some d) (hd : (match d with | .struct _ | .array _ _ => true | _ => false) = true) (hi : (P.info? ty).map (·.size) = some cs.size) :
  (results fn tmps).run P w = .ok (.tuple #[.agg cs, tmps.getD q undef]) w := by
 have hp' : tmps[p]?.getD undef = .pointer (some ⟨g, 0, none⟩) := by simpa using hp
 simp [results, h, hp', asAddr, run_loadVar_row w g t ty cs fr d hg hu hd hi]
theorem dkInfo (S : Option Addr) (sn sc : Nat) (K : Option Addr) (kn kc : Nat) : (Tryz.prog.info? 40).map (·.size) = some (#[.slice S sn sc, .slice K kn kc] : Array Value).size := by show _ = some 2; kernel_rfl
theorem SecsI.far {w0 w : World} {g n i : Nat} {f : Nat → List UInt8} (h : SecsI w0 g n f i w) {q : Nat} {cs : Array Value} {T : TypeId} {fr : Nat × Nat} (hq : w.heap[q]? = some (.cells cs T fr)) (h1 : T ≠ 5) (h2 : T ≠ 47) (k : Nat) (v : Value) : SecsI w0 g n f i (w.setCell ⟨q, k, none⟩ v) := by
 obtain ⟨vs, a, b⟩ := h
 refine ⟨vs, down_keepT a (fun g' cur' _ hg' => heap_setCell_other w ⟨q, k, none⟩ g' v (fun e => dtyp_ne hg' hq h2.symm e)), fun j hj => ?_⟩
 obtain ⟨A, m, c, h3, h4⟩ := b j hj
 exact ⟨A, m, c, h3, down_keepT h4 (fun g' cur' _ hg' => heap_setCell_other w ⟨q, k, none⟩ g' v (fun e => dtyp_ne hg' hq h1.symm e))⟩
theorem dkOk_slen {D : Dk} (h : dkOk D = true) (j : Nat) (hj : j < D.s.length) : (D.s.getD j []).length = 256 := ((dkOk_iff2 D).1 h).2.2.1 j hj
theorem dkOk_klen {D : Dk} (h : dkOk D = true) (j : Nat) (hj : j < D.k.length) : (D.k.getD j (0, [])).2.length = 256 := by
 have := ((dkOk_iff2 D).1 h).2.2.2 j hj
 unfold wLost at this
 rw [Bool.or_eq_false_iff] at this
 simpa using this.2
theorem dskLeft_any (F : FuncId) (caps : Array Value) (S : Option Addr) (sn sc : Nat) (K : Option Addr) (kn kc : Nat) (D : Dk) (w : World) (kept : Nat → Bool) (hr : RdDk w S sn sc K kn kc D) (hok : dkOk D = true)
  (hF : ∀ (args : Array Value) (W : World), (callFunc F args).run Tryz.prog W = .ok (.enter F args) W)
  (hdo : ∀ (W : World) (i : Nat), Below w.heap.size w W → i < kn → Calls Tryz.prog F (#[.int .i64 (i : Int)] ++ caps) W (RetV W (.bool (kept i)))) :
  Calls Tryz.prog 120 #[.agg #[.slice S sn sc, .slice K kn kc], .func (.func F) #[] caps] w (fun e w' => ∃ g, e = .returned (.agg #[.slice (some ⟨g, 0, none⟩) sn sn, .slice none 0 0]) ∧ SecsI w g sn (dkAt D kept) sn w' ∧ Below w.heap.size w w') := by
 have hsn : sn ≤ 1000000 := by have := ((dkOk_iff D).1 hok).1; have := hr.sl; omega
 have hkn : kn ≤ 1000000 := by have := ((dkOk_iff D).1 hok).2.1; have := hr.kl; omega
 have HOK := Lib.hid hok
 have HDO := Lib.hid hdo
 have HFF := Lib.hid hF
 have hsl := hr.sl
 have hkl := hr.kl
 obtain ⟨V, hV⟩ : ∃ V, V = ((w.alloc (.cells #[.slice S sn sc, .slice K kn kc] 40)).alloc (.cells #[.slice none 0 0, .slice none 0 0] 40)).alloc (.map #[] 0) := ⟨_, rfl⟩
 have bV : Below w.heap.size w V := by rw [hV]; exact (((below_self w).alloc (Nat.le_refl _) _).alloc (by simp) _).alloc (by simp; omega) _
 have qV : Hid (DkAt V w.heap.size S sn sc K kn kc) := by rw [hV]; exact Lib.hid (drw_old _ (drw_old _ (drw_at _ rfl)))
 have rV : Hid (DkAt V (w.heap.size + 1) none 0 0 none 0 0) := by rw [hV]; exact Lib.hid (drw_old _ (drw_at _ (by simp)))
 have mV : Hid (MapIs V (w.heap.size + 2) 0 (fun _ => none)) := by
  have := MapIs.made ((w.alloc (.cells #[.slice S sn sc, .slice K kn kc] 40)).alloc (.cells #[.slice none 0 0, .slice none 0 0] 40))
  rw [← hV] at this
  simpa using Lib.hid this
 have HV := Lib.hid hV
 have zV : V.heap.size = w.heap.size + 3 := by rw [hV]; simp
 have ZV := Lib.hid zV
 obtain ⟨⟨vs, hs⟩, us, hk⟩ := hr
 have hmm := @run_makeMap Tryz.prog
 obtain ⟨X, hX⟩ : ∃ X : Nat → Value, X = fun j => us.getD (j * 2 + 1) undef := ⟨_, rfl⟩
 have hXv : ∀ j, us.getD (j * 2 + 1) undef = X j := fun j => by rw [hX]
 have HX := Lib.hid hXv
 clear hV hdo hF zV hX hXv hok
 go_enter Tryz.func120, Tryz.ntmps120
 go_wp2_with fail
 rw [← HV.out]
 clear hmm
 go_loopw [17] (LfI V (w.heap.size + 1 + 1) kn D.k kept X) (fun i _ => kn - (intOf i).toNat)
 case atStart => exact ⟨0, by omega, rfl, mV.out, Below.refl _ _⟩
 case round =>
 obtain ⟨k, hkk, rfl, hM, hB⟩ := hrel
 have BW := bV.trans (hB.mono (by omega))
 have HM := Lib.hid hM
 clear hM
 by_cases hlt : k < kn
 ·obtain ⟨b, o, B, m, d, rfl, hb, hc0, hc1, hy, hrg, hxv⟩ := (hk.below BW).atv k hlt
  rw [HX.out] at hxv
  obtain ⟨a, ha⟩ : ∃ a, (D.k.getD k (0, [])).1 = a := ⟨_, rfl⟩
  rw [ha] at hc0 hrg
  have HA := Lib.hid ha
  have HXV := Lib.hid hxv
  have bX := (below_self wr).alloc (Nat.le_refl _) (.cells #[.int .i64 a, .slice B m d] 119)
  have hcall := HDO.out (wr.alloc (.cells #[.int .i64 a, .slice B m d] 119)) k (below_then BW bX) hlt
  have qX := drw_at (w := wr) (.cells #[.int .i64 a, .slice B m d] 119) rfl
  have QX := Lib.hid qX
  have BX := Lib.hid bX
  clear ha hxv qX bX
  go_wp2_with fail
  rw [HFF.out]
  cases hkp : kept k with
  | false =>
   rw [hkp] at hcall
   have HKP := Lib.hid hkp
   clear hkp
   go_wp2_with fail
   refine hcall.mono ?_
   rintro e w2 ⟨rfl, hb2⟩
   go_wp2_with fail
   go_roundw
   case rel => exact ⟨k + 1, by omega, by go_num, by rw [idx_skip _ _ _ _ HKP.out]; exact ((HM.out.below BX.out).below hb2).mono (by omega), hB.trans ((below_then BX.out hb2).mono (by have := HM.out.lt; omega))⟩
   case measure => simp [intOf]; omega
  | true =>
   rw [hkp] at hcall
   have HKP := Lib.hid hkp
   clear hkp
   go_wp2_with fail
   refine hcall.mono ?_
   rintro e w2 ⟨rfl, hb2⟩
   have Q2 := drw_up QX.out hb2
   have x0 := (cell_of_row w2 _ 0 _ _ _ Q2).trans (show (#[.int .i64 a, .slice B m d] : Array Value)[0]? = some (.int .i64 a) from rfl)
   have x1 := (cell_of_row w2 _ 1 _ _ _ Q2).trans (show (#[.int .i64 a, .slice B m d] : Array Value)[1]? = some (.slice B m d) from rfl)
   obtain ⟨D0, hown, hmap, hat⟩ := (HM.out.below BX.out).below hb2
   have HMAP := Lib.hid hmap
   have HAT := Lib.hid hat
   have HOWN := Lib.hid hown
   clear hmap hat Q2 hown
   go_wp2_with (at_mapUpdate; refine wpList_mapUpdate_own _ rfl _ _ _ 190 rfl 3 47 lawI Tryz.underlying190 heldE (w.heap.size + 1 + 1) k D0 rfl HOWN.out (by unfold maxLen; omega) (.int .i64 a) (.slice B m d) (.int .i64 a) rfl rfl (keyOf_int_mk Tryz.underlying3 (wfI hrg)) (.held (.slice B m d)) [] rfl ?_; intro w3 hown3 hgrow3)
   go_roundw
   case rel => exact ⟨k + 1, by omega, by go_num, by rw [idx_next _ _ _ _ HKP.out, HA.out, HXV.out]; exact MapIs.put HMAP.out HAT.out hown3, (hB.trans ((below_then BX.out hb2).mono (by have := HM.out.lt; omega))).grown hgrow3 (by have := HM.out.lt; have := BX.out.size; have := hb2.size; omega) (fun q hq => by injection hq with hq; omega)⟩
   case measure => simp [intOf]; omega
 obtain rfl : kn = k := by omega
 obtain ⟨W1, hW1⟩ : ∃ W : World, W = wr := ⟨_, rfl⟩
 rw [← hW1] at HM hB BW ⊢
 clear hW1
 have hm1 := HM.out.lt
 have hBq : Below (w.heap.size + 1) V W1 := hB.mono (by omega)
 have j0 := (hB.cell (p := ⟨w.heap.size, 0, none⟩) (by show w.heap.size < _; omega)).trans qV.out.c0
 have HJ0 := Lib.hid j0
 go_wp2_with (refine wp_makeSS rfl _ _ rfl .i64 .i64 sn rfl rfl (by omega) ?_; intro w3 ho3 hb3; have j0 := (hb3.cell (p := ⟨w.heap.size, 0, none⟩) (by show w.heap.size < _; omega)).trans HJ0.out)
 clear j0
 go_loopw [38] (LgI w V (w.heap.size + 1 + 1) W1.heap.size sn kn D kept X) (fun i _ => sn - (intOf i).toNat)
 case atStart => exact ⟨0, by omega, rfl, HM.out.below hb3, SecsI.zero (ho3.mono (by omega)), hB.trans (hb3.mono (by omega))⟩
 case round =>
 obtain ⟨i, hi, rfl, hM2, hS, hB2⟩ := hrel
 have BW2 := bV.trans (hB2.mono (by omega))
 have HM2 := Lib.hid hM2
 have HS := Lib.hid hS
 clear hM2 hS
 by_cases hlt2 : i < sn
 ·obtain ⟨b, o, B, m, d, rfl, hb, hc, hy⟩ := (hs.below BW2).at_ i hlt2
  have hlook := HM2.out.look (i : Int) ⟨by omega, by omega⟩
  have hAt : dkAt D kept i = ((dkIdx D.k kept (i : Int) kn).map (fun j => (D.k.getD j (0, [])).2)).getD (D.s.getD i []) := by unfold dkAt; rw [dkIdx_last, hkl]
  have HAt := Lib.hid hAt
  clear hAt
  cases hix : dkIdx D.k kept (i : Int) kn with
  | none =>
   rw [hix] at hlook HAt
   simp only [Option.map_none, Option.getD_none, Option.isSome_none] at hlook HAt
   clear hix
   have hn3 := hy.n63
   have hcl := clone_any B m d _ wr hy (by have := hy.2.1; have := dkOk_slen HOK.out i (by omega); omega)
   have HCL := Lib.hid hcl
   clear hcl
   go_wp2_with fail
   refine HCL.out.mono ?_
   rintro e w4 ⟨A4, n4, c4, rfl, ho4, hb4⟩
   obtain ⟨⟨v9, hv9⟩, hf9⟩ := (HS.out.below hb4).cells i hlt2
   have l1 : (i : Int) < (sn : Int) := by omega
   have HO4 := Lib.hid ho4
   clear ho4
   go_wp2_with fail
   go_roundw
   case rel => exact ⟨i + 1, by omega, by go_num, (HM2.out.below hb4).keep (heap_setCell_other _ _ _ _ (by have := HS.out.lt; have := HM.out.lt; show _ ≠ W1.heap.size; omega)), (HS.out.below hb4).next hlt2 (HO4.out.mono (by have := BW2.size; omega)) HAt.out, (hB2.trans (hb4.mono (by have := HM2.out.lt; omega))).setCell (p := ⟨W1.heap.size, i, none⟩) (by show _ ≤ W1.heap.size; omega) _⟩
   case measure => simp [intOf]; omega
  | some j =>
   rw [hix] at hlook HAt
   have hj := dkIdx_lt _ _ _ _ _ hix
   obtain ⟨b5, o5, B5, m5, d5, he5, hb5, h50, h51, hy5, _, hxv⟩ := (hk.below BW2).atv j hj
   rw [HX.out] at hxv
   simp only [Option.map_some, Option.getD_some, Option.isSome_some, hxv] at hlook HAt
   clear hix hxv h50 h51 he5
   have hn3 := hy5.n63
   have hcl := clone_any B5 m5 d5 _ wr hy5 (by have := hy5.2.1; have := dkOk_klen HOK.out j (by omega); omega)
   have HCL := Lib.hid hcl
   clear hcl
   go_wp2_with fail
   refine HCL.out.mono ?_
   rintro e w4 ⟨A4, n4, c4, rfl, ho4, hb4⟩
   obtain ⟨⟨v9, hv9⟩, hf9⟩ := (HS.out.below hb4).cells i hlt2
   have l1 : (i : Int) < (sn : Int) := by omega
   have HO4 := Lib.hid ho4
   clear ho4
   go_wp2_with fail
   go_roundw
   case rel => exact ⟨i + 1, by omega, by go_num, (HM2.out.below hb4).keep (heap_setCell_other _ _ _ _ (by have := HS.out.lt; have := HM.out.lt; show _ ≠ W1.heap.size; omega)), (HS.out.below hb4).next hlt2 (HO4.out.mono (by have := BW2.size; omega)) HAt.out, (hB2.trans (hb4.mono (by have := HM2.out.lt; omega))).setCell (p := ⟨W1.heap.size, i, none⟩) (by show _ ≤ W1.heap.size; omega) _⟩
   case measure => simp [intOf]; omega
 obtain rfl : sn = i := by omega
 have qR : DkAt wr (w.heap.size + 1) none 0 0 none 0 0 := (hB2.block _ (by omega)).trans rV.out
 have y0 := qR.c0
 have y1 := qR.c1
 have f0 := qR.fr 0
 have f1 := qR.fr 1
 have qS : DkAt ((wr.setCell ⟨w.heap.size + 1, 0, none⟩ (.slice (some ⟨W1.heap.size, 0, none⟩) sn sn)).setCell ⟨w.heap.size + 1, 1, none⟩ (.slice none 0 0)) (w.heap.size + 1) (some ⟨W1.heap.size, 0, none⟩) sn sn none 0 0 := (qR.s0 _ _ _).s1 none 0 0
 have hfin := (HS.out.far qR (by decide) (by decide) 0 (.slice (some ⟨W1.heap.size, 0, none⟩) sn sn)).far (qR.s0 (some ⟨W1.heap.size, 0, none⟩) sn sn) (by decide) (by decide) 1 (.slice none 0 0)
 have BF := (BW2.setCell (p := ⟨w.heap.size + 1, 0, none⟩) (by show w.heap.size ≤ w.heap.size + 1; omega) (.slice (some ⟨W1.heap.size, 0, none⟩) sn sn)).setCell (p := ⟨w.heap.size + 1, 1, none⟩) (by show w.heap.size ≤ w.heap.size + 1; omega) (.slice none 0 0)
 have QS := Lib.hid qS
 have HFIN := Lib.hid hfin
 have BFH := Lib.hid BF
 clear qS hfin BF qR
 go_wp2_with fail
 refine bodyPost_ret (dresults_cell Tryz.results120 _ _ (w.heap.size + 1) 40 _ (0, 0) _ rfl QS.out Tryz.underlying40 rfl (dkInfo ..)) rfl ?_
 exact ⟨_, rfl, HFIN.out, BFH.out⟩
theorem SecsI.disk {w0 w : World} {g sn : Nat} {D : Dk} {kept : Nat → Bool} (h : SecsI w0 g sn (dkAt D kept) sn w) (hsl : D.s.length = sn) (hn : sn ≤ 1000000) : RdDk w (some ⟨g, 0, none⟩) sn sn none 0 0 (dkLeft D kept) := by
 obtain ⟨vs9, h9⟩ := h.done hn
 exact ⟨⟨vs9, by unfold dkLeft; rw [hsl]; exact h9⟩, (rdDk_nil _).2⟩
end Go.Proofs.YtpahicfnhhhifaaGreat
namespace Go.Proofs.YtpahicfnhhhifaaGreat
set_option maxRecDepth 20000
open Go.RowKit
set_option maxHeartbeats 4000000
theorem RdDk.far2 {w W : World} {S K : Option Addr} {sn sc kn kc : Nat} {D : Dk} (h : RdDk w S sn sc K kn kc D) (hb : Below w.heap.size w W) {q : Nat} (hq : w.heap.size ≤ q) (v0 v1 : Value) : RdDk ((W.setCell ⟨q, 0, none⟩ v0).setCell ⟨q, 1, none⟩ v1) S sn sc K kn kc D :=
 h.below ((hb.setCell (p := ⟨q, 0, none⟩) hq v0).setCell (p := ⟨q, 1, none⟩) hq v1)
theorem below2 {w W : World} {B : Nat} (hb : Below B w W) {q : Nat} (hq : B ≤ q) (v0 v1 : Value) : Below B w ((W.setCell ⟨q, 0, none⟩ v0).setCell ⟨q, 1, none⟩ v1) := (hb.setCell (p := ⟨q, 0, none⟩) hq v0).setCell (p := ⟨q, 1, none⟩) hq v1
theorem DkAt.s01 {w : World} {g : Nat} {S K : Option Addr} {sn sc kn kc : Nat} (h : DkAt w g S sn sc K kn kc) (S' : Option Addr) (sn' sc' : Nat) (K' : Option Addr) (kn' kc' : Nat) : DkAt ((w.setCell ⟨g, 0, none⟩ (.slice S' sn' sc')).setCell ⟨g, 1, none⟩ (.slice K' kn' kc')) g S' sn' sc' K' kn' kc' := (h.s0 S' sn' sc').s1 K' kn' kc'
theorem dskFlush1_any (i : Int) (w : World) : Calls Tryz.prog 121 #[.int .i64 i] w (RetV w (.bool true)) := by
 go_enter Tryz.func121, Tryz.ntmps121
 go_wp2
 go_ret
 exact ⟨rfl, Below.refl _ _⟩
end Go.Proofs.YtpahicfnhhhifaaGreat
namespace Go.Proofs.YtpahicfnhhhifaaGreat
set_option maxRecDepth 20000
open Go.ChangeShapes Go.WideShapes Go.ChangeAt Go.RowKit Go.Deep
set_option maxHeartbeats 2000000
theorem dparts_of {W : World} (V : Nat → Value) (Y : Nat → List UInt8) : ∀ (is : List Nat), (∀ i ∈ is, ∃ A n c, V i = .slice A n c ∧ RdB W A n c (Y i)) → Parts W (is.map V) (is.map Y)
 | [], _ => trivial
 | i :: is, h => ⟨h i (by simp), dparts_of V Y is (fun j hj => h j (by simp [hj]))⟩
theorem rows_cell {H : Type} {enc : TypeId × Value → H} {W : World} {fuel : Nat} {v : Value} {y : DataW H × List MemPlace} (hf : DataW.trod enc Tryz.prog W 0 (fun _ => true) true fuel 37 [v] = some y) :
  ∃ A n c vs yss, v = .slice A n c ∧ RdSS W A n c vs yss := by
 rcases open_slice1 Tryz.underlying37 (by kernel_rfl) hf with ⟨hcs, _⟩ | ⟨x, l, c, m, n, V, D, Pl, hcs, _, hl, hm, hmm, _, hcell⟩
 ·injection hcs with hcs
  exact ⟨_, _, _, [], [], hcs, .inl rfl, rfl, Nat.le_refl _, by simp [maxLen], trivial⟩
 ·injection hcs with hcs
  have hmc : m = c := by simpa using hmm
  obtain ⟨Y, hY⟩ := choose_lt (α := List UInt8) (n := m) (p := fun i ys => ∃ A n c, V i = .slice A n c ∧ RdB W A n c ys) (fun i hi => by
   obtain ⟨A, n, c, xs, h1, h2⟩ := bytes_cell (hcell i hi).2
   exact ⟨xs, A, n, c, h1, h2⟩)
  refine ⟨_, _, _, (List.range l).map V, (List.range l).map Y, hcs, ?_, by simp, hl, hm, dparts_of V Y _ (fun i hi => hY i (by have := List.mem_range.1 hi; omega))⟩
  rcases Nat.eq_zero_or_pos l with rfl | hpos
  ·left; simp
  ·right
   obtain ⟨b, o, spot⟩ := x
   have hc0 := (hcell 0 (by omega)).1
   have hspot : spot = none := by simpa [Addr.add] using World.cell?_spot hc0
   subst hspot
   refine ⟨b, o, rfl, by have := World.block_lt_of_cell? W _ hc0; simpa [Addr.add] using this, fun i v hv => ?_⟩
   have hi : i < l := by have := (List.getElem?_eq_some_iff.1 hv).1; simpa using this
   have hc := (hcell i (by omega)).1
   rw [Addr.add_lit] at hc
   rw [hc, ← hv]
   simp [hi]
theorem pairs_get (V0 V1 : Nat → Value) : ∀ (is : List Nat) (k : Nat), (is.flatMap (fun i => [V0 i, V1 i]))[2 * k]? = is[k]?.map V0 ∧ (is.flatMap (fun i => [V0 i, V1 i]))[2 * k + 1]? = is[k]?.map V1
 | [], k => by simp
 | i :: is, 0 => by simp
 | i :: is, k + 1 => by
  have := pairs_get V0 V1 is k
  rw [show 2 * (k + 1) = 2 * k + 1 + 1 by omega]
  simpa using this
theorem pairs_len (V0 V1 : Nat → Value) : ∀ (is : List Nat), (is.flatMap (fun i => [V0 i, V1 i])).length = 2 * is.length
 | [] => rfl
 | i :: is => by simp [pairs_len V0 V1 is]; omega
theorem wparts_of {W : World} (V0 V1 : Nat → Value) (Y : Nat → Int × List UInt8) : ∀ (is : List Nat), (∀ i ∈ is, V0 i = .int .i64 (Y i).1 ∧ (-9223372036854775808 ≤ (Y i).1 ∧ (Y i).1 ≤ 9223372036854775807) ∧ ∃ A n c, V1 i = .slice A n c ∧ RdB W A n c (Y i).2) → WParts W (is.flatMap (fun i => [V0 i, V1 i])) (is.map Y)
 | [], _ => trivial
 | i :: is, h => by
  obtain ⟨h1, h2, h3⟩ := h i (by simp)
  exact ⟨h1, h2, h3, wparts_of V0 V1 Y is (fun j hj => h j (by simp [hj]))⟩
theorem writes_cell {H : Type} {enc : TypeId × Value → H} {W : World} {fuel : Nat} {v : Value} {y : DataW H × List MemPlace} (hf : DataW.trod enc Tryz.prog W 0 (fun _ => true) true fuel 38 [v] = some y) :
  ∃ A n c vs l, v = .slice A n c ∧ RdWs W A n c vs l := by
 rcases open_slice_pairs Tryz.underlying38 Tryz.underlying119 (by kernel_rfl) rfl rfl (by kernel_rfl) (by kernel_rfl) hf with ⟨hcs, _⟩ | ⟨x, l, c, m, n, V0, V1, D0, D1, P0, P1, hcs, _, hl, hm, hmm, _, hcell⟩
 ·injection hcs with hcs
  exact ⟨_, _, _, [], [], hcs, .inl rfl, rfl, Nat.le_refl _, by simp [maxLen], trivial⟩
 ·injection hcs with hcs
  have hmc : m = c := by simpa using hmm
  obtain ⟨Y, hY⟩ := choose_lt (α := Int × List UInt8) (n := m) (p := fun i y => V0 i = .int .i64 y.1 ∧ (-9223372036854775808 ≤ y.1 ∧ y.1 ≤ 9223372036854775807) ∧ ∃ A n c, V1 i = .slice A n c ∧ RdB W A n c y.2) (fun i hi => by
   obtain ⟨_, _, h3, h4⟩ := hcell i hi
   obtain ⟨j1, f1, _, hv1⟩ := DataW.trod_int Tryz.underlying3 h3
   obtain ⟨A, n, c, xs, h1, h2⟩ := bytes_cell h4
   exact ⟨(j1, xs), by simpa using f1, int_i64 hv1, A, n, c, h1, h2⟩)
  refine ⟨_, _, _, (List.range l).flatMap (fun i => [V0 i, V1 i]), (List.range l).map Y, hcs, ?_, by rw [pairs_len]; simp, hl, hm, wparts_of V0 V1 Y _ (fun i hi => hY i (by have := List.mem_range.1 hi; omega))⟩
  rcases Nat.eq_zero_or_pos l with rfl | hpos
  ·left; simp
  ·right
   obtain ⟨b, o, spot⟩ := x
   have hc0 := (hcell 0 (by omega)).1
   have hspot : spot = none := by simpa [Addr.add] using World.cell?_spot hc0
   subst hspot
   refine ⟨b, o, rfl, by have := World.block_lt_of_cell? W _ hc0; simpa [Addr.add] using this, fun i v hv => ?_⟩
   have hi : i < 2 * l := by have := (List.getElem?_eq_some_iff.1 hv).1; rw [pairs_len] at this; simpa using this
   obtain ⟨g0, g1⟩ := pairs_get V0 V1 (List.range l) (i / 2)
   have hk : (List.range l)[i / 2]? = some (i / 2) := by rw [List.getElem?_range (by omega)]
   rw [hk] at g0 g1
   obtain ⟨c0, c1, _⟩ := hcell (i / 2) (by omega)
   rw [Addr.add_lit] at c0 c1
   rcases Nat.mod_two_eq_zero_or_one i with h2 | h2
   ·rw [show 2 * (i / 2) = i by omega, hv] at g0
    rw [show i / 2 * 2 = i by omega] at c0
    rw [c0]; simpa using g0.symm
   ·rw [show 2 * (i / 2) + 1 = i by omega, hv] at g1
    rw [show i / 2 * 2 + 1 = i by omega] at c1
    rw [c1]; simpa using g1.symm
theorem open_disk {H : Type} {enc : TypeId × Value → H} {W : World} {base : Nat} {v : Value} {d0 : DataW H} {p : List MemPlace} (hv : Value.okWide Tryz.prog W .any base 40 v)
  (h : ∃ fuel, DataW.trod enc Tryz.prog W 0 (fun _ => true) true fuel 40 v.cells.toList = some (d0, p)) :
  ∃ S sn sc K kn kc D, v = .agg #[.slice S sn sc, .slice K kn kc] ∧ RdDk W S sn sc K kn kc D := by
 obtain ⟨cs, rfl, hsz⟩ := okWide_struct Tryz.underlying40 hv
 obtain ⟨fuel, hf⟩ := h
 have hN : Tryz.prog.cellsOf 40 = 2 := by kernel_rfl
 rw [hN] at hsz
 obtain ⟨ls⟩ := cs
 have hls : ls.length = 2 := by simpa using hsz
 match ls, hls with
 | [c0, c1], _ =>
  obtain ⟨ys, m, _, _, _, hl, hg⟩ := DataW.trod_struct Tryz.underlying40 hf
  match ys, hl with
  | [y0, y1], _ =>
   have z_s : Tryz.prog.cellsOf 37 = 1 := by kernel_rfl
   have z_w : Tryz.prog.cellsOf 38 = 1 := by kernel_rfl
   have h0 : DataW.trod enc Tryz.prog W 0 (fun _ => true) true m 37 [c0] = some y0 := by
    have q : DataW.trod enc Tryz.prog W 0 (fun _ => true) true m 37 ((([c0, c1] : List Value).drop 0).take (Tryz.prog.cellsOf 37)) = [y0, y1][0]? := hg 0 _ rfl
    rw [z_s] at q
    exact q
   have h1 : DataW.trod enc Tryz.prog W 0 (fun _ => true) true m 38 [c1] = some y1 := by
    have q : DataW.trod enc Tryz.prog W 0 (fun _ => true) true m 38 ((([c0, c1] : List Value).drop 1).take (Tryz.prog.cellsOf 38)) = [y0, y1][1]? := hg 1 _ rfl
    rw [z_w] at q
    exact q
   obtain ⟨S, sn, sc, vs, yss, rfl, hs⟩ := rows_cell h0
   obtain ⟨K, kn, kc, us, l, rfl, hk⟩ := writes_cell h1
   exact ⟨S, sn, sc, K, kn, kc, ⟨yss, l⟩, rfl, ⟨vs, hs⟩, us, hk⟩
end Go.Proofs.YtpahicfnhhhifaaGreat
namespace Go.Proofs.YtpahicfnhhhifaaGreat
set_option maxRecDepth 20000
def leB (n size : Nat) : List UInt8 := (List.range size).map fun i => UInt8.ofNat (n / 256 ^ i)
def beB (n size : Nat) : List UInt8 := (leB n size).reverse
def clamp (s : Int) : Nat := if s < 0 then 0 else if 8 < s then 8 else s.toNat
def fromLe (xs : List UInt8) : Nat := lev (xs.take 8)
def bev (xs : List UInt8) : Nat := xs.foldl (fun a u => a * 256 + u.toNat) 0
def fromBe (xs : List UInt8) : Nat := bev (xs.take 8)
theorem clamp_le (s : Int) : clamp s ≤ 8 := by unfold clamp; split <;> (try split) <;> omega
theorem leB_length (n k : Nat) : (leB n k).length = k := by simp [leB]
theorem beB_length (n k : Nat) : (beB n k).length = k := by simp [beB, leB_length]
theorem leB_succ (n k : Nat) : leB n (k + 1) = leB n k ++ [UInt8.ofNat (n / 256 ^ k)] := by
 simp [leB, List.range_succ]
theorem leB_zero (n : Nat) : leB n 0 = [] := rfl
theorem lev_leB (n k : Nat) : lev (leB n k) = n % 256 ^ k := by
 induction k with
 | zero => simp [leB_zero, lev, Nat.mod_one]
 | succ k ih =>
  rw [leB_succ, lev_append, ih, leB_length, Nat.mod_pow_succ]
  simp [lev, UInt8.toNat_ofNat']
theorem bev_snoc (xs : List UInt8) (u : UInt8) : bev (xs ++ [u]) = bev xs * 256 + u.toNat := by simp [bev]
theorem bev_fold (xs : List UInt8) : ∀ a : Nat, xs.foldl (fun a u => a * 256 + u.toNat) a = a * 256 ^ xs.length + bev xs := by
 induction xs with
 | nil => intro a; simp [bev]
 | cons u us ih =>
  intro a
  have h0 : bev (u :: us) = (0 * 256 + u.toNat) * 256 ^ us.length + bev us := ih _
  rw [List.foldl_cons, ih, h0, List.length_cons, Nat.pow_succ, Nat.add_mul, Nat.add_mul]
  have e : a * 256 * 256 ^ us.length = a * (256 ^ us.length * 256) := by rw [Nat.mul_assoc, Nat.mul_comm 256]
  rw [e]; omega
theorem bev_cons (u : UInt8) (us : List UInt8) : bev (u :: us) = u.toNat * 256 ^ us.length + bev us := by
 have h0 : bev (u :: us) = (0 * 256 + u.toNat) * 256 ^ us.length + bev us := bev_fold us (0 * 256 + u.toNat)
 rw [h0, Nat.zero_mul, Nat.zero_add]
theorem bev_lt (xs : List UInt8) : bev xs < 256 ^ xs.length := by
 induction xs with
 | nil => simp [bev]
 | cons u us ih =>
  rw [bev_cons, List.length_cons, Nat.pow_succ]
  have hu := u.toNat_lt
  have : u.toNat * 256 ^ us.length ≤ 255 * 256 ^ us.length := Nat.mul_le_mul_right _ (by omega)
  omega
structure H8 where
 a : Nat
 b : Nat
 c : Nat
 d : Nat
 e : Nat
 f : Nat
 g : Nat
 h : Nat
deriving DecidableEq
def H8.ok (x : H8) : Prop := x.a < 4294967296 ∧ x.b < 4294967296 ∧ x.c < 4294967296 ∧ x.d < 4294967296 ∧ x.e < 4294967296 ∧ x.f < 4294967296 ∧ x.g < 4294967296 ∧ x.h < 4294967296
def H8.l (x : H8) : List Nat := [x.a, x.b, x.c, x.d, x.e, x.f, x.g, x.h]
def ror (x n : Nat) : Nat := x / 2 ^ n ||| (x * 2 ^ (32 - n)) % 4294967296
def shMix (x : Nat) (ts : List Nat) : Nat := ts.foldl (fun o n => o ^^^ ror x n) 0
def shCh (e f g : Nat) : Nat := g ^^^ (e &&& (f ^^^ g))
def shMaj (a b c : Nat) : Nat := (a &&& b) ||| (c &&& (a ||| b))
def shK : List Nat := [1116352408, 1899447441, 3049323471, 3921009573, 961987163, 1508970993, 2453635748, 2870763221, 3624381080, 310598401, 607225278, 1426881987, 1925078388, 2162078206, 2614888103, 3248222580, 3835390401, 4022224774, 264347078, 604807628, 770255983, 1249150122, 1555081692, 1996064986, 2554220882, 2821834349, 2952996808, 3210313671, 3336571891, 3584528711, 113926993, 338241895, 666307205, 773529912, 1294757372, 1396182291, 1695183700, 1986661051, 2177026350, 2456956037, 2730485921, 2820302411, 3259730800, 3345764771, 3516065817, 3600352804, 4094571909, 275423344, 430227734, 506948616, 659060556, 883997877, 958139571, 1322822218, 1537002063, 1747873779, 1955562222, 2024104815, 2227730452, 2361852424, 2428436474, 2756734187, 3204031479, 3329325298]
def shT (x : H8) (k w : Nat) : Nat := (x.h + shMix x.e [6, 11, 25] + shCh x.e x.f x.g + k + w) % 4294967296
def shU (x : H8) : Nat := (shMix x.a [2, 13, 22] + shMaj x.a x.b x.c) % 4294967296
def shStep (k w : Nat) (x : H8) : H8 := ⟨(shT x k w + shU x) % 4294967296, x.a, x.b, x.c, (x.d + shT x k w) % 4294967296, x.e, x.f, x.g⟩
def shSig (ws : List Nat) (i : Nat) : Nat :=
 ((shMix (ws.getD (i - 2) 0) [17, 19] ^^^ ws.getD (i - 2) 0 / 1024) + (ws.getD (i - 7) 0 + ws.getD (i - 16) 0 + (shMix (ws.getD (i - 15) 0) [7, 18] ^^^ ws.getD (i - 15) 0 / 8))) % 4294967296
def shWord (b : List UInt8) (ws : List Nat) (i : Nat) : Nat := if i < 16 then bev ((b.drop (4 * i)).take 4) else shSig ws i
def shWs (b : List UInt8) : Nat → List Nat
 | 0 => []
 | k + 1 => shWs b k ++ [shWord b (shWs b k) k]
def shRounds (ws : List Nat) (x : H8) : Nat → H8
 | 0 => x
 | k + 1 => shStep (shK.getD k 0) (ws.getD k 0) (shRounds ws x k)
def H8.add (x y : H8) : H8 := ⟨(x.a + y.a) % 4294967296, (x.b + y.b) % 4294967296, (x.c + y.c) % 4294967296, (x.d + y.d) % 4294967296, (x.e + y.e) % 4294967296, (x.f + y.f) % 4294967296, (x.g + y.g) % 4294967296, (x.h + y.h) % 4294967296⟩
def shWords (b : List UInt8) : List Nat := if b.length = 64 then shWs b 64 else List.replicate 64 0
def shTurn (x : H8) (b : List UInt8) : H8 := if b.length = 64 then x.add (shRounds (shWs b 64) x 64) else x
def shPad (n : Nat) : List UInt8 := 128 :: (List.replicate ((119 - n % 64) % 64) 0 ++ beB (8 * n) 8)
def shBegin : H8 := ⟨1779033703, 3144134277, 1013904242, 2773480762, 1359893119, 2600822924, 528734635, 1541459225⟩
def shFold (x : H8) (b : List UInt8) : Nat → H8
 | 0 => x
 | k + 1 => shTurn (shFold x b k) ((b.drop (64 * k)).take 64)
def shDig (x : H8) : List UInt8 := x.l.flatMap fun n => beB n 4
def shAll (b : List UInt8) : List UInt8 := b ++ shPad b.length
def shOf (b : List UInt8) : List UInt8 := shDig (shFold shBegin (shAll b) ((shAll b).length / 64))
def shLink (d b : List UInt8) : List UInt8 := shOf (d ++ b)
theorem xor_lt32 {a b : Nat} (ha : a < 4294967296) (hb : b < 4294967296) : a ^^^ b < 4294967296 := Nat.xor_lt_two_pow (n := 32) (by omega) (by omega)
theorem or_lt32 {a b : Nat} (ha : a < 4294967296) (hb : b < 4294967296) : a ||| b < 4294967296 := Nat.or_lt_two_pow (n := 32) (by omega) (by omega)
theorem and_lt32 {a b : Nat} (ha : a < 4294967296) : a &&& b < 4294967296 := Nat.lt_of_le_of_lt Nat.and_le_left ha
theorem ror_lt {x : Nat} (n : Nat) (h : x < 4294967296) : ror x n < 4294967296 := or_lt32 (Nat.lt_of_le_of_lt (Nat.div_le_self _ _) h) (Nat.mod_lt _ (by omega))
theorem shMix_snoc (x : Nat) (ts : List Nat) (n : Nat) : shMix x (ts ++ [n]) = shMix x ts ^^^ ror x n := by simp [shMix]
theorem shMix_lt {x : Nat} (h : x < 4294967296) (ts : List Nat) : shMix x ts < 4294967296 := by
 unfold shMix
 suffices ∀ (ts : List Nat) (o : Nat), o < 4294967296 → ts.foldl (fun o n => o ^^^ ror x n) o < 4294967296 from this ts 0 (by omega)
 intro ts
 induction ts with
 | nil => intro o ho; exact ho
 | cons t ts ih => intro o ho; exact ih _ (xor_lt32 ho (ror_lt t h))
theorem shMix2 (x a b : Nat) : shMix x [a, b] = ror x a ^^^ ror x b := by simp [shMix]
theorem shMix3 (x a b c : Nat) : shMix x [a, b, c] = ror x a ^^^ ror x b ^^^ ror x c := by simp [shMix]
theorem not_bit {e : Nat} (h : e < 4294967296) (i : Nat) : (4294967295 - e).testBit i = (decide (i < 32) && !e.testBit i) := by
 have := Nat.testBit_two_pow_sub_succ (x := e) (n := 32) (by omega) i
 rw [← this]; congr 1; omega
theorem bit_high {g : Nat} (h : g < 4294967296) {i : Nat} (hi : 32 ≤ i) : g.testBit i = false := Nat.testBit_lt_two_pow (Nat.lt_of_lt_of_le h (Nat.pow_le_pow_right (by omega) hi : 2 ^ 32 ≤ 2 ^ i))
theorem ch_ref {e f g : Nat} (he : e < 4294967296) (hg : g < 4294967296) : (e &&& f) ^^^ ((4294967295 - e) &&& g) = shCh e f g := by
 unfold shCh
 apply Nat.eq_of_testBit_eq
 intro i
 simp only [Nat.testBit_xor, Nat.testBit_and, not_bit he]
 by_cases hi : i < 32
 ·simp only [hi, decide_true, Bool.true_and]
  cases e.testBit i <;> cases f.testBit i <;> cases g.testBit i <;> rfl
 ·rw [bit_high he (by omega), bit_high hg (by omega)]
  simp [hi]
theorem maj_ref (a b c : Nat) : (a &&& b) ^^^ (a &&& c) ^^^ (b &&& c) = shMaj a b c := by
 unfold shMaj
 apply Nat.eq_of_testBit_eq
 intro i
 simp only [Nat.testBit_xor, Nat.testBit_and, Nat.testBit_or]
 cases a.testBit i <;> cases b.testBit i <;> cases c.testBit i <;> rfl
theorem shStep_ok {k w : Nat} {x : H8} (h : x.ok) : (shStep k w x).ok := by
 obtain ⟨h1, h2, h3, h4, h5, h6, h7, h8⟩ := h
 exact ⟨Nat.mod_lt _ (by omega), h1, h2, h3, Nat.mod_lt _ (by omega), h5, h6, h7⟩
theorem shRounds_ok (ws : List Nat) {x : H8} (h : x.ok) : ∀ k, (shRounds ws x k).ok
 | 0 => h
 | k + 1 => shStep_ok (shRounds_ok ws h k)
theorem add_ok (x y : H8) : (x.add y).ok := by refine ⟨?_, ?_, ?_, ?_, ?_, ?_, ?_, ?_⟩ <;> exact Nat.mod_lt _ (by omega)
theorem shTurn_ok {x : H8} (h : x.ok) (b : List UInt8) : (shTurn x b).ok := by
 unfold shTurn; split
 ·exact add_ok _ _
 ·exact h
theorem shBegin_ok : shBegin.ok := by unfold H8.ok shBegin; decide
theorem shFold_ok {x : H8} (h : x.ok) (b : List UInt8) : ∀ k, (shFold x b k).ok
 | 0 => h
 | k + 1 => shTurn_ok (shFold_ok h b k) _
theorem shSig_lt (ws : List Nat) (i : Nat) : shSig ws i < 4294967296 := Nat.mod_lt _ (by omega)
theorem bev4_lt (b : List UInt8) : bev (b.take 4) < 4294967296 := by
 have h := bev_lt (b.take 4)
 have h2 : (b.take 4).length ≤ 4 := by rw [List.length_take]; omega
 exact Nat.lt_of_lt_of_le h (Nat.pow_le_pow_right (by omega) h2)
theorem shWord_lt (b : List UInt8) (ws : List Nat) (i : Nat) : shWord b ws i < 4294967296 := by
 unfold shWord; split
 ·exact bev4_lt _
 ·exact shSig_lt _ _
theorem shWs_len (b : List UInt8) : ∀ k, (shWs b k).length = k
 | 0 => rfl
 | k + 1 => by simp [shWs, shWs_len b k]
theorem shWs_lt (b : List UInt8) : ∀ k, ∀ n ∈ shWs b k, n < 4294967296
 | 0 => by simp [shWs]
 | k + 1 => by
  intro n hn
  rw [shWs, List.mem_append] at hn
  rcases hn with hn | hn
  ·exact shWs_lt b k n hn
  ·obtain rfl : n = _ := by simpa using hn
   exact shWord_lt _ _ _
theorem shDig_len (x : H8) : (shDig x).length = 32 := by simp [shDig, H8.l, beB_length]
theorem shOf_len (b : List UInt8) : (shOf b).length = 32 := shDig_len _
theorem shLink_len (d b : List UInt8) : (shLink d b).length = 32 := shOf_len _
theorem shPad_len (n : Nat) : (shPad n).length = 9 + (119 - n % 64) % 64 := by simp [shPad, beB_length]; omega
theorem shAll_len (b : List UInt8) : (shAll b).length = 64 * ((b.length + 72) / 64) := by
 unfold shAll; rw [List.length_append, shPad_len]; omega
structure Rc where
 g : Nat
 s : Nat
 m : Nat
 t : Nat
 k : Int
 c : Nat
 b : List UInt8
 D : List UInt8
deriving DecidableEq
def Rc.ok (r : Rc) : Prop := r.g < 4294967296 ∧ r.s < 4294967296 ∧ r.m < 4294967296 ∧ r.t < 18446744073709551616 ∧ (-9223372036854775808 ≤ r.k ∧ r.k ≤ 9223372036854775807) ∧ r.c < 18446744073709551616 ∧ r.D.length = 32
def rcZ : Rc := ⟨0, 0, 0, 0, 0, 0, [], List.replicate 32 0⟩
def rcChk (k : Int) (c n : Nat) : Bool := if k = 1 then decide (c ≤ 1099511627776 ∧ n = 0) else if k = 2 then decide (c = 0 ∧ 1 ≤ n ∧ n ≤ 16) else if k = 3 then decide (c = 0 ∧ 1 ≤ n ∧ n ≤ 180) else false
def Rc.chk (r : Rc) : Bool := rcChk r.k r.c r.b.length
def rcBody (r : Rc) : List UInt8 := [80, 72, 82, 67] ++ (leB r.g 4 ++ (leB r.s 4 ++ (leB r.m 4 ++ (leB r.t 8 ++ ([UInt8.ofNat r.k.toNat] ++ ([UInt8.ofNat r.b.length] ++ (leB r.c 8 ++ (r.b ++ List.replicate (186 - r.b.length) 0))))))))
def rcL (r : Rc) : List UInt8 := crcClosed (rcBody r ++ r.D)
def rcPutL (r : Rc) : List UInt8 := if r.chk = true then rcL r else []
def rcPutE (r : Rc) : Int := if r.chk = true then 0 else 2
def rcOf (b : List UInt8) : Rc := ⟨lev ((b.drop 4).take 4), lev ((b.drop 8).take 4), lev ((b.drop 12).take 4), lev ((b.drop 16).take 8), ((b.getD 24 0).toNat : Nat), lev ((b.drop 26).take 8), (b.drop 34).take (b.getD 25 0).toNat, (b.drop 220).take 32⟩
def rcGetE (b : List UInt8) : Int :=
 if b.length ≠ 256 then 2 else if crcHolds b = false then 6 else if 180 < (b.getD 25 0).toNat then 3 else if (rcOf b).chk = true ∧ rcL (rcOf b) = b then 0 else 3
def rcGet (b : List UInt8) : Rc := if rcGetE b = 0 then rcOf b else rcZ
def rcMk (P : List UInt8) (r : Rc) : Rc := { r with D := shLink P (rcBody r) }
def rcFolE (P : List UInt8) (g s : Nat) (b : List UInt8) : Int :=
 if rcGetE b = 0 then (if (rcGet b).g ≠ g then 120 else if (rcGet b).s ≠ s then 121 else if (rcGet b).D ≠ shLink P (rcBody (rcGet b)) then 122 else 0) else rcGetE b
def rcFol (P : List UInt8) (g s : Nat) (b : List UInt8) : Rc := if rcFolE P g s b = 0 then rcGet b else rcZ
theorem rcChk_cases {k : Int} {c n : Nat} (h : rcChk k c n = true) : (k = 1 ∧ c ≤ 1099511627776 ∧ n = 0) ∨ (k = 2 ∧ c = 0 ∧ 1 ≤ n ∧ n ≤ 16) ∨ (k = 3 ∧ c = 0 ∧ 1 ≤ n ∧ n ≤ 180) := by
 unfold rcChk at h
 split at h
 ·exact .inl ⟨by assumption, of_decide_eq_true h⟩
 ·split at h
  ·exact .inr (.inl ⟨by assumption, of_decide_eq_true h⟩)
  ·split at h
   ·exact .inr (.inr ⟨by assumption, of_decide_eq_true h⟩)
   ·cases h
theorem rcChk_len {k : Int} {c n : Nat} (h : rcChk k c n = true) : n ≤ 180 ∧ 1 ≤ k ∧ k ≤ 3 ∧ c ≤ 1099511627776 := by
 rcases rcChk_cases h with h | h | h <;> omega
theorem rcBody_len (r : Rc) (h : r.b.length ≤ 186) : (rcBody r).length = 220 := by simp [rcBody, leB_length]; omega
theorem rcL_len (r : Rc) (h : r.b.length ≤ 186) (hD : r.D.length = 32) : (rcL r).length = 256 := by simp [rcL, crcClosed, rcBody_len r h, le4_length, hD]
theorem rcLev (b : List UInt8) (k n : Nat) : lev ((b.drop k).take n) < 256 ^ n := by
 have h := lev_lt ((b.drop k).take n)
 exact Nat.lt_of_lt_of_le h (Nat.pow_le_pow_right (by omega) (by rw [List.length_take]; omega))
theorem rcOf_ok (b : List UInt8) (h : b.length = 256) : (rcOf b).ok := by
 have := (b.getD 24 0).toNat_lt
 refine ⟨rcLev b 4 4, rcLev b 8 4, rcLev b 12 4, rcLev b 16 8, ⟨by simp only [rcOf]; omega, by simp only [rcOf]; omega⟩, rcLev b 26 8, by simp [rcOf, h]⟩
theorem rcZ_ok : rcZ.ok := by refine ⟨by decide, by decide, by decide, by decide, ⟨by decide, by decide⟩, by decide, rfl⟩
theorem rcOf_put (r : Rc) (h : r.ok) (hc : r.chk = true) : rcOf (rcL r) = r := by
 obtain ⟨hb, hk1, hk3, hcc⟩ := rcChk_len hc
 obtain ⟨g, s, m, t, k, c, b, D⟩ := r
 obtain ⟨hg, hs, hm, ht, -, hc8, hD⟩ := h
 simp only at hb hk1 hk3 hcc hg hs hm ht hc8 hD
 obtain ⟨k, rfl⟩ : ∃ j : Nat, k = (j : Int) := ⟨k.toNat, by omega⟩
 obtain ⟨E, hE⟩ : ∃ E, rcL ⟨g, s, m, t, k, c, b, D⟩ = E := ⟨_, rfl⟩
 obtain ⟨L, hL⟩ : ∃ L, le4 (crcOf (rcBody ⟨g, s, m, t, k, c, b, D⟩ ++ D)) = L := ⟨_, rfl⟩
 obtain ⟨Z, hZ⟩ : ∃ Z, List.replicate (186 - b.length) (0 : UInt8) = Z := ⟨_, rfl⟩
 have hZl : Z.length = 186 - b.length := by rw [← hZ]; simp
 have e0 : E = [80, 72, 82, 67] ++ (leB g 4 ++ (leB s 4 ++ (leB m 4 ++ (leB t 8 ++ ([UInt8.ofNat k] ++ ([UInt8.ofNat b.length] ++ (leB c 8 ++ (b ++ (Z ++ (D ++ L)))))))))) := by
  rw [← hE]; unfold rcL crcClosed; rw [hL]; unfold rcBody; simp only [hZ, Int.toNat_natCast, List.append_assoc]
 rw [hE]
 have d4 : E.drop 4 = leB g 4 ++ (leB s 4 ++ (leB m 4 ++ (leB t 8 ++ ([UInt8.ofNat k] ++ ([UInt8.ofNat b.length] ++ (leB c 8 ++ (b ++ (Z ++ (D ++ L))))))))) := by rw [e0]; rfl
 have d8 : E.drop 8 = leB s 4 ++ (leB m 4 ++ (leB t 8 ++ ([UInt8.ofNat k] ++ ([UInt8.ofNat b.length] ++ (leB c 8 ++ (b ++ (Z ++ (D ++ L)))))))) := by
  rw [show 8 = 4 + 4 from rfl, ← List.drop_drop, d4]; exact List.drop_left' (by rw [leB_length])
 have d12 : E.drop 12 = leB m 4 ++ (leB t 8 ++ ([UInt8.ofNat k] ++ ([UInt8.ofNat b.length] ++ (leB c 8 ++ (b ++ (Z ++ (D ++ L))))))) := by
  rw [show 12 = 8 + 4 from rfl, ← List.drop_drop, d8]; exact List.drop_left' (by rw [leB_length])
 have d16 : E.drop 16 = leB t 8 ++ ([UInt8.ofNat k] ++ ([UInt8.ofNat b.length] ++ (leB c 8 ++ (b ++ (Z ++ (D ++ L)))))) := by
  rw [show 16 = 12 + 4 from rfl, ← List.drop_drop, d12]; exact List.drop_left' (by rw [leB_length])
 have d24 : E.drop 24 = [UInt8.ofNat k] ++ ([UInt8.ofNat b.length] ++ (leB c 8 ++ (b ++ (Z ++ (D ++ L))))) := by
  rw [show 24 = 16 + 8 from rfl, ← List.drop_drop, d16]; exact List.drop_left' (by rw [leB_length])
 have d25 : E.drop 25 = [UInt8.ofNat b.length] ++ (leB c 8 ++ (b ++ (Z ++ (D ++ L)))) := by
  rw [show 25 = 24 + 1 from rfl, ← List.drop_drop, d24]; rfl
 have d26 : E.drop 26 = leB c 8 ++ (b ++ (Z ++ (D ++ L))) := by
  rw [show 26 = 25 + 1 from rfl, ← List.drop_drop, d25]; rfl
 have d34 : E.drop 34 = b ++ (Z ++ (D ++ L)) := by
  rw [show 34 = 26 + 8 from rfl, ← List.drop_drop, d26]; exact List.drop_left' (by rw [leB_length])
 have d220 : E.drop 220 = D ++ L := by
  rw [show 220 = 34 + 186 from rfl, ← List.drop_drop, d34, ← List.append_assoc]; exact List.drop_left' (by rw [List.length_append, hZl]; omega)
 have g24 : E.getD 24 0 = UInt8.ofNat k := by
  have : (E.drop 24)[0]? = some (UInt8.ofNat k) := by rw [d24]; rfl
  rw [List.getElem?_drop] at this; simp only [Nat.add_zero] at this
  rw [List.getD, this]; rfl
 have g25 : E.getD 25 0 = UInt8.ofNat b.length := by
  have : (E.drop 25)[0]? = some (UInt8.ofNat b.length) := by rw [d25]; rfl
  rw [List.getElem?_drop] at this; simp only [Nat.add_zero] at this
  rw [List.getD, this]; rfl
 unfold rcOf
 rw [d4, d8, d12, d16, d26, d34, d220, g24, g25, List.take_left' (by rw [leB_length]), List.take_left' (by rw [leB_length]), List.take_left' (by rw [leB_length]), List.take_left' (by rw [leB_length]), List.take_left' (by rw [leB_length]), lev_leB, lev_leB, lev_leB, lev_leB, lev_leB, UInt8.toNat_ofNat', UInt8.toNat_ofNat', List.take_left' hD]
 rw [Nat.mod_eq_of_lt hg, Nat.mod_eq_of_lt hs, Nat.mod_eq_of_lt hm, Nat.mod_eq_of_lt (show t < 256 ^ 8 from ht), Nat.mod_eq_of_lt (show c < 256 ^ 8 from hc8), Nat.mod_eq_of_lt (show k < 2 ^ 8 by omega), Nat.mod_eq_of_lt (show b.length < 2 ^ 8 by omega), List.take_left' rfl]
theorem rcL_25 (r : Rc) (h : r.ok) (hc : r.chk = true) : ((rcL r).getD 25 0).toNat = r.b.length := by
 have hb := (rcChk_len hc).1
 have e : (rcL r)[25]? = some (UInt8.ofNat r.b.length) := by
  unfold rcL crcClosed
  rw [List.append_assoc, List.getElem?_append_left (by rw [rcBody_len r (by omega)]; omega)]
  rfl
 rw [List.getD, e, Option.getD_some, UInt8.toNat_ofNat', Nat.mod_eq_of_lt (by omega)]
theorem rcGet_put (r : Rc) (h : r.ok) (hc : r.chk = true) : rcGetE (rcPutL r) = 0 ∧ rcGet (rcPutL r) = r := by
 have e : rcPutL r = rcL r := by unfold rcPutL; rw [if_pos hc]
 have hb := (rcChk_len hc).1
 have e2 := rcOf_put r h hc
 have e1 : rcGetE (rcL r) = 0 := by
  unfold rcGetE
  rw [if_neg (by rw [rcL_len r (by omega) h.2.2.2.2.2.2]; simp), if_neg (by unfold rcL; rw [crcHolds_closed]; simp), if_neg (by rw [rcL_25 r h hc]; omega), e2, if_pos ⟨hc, rfl⟩]
 rw [e]
 exact ⟨e1, by unfold rcGet; rw [if_pos e1, e2]⟩
theorem rcGet_ok (b : List UInt8) (h : rcGetE b = 0) : rcGet b = rcOf b ∧ b.length = 256 ∧ crcHolds b = true ∧ (rcGet b).chk = true ∧ rcL (rcGet b) = b ∧ rcPutL (rcGet b) = b ∧ (rcGet b).ok := by
 have e : rcGet b = rcOf b := by unfold rcGet; rw [if_pos h]
 rw [e]
 unfold rcGetE at h
 split at h
 ·simp at h
 ·rename_i h1
  split at h
  ·simp at h
  ·rename_i h2
   split at h
   ·simp at h
   ·split at h
    ·rename_i h3
     exact ⟨rfl, by simpa using h1, by simpa using h2, h3.1, h3.2, by unfold rcPutL; rw [if_pos h3.1, h3.2], rcOf_ok b (by simpa using h1)⟩
    ·simp at h
theorem rcGet_okk (b : List UInt8) : (rcGet b).ok ∧ (rcGet b).b.length ≤ 180 := by
 by_cases h : rcGetE b = 0
 ·obtain ⟨h1, h2, h3, h4, h5, h6, h7⟩ := rcGet_ok b h
  exact ⟨h7, (rcChk_len h4).1⟩
 ·unfold rcGet; rw [if_neg h]; exact ⟨rcZ_ok, by simp [rcZ]⟩
theorem rcL_take (r : Rc) (h : r.b.length ≤ 186) : (rcL r).take 220 = rcBody r := by
 unfold rcL crcClosed
 rw [List.append_assoc]; exact List.take_left' (rcBody_len r h)
theorem rcGet_take (b : List UInt8) (h : rcGetE b = 0) : b.take 220 = rcBody (rcGet b) := by
 obtain ⟨h1, h2, h3, h4, h5, h6, h7⟩ := rcGet_ok b h
 have := rcL_take (rcGet b) (by have := (rcChk_len h4).1; omega)
 rw [h5] at this; exact this
theorem rcMk_ok (P : List UInt8) (r : Rc) (h : r.ok) : (rcMk P r).ok := by
 obtain ⟨h1, h2, h3, h4, h5, h6, h7⟩ := h
 exact ⟨h1, h2, h3, h4, h5, h6, shLink_len _ _⟩
structure Su where
 g : Nat
 s : Int
 l : Int
 D : List UInt8
deriving DecidableEq
def suZ : Su := ⟨0, 0, 0, List.replicate 32 0⟩
def suCheck (s l : Int) : Bool := decide ((s = 0 ∨ s = 1) ∧ 0 ≤ l ∧ l ≤ 12288)
def suB (g s l : Nat) (D : List UInt8) : List UInt8 := [80, 72, 83, 66] ++ (leB g 4 ++ (leB l 4 ++ ([UInt8.ofNat s] ++ (D ++ List.replicate 207 0))))
def suL (g s l : Nat) (D : List UInt8) : List UInt8 := crcClosed (suB g s l D)
def suPutE (s l : Int) : Int := if suCheck s l = true then 0 else 2
def suPutL (g : Nat) (s l : Int) (D : List UInt8) : List UInt8 := if suCheck s l = true then suL g s.toNat l.toNat D else []
def suOf (b : List UInt8) : Su := ⟨lev ((b.drop 4).take 4), ((b.getD 12 0).toNat : Nat), (lev ((b.drop 8).take 4) : Nat), (b.drop 13).take 32⟩
def suGetE (b : List UInt8) : Int :=
 if b.length ≠ 256 then 2 else if crcHolds b = false then 6 else if suCheck (suOf b).s (suOf b).l = true ∧ suPutL (suOf b).g (suOf b).s (suOf b).l (suOf b).D = b then 0 else 3
def suGet (b : List UInt8) : Su := if suGetE b = 0 then suOf b else suZ
def suGood (b : List UInt8) (h : Nat) : Bool := decide (suGetE b = 0 ∧ (suGet b).g % 2 = h)
def suChE (a b : List UInt8) : Int := if suGood a 0 = true ∨ suGood b 1 = true then 0 else 7
def suCh (a b : List UInt8) : Su :=
 if suGood a 0 = true ∧ (suGood b 1 = false ∨ (suGet b).g < (suGet a).g) then suGet a else if suGood b 1 = true then suGet b else suZ
theorem suB_len (g s l : Nat) (D : List UInt8) (h : D.length = 32) : (suB g s l D).length = 252 := by simp [suB, leB_length, h]
theorem suL_len (g s l : Nat) (D : List UInt8) (h : D.length = 32) : (suL g s l D).length = 256 := by simp [suL, crcClosed, suB_len g s l D h, le4_length]
theorem lev4_lt (b : List UInt8) (k : Nat) : lev ((b.drop k).take 4) < 4294967296 := by
 have h := lev_lt ((b.drop k).take 4)
 have h2 : ((b.drop k).take 4).length ≤ 4 := by rw [List.length_take]; omega
 exact Nat.lt_of_lt_of_le h (Nat.pow_le_pow_right (by omega) h2)
theorem suOf_bounds (b : List UInt8) (h : b.length = 256) : (suOf b).g < 4294967296 ∧ (0 ≤ (suOf b).s ∧ (suOf b).s < 256) ∧ (0 ≤ (suOf b).l ∧ (suOf b).l < 4294967296) ∧ (suOf b).D.length = 32 := by
 refine ⟨lev4_lt b 4, ?_, ?_, ?_⟩
 ·have := (b.getD 12 0).toNat_lt
  exact ⟨by simp [suOf], by simp only [suOf]; omega⟩
 ·have := lev4_lt b 8
  exact ⟨by simp [suOf], by simp only [suOf]; omega⟩
 ·simp [suOf, h]
theorem suGet_len (b : List UInt8) : (suGet b).D.length = 32 := by
 unfold suGet
 split
 ·rename_i h
  unfold suGetE at h
  split at h
  ·simp at h
  ·rename_i h2
   exact (suOf_bounds b (by simpa using h2)).2.2.2
 ·simp [suZ]
theorem suGet_bounds (b : List UInt8) : (suGet b).g < 4294967296 ∧ (0 ≤ (suGet b).s ∧ (suGet b).s < 256) ∧ (0 ≤ (suGet b).l ∧ (suGet b).l < 4294967296) := by
 unfold suGet
 split
 ·rename_i h
  unfold suGetE at h
  split at h
  ·simp at h
  ·rename_i h2
   have := suOf_bounds b (by simpa using h2)
   exact ⟨this.1, this.2.1, this.2.2.1⟩
 ·simp [suZ]
theorem suOf_put (g s l : Nat) (D : List UInt8) (hg : g < 4294967296) (hs : s < 256) (hl : l < 4294967296) (hD : D.length = 32) : suOf (suL g s l D) = ⟨g, s, l, D⟩ := by
 have e0 : suL g s l D = [80, 72, 83, 66] ++ (leB g 4 ++ (leB l 4 ++ ([UInt8.ofNat s] ++ (D ++ (List.replicate 207 0 ++ le4 (crcOf (suB g s l D))))))) := by
  unfold suL crcClosed; conv => lhs; arg 1; unfold suB
  simp [List.append_assoc]
 obtain ⟨R, hR⟩ : ∃ R, List.replicate 207 0 ++ le4 (crcOf (suB g s l D)) = R := ⟨_, rfl⟩
 rw [hR] at e0
 have d4 : (suL g s l D).drop 4 = leB g 4 ++ (leB l 4 ++ ([UInt8.ofNat s] ++ (D ++ R))) := by rw [e0]; rfl
 have d8 : (suL g s l D).drop 8 = leB l 4 ++ ([UInt8.ofNat s] ++ (D ++ R)) := by
  rw [show 8 = 4 + 4 from rfl, ← List.drop_drop, d4]
  exact List.drop_left' (by rw [leB_length])
 have d12 : (suL g s l D).drop 12 = [UInt8.ofNat s] ++ (D ++ R) := by
  rw [show 12 = 8 + 4 from rfl, ← List.drop_drop, d8]
  exact List.drop_left' (by rw [leB_length])
 have d13 : (suL g s l D).drop 13 = D ++ R := by
  rw [show 13 = 12 + 1 from rfl, ← List.drop_drop, d12]; rfl
 have g12 : (suL g s l D).getD 12 0 = UInt8.ofNat s := by
  have : ((suL g s l D).drop 12)[0]? = some (UInt8.ofNat s) := by rw [d12]; rfl
  rw [List.getElem?_drop] at this
  simp only [Nat.add_zero] at this
  rw [List.getD, this]; rfl
 unfold suOf
 rw [d4, d8, d13, g12, List.take_left' (by rw [leB_length]), List.take_left' (by rw [leB_length]), List.take_left' hD, lev_leB, lev_leB, UInt8.toNat_ofNat']
 rw [Nat.mod_eq_of_lt hg, Nat.mod_eq_of_lt hl, Nat.mod_eq_of_lt hs]
theorem suGet_put (g : Nat) (s l : Int) (D : List UInt8) (hg : g < 4294967296) (hc : suCheck s l = true) (hD : D.length = 32) : suGetE (suPutL g s l D) = 0 ∧ suGet (suPutL g s l D) = ⟨g, s, l, D⟩ := by
 have hc' := of_decide_eq_true hc
 obtain ⟨p, rfl⟩ : ∃ p : Nat, s = (p : Int) := ⟨s.toNat, by omega⟩
 obtain ⟨q, rfl⟩ : ∃ q : Nat, l = (q : Int) := ⟨l.toNat, by omega⟩
 have e : suPutL g p q D = suL g p q D := by unfold suPutL; rw [if_pos hc]; rfl
 have e2 := suOf_put g p q D hg (by omega) (by omega) hD
 have e1 : suGetE (suL g p q D) = 0 := by
  unfold suGetE
  rw [if_neg (by rw [suL_len _ _ _ _ hD]; simp), if_neg (by unfold suL; rw [crcHolds_closed]; simp), e2, if_pos ⟨hc, e⟩]
 rw [e]
 exact ⟨e1, by unfold suGet; rw [if_pos e1, e2]⟩
theorem suGet_ok (b : List UInt8) (h : suGetE b = 0) : suGet b = suOf b ∧ b.length = 256 ∧ crcHolds b = true ∧ suCheck (suGet b).s (suGet b).l = true ∧ suPutL (suGet b).g (suGet b).s (suGet b).l (suGet b).D = b := by
 have e : suGet b = suOf b := by unfold suGet; rw [if_pos h]
 rw [e]
 unfold suGetE at h
 split at h
 ·simp at h
 ·rename_i h1
  split at h
  ·simp at h
  ·rename_i h2
   split at h
   ·rename_i h3
    exact ⟨rfl, by simpa using h1, by simpa using h2, h3.1, h3.2⟩
   ·simp at h
theorem suGood_put (g : Nat) (s l : Int) (D : List UInt8) (hg : g < 4294967296) (hc : suCheck s l = true) (hD : D.length = 32) (h : Nat) : suGood (suPutL g s l D) h = decide (g % 2 = h) := by
 obtain ⟨h1, h2⟩ := suGet_put g s l D hg hc hD
 unfold suGood
 rw [h1, h2]
 simp
end Go.Proofs.YtpahicfnhhhifaaGreat
