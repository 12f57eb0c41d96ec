/-
 Proved here, for the statement JournalTells:
 Layer 5: disks: what the functions answer, said of values; variables that hold a
 Layer 5: disks: the document's Read.
-/
import Derived.Deep.MidRow
import Derived.Test.YtpahicfnhhhifaaGreatGt05
import Derived.Test.YtpahicfnhhhifaaGreatGt09
set_option linter.unusedVariables false
set_option linter.unusedSimpArgs false
namespace Go.Proofs.YtpahicfnhhhifaaGreat
set_option maxRecDepth 20000
open Go.RowKit
set_option maxHeartbeats 4000000
def DkVal (AV : Array Value) (w : World) (D : Dk) : Prop := ∃ S sn sc K kn kc, AV = #[.slice S sn sc, .slice K kn kc] ∧ RdDk w S sn sc K kn kc D
def DkV (w : World) (h : Nat) (AV : Array Value) (D : Dk) : Prop := w.heap[h]? = some (.cells AV 40 (0, 0)) ∧ DkVal AV w D
section
variable {w w' : World} {h : Nat} {AV : Array Value} {D : Dk}
theorem DkVal.below (v : DkVal AV w D) (hb : Below w.heap.size w w') : DkVal AV w' D := by
 obtain ⟨S, sn, sc, K, kn, kc, e, r⟩ := v; exact ⟨S, sn, sc, K, kn, kc, e, r.below hb⟩
theorem DkV.up (v : DkV w h AV D) (hb : Below w.heap.size w w') : DkV w' h AV D := ⟨drw_up v.1 hb, v.2.below hb⟩
theorem DkVal.size (v : DkVal AV w D) : AV.size = 2 := by obtain ⟨S, sn, sc, K, kn, kc, rfl, r⟩ := v; rfl
theorem DkVal.one (v : DkVal AV w D) : AV.all (·.oneCell') = true := by obtain ⟨S, sn, sc, K, kn, kc, rfl, r⟩ := v; simp [Value.oneCell']
theorem DkVal.info (v : DkVal AV w D) : (Tryz.prog.info? 40).map (·.size) = some AV.size := by rw [v.size]; kernel_rfl
theorem DkV.lt (v : DkV w h AV D) : h < w.heap.size := drw_lt v.1
theorem DkV.c0 (v : DkV w h AV D) : ∃ K kc vs, w.cell? ⟨h, 0, none⟩ = some (.slice K D.s.length kc) ∧ RdSS w K D.s.length kc vs D.s := by
 obtain ⟨h1, S, sn, sc, K, kn, kc, rfl, r⟩ := v
 obtain ⟨vs, hv⟩ := r.1
 exact ⟨S, sc, vs, (cell_of_row w h 0 _ _ _ h1).trans (by rw [r.sl]; rfl), by rw [r.sl]; exact hv⟩
end
def RetDv (w : World) (D : Dk) (er : Int) (e : Ending) (w' : World) : Prop := ∃ AV, e = .returned (.tuple #[.agg AV, .int .i64 er]) ∧ DkVal AV w' D ∧ Below w.heap.size w w'
theorem retDv_of {w : World} {D : Dk} {er : Int} {e : Ending} {w' : World} (h : RetDk w D er e w') : RetDv w D er e w' := by
 obtain ⟨S, sn, sc, K, kn, kc, h1, h2, h3⟩ := h
 exact ⟨_, h1, ⟨S, sn, sc, K, kn, kc, rfl, h2⟩, h3⟩
section
variable {w : World} {AV : Array Value} {D : Dk}
theorem vNew (n : Int) (w : World) (hn : -9223372036854775808 ≤ n ∧ n ≤ 9223372036854775807) : Calls Tryz.prog 78 #[.int .i64 n] w (RetDv w (dkNew n) (dkNewE n)) := (dskNew_any n w hn).mono fun _ _ h => retDv_of h
theorem vCheck (v : DkVal AV w D) : Calls Tryz.prog 68 #[.agg AV] w (RetV w (.bool (dkOk D))) := by
 obtain ⟨S, sn, sc, K, kn, kc, rfl, r⟩ := v; exact dskCheck_any S sn sc K kn kc D w r
theorem vRead (v : DkVal AV w D) (a : Int) (ha : -9223372036854775808 ≤ a ∧ a ≤ 9223372036854775807) : Calls Tryz.prog 69 #[.agg AV, .int .i64 a] w (RetBE w (dkRead D a) (dkAsk D a)) := by
 obtain ⟨S, sn, sc, K, kn, kc, rfl, r⟩ := v; exact dskRead_any S sn sc K kn kc D a w r ha
theorem ws_one {us us2 : List Value} {K : Option Addr} {kn kc : Nat} {l l2 : List (Int × List UInt8)} (h : RdWs w K kn kc us l) (h2 : RdWs w K kn kc us2 l2) : us = us2 := by
 have e1 := h.2.1
 have e2 := h2.2.1
 apply List.ext_getElem
 ·omega
 ·intro i hi hi2
  obtain ⟨b, o, he, _, hc⟩ := h.1.at_ i hi
  obtain ⟨b2, o2, he2, _, hc2⟩ := h2.1.at_ i hi2
  rw [he] at he2; injection he2 with he2; injection he2 with a1 a2; subst a1 a2
  rw [hc] at hc2
  simpa using hc2
def Agr (P : Nat → Prop) (w W : World) : Prop := W.os = w.os ∧ W.tape = w.tape ∧ W.output = w.output ∧ w.heap.size ≤ W.heap.size ∧ ∀ j, j < w.heap.size → ¬ P j → W.heap[j]? = w.heap[j]?
theorem Agr.of {P : Nat → Prop} {w w' W : World} (h : Agr P w' W) (hb : Below w.heap.size w w') : Agr P w W :=
 ⟨h.1.trans hb.os, h.2.1.trans hb.tape, h.2.2.1.trans hb.output, Nat.le_trans hb.size h.2.2.2.1, fun j hj hP => (h.2.2.2.2 j (Nat.lt_of_lt_of_le hj hb.size) hP).trans (hb.block j hj)⟩
theorem Agr.row {P : Nat → Prop} {w W : World} {q : Nat} {cs : Array Value} (h : Agr P (w.setRow q cs) W) (hP : P q) : Agr P w W :=
 ⟨h.1, h.2.1, h.2.2.1, by have := h.2.2.2.1; simpa using this, fun j hj hn => (h.2.2.2.2 j (by simpa using hj) hn).trans (setRow_other w q j cs (fun e => hn (e ▸ hP)))⟩
theorem Agr.set {P : Nat → Prop} (w : World) {q : Nat} (cs : Array Value) (hP : P q) : Agr P w (w.setRow q cs) :=
 ⟨rfl, rfl, rfl, by simp, fun j hj hn => setRow_other w q j cs (fun e => hn (e ▸ hP))⟩
def DkIn (P : Nat → Prop) (w : World) (AV : Array Value) (D : Dk) : Prop := ∃ S sn sc K kn kc, AV = #[.slice S sn sc, .slice K kn kc] ∧ RdDk w S sn sc K kn kc D ∧ ∀ W, Agr P w W → (∃ vs, RdSS W S sn sc vs D.s) ∧ (∀ us, RdWs w K kn kc us D.k → RdWs W K kn kc us D.k)
theorem DkIn.val {P : Nat → Prop} (h : DkIn P w AV D) : DkVal AV w D := by
 obtain ⟨S, sn, sc, K, kn, kc, e, r, _⟩ := h; exact ⟨S, sn, sc, K, kn, kc, e, r⟩
theorem DkIn.below {P : Nat → Prop} {w' : World} (h : DkIn P w AV D) (hb : Below w.heap.size w w') : DkIn P w' AV D := by
 obtain ⟨S, sn, sc, K, kn, kc, e, r, f⟩ := h
 refine ⟨S, sn, sc, K, kn, kc, e, r.below hb, fun W hW => ⟨(f W (hW.of hb)).1, fun us hus => ?_⟩⟩
 obtain ⟨us0, h0⟩ := r.2
 have := ws_one (h0.below hb) hus
 subst this
 exact (f W (hW.of hb)).2 us0 h0
theorem DkIn.row {P : Nat → Prop} (h : DkIn P w AV D) {q : Nat} (cs : Array Value) (hP : P q) : DkIn P (w.setRow q cs) AV D := by
 obtain ⟨S, sn, sc, K, kn, kc, e, r, f⟩ := h
 obtain ⟨us0, h0⟩ := r.2
 have f1 := f _ (Agr.set w cs hP)
 refine ⟨S, sn, sc, K, kn, kc, e, ⟨f1.1, us0, f1.2 us0 h0⟩, fun W hW => ⟨(f W (hW.row hP)).1, fun us hus => ?_⟩⟩
 have := ws_one (f1.2 us0 h0) hus
 subst this
 exact (f W (hW.row hP)).2 us0 h0
theorem DkIn.more {P P' : Nat → Prop} {w' : World} (h : DkIn P w AV D) (hb : Below w.heap.size w w') (hs : ∀ j, P' j → P j ∨ w.heap.size ≤ j) : DkIn P' w' AV D := by
 obtain ⟨S, sn, sc, K, kn, kc, e, r, f⟩ := h
 have hA : ∀ W, Agr P' w' W → Agr P w W := fun W hW => ⟨hW.1.trans hb.os, hW.2.1.trans hb.tape, hW.2.2.1.trans hb.output, Nat.le_trans hb.size hW.2.2.2.1, fun j hj hn => (hW.2.2.2.2 j (Nat.lt_of_lt_of_le hj hb.size) (fun hp => by rcases hs j hp with h | h; exact hn h; omega)).trans (hb.block j hj)⟩
 refine ⟨S, sn, sc, K, kn, kc, e, r.below hb, fun W hW => ⟨(f W (hA W hW)).1, fun us hus => ?_⟩⟩
 obtain ⟨us0, h0⟩ := r.2
 have := ws_one (h0.below hb) hus
 subst this
 exact (f W (hA W hW)).2 us0 h0
theorem DkVal.inn {P : Nat → Prop} {w' : World} (v : DkVal AV w D) (hb : Below w.heap.size w w') (hs : ∀ j, P j → w.heap.size ≤ j) : DkIn P w' AV D := by
 obtain ⟨S, sn, sc, K, kn, kc, e, r⟩ := v
 have h0 : DkIn (fun _ => False) w AV D := ⟨S, sn, sc, K, kn, kc, e, r, fun W hW => by
  have hB : Below w.heap.size w W := ⟨hW.1, hW.2.1, hW.2.2.1, hW.2.2.2.1, fun j hj => hW.2.2.2.2 j hj (fun h => h)⟩
  exact ⟨r.1.imp fun vs h => h.below hB, fun us hus => hus.below hB⟩⟩
 exact h0.more hb (fun j hj => .inr (hs j hj))
theorem vWriteI {P : Nat → Prop} (v : DkIn P w AV D) (hP : ∀ j, P j → j < w.heap.size) (a : Int) (B : Option Addr) (m d : Nat) (ys : List UInt8) (ha : -9223372036854775808 ≤ a ∧ a ≤ 9223372036854775807) (hd : RdB w B m d ys) : Calls Tryz.prog 79 #[.agg AV, .int .i64 a, .slice B m d] w (fun e w' => ∃ AV', e = .returned (.tuple #[.agg AV', .int .i64 (dkWriteE D a ys)]) ∧ DkIn P w' AV' (dkWrite D a ys) ∧ Below w.heap.size w w') := by
 obtain ⟨S, sn, sc, K, kn, kc, rfl, r, f⟩ := v
 refine (dskWriteQ_any S sn sc K kn kc D a B m d ys w r ha hd).mono ?_
 rintro e w' ⟨S2, sn2, sc2, K2, kn2, kc2, h1, h2, h3, h4⟩
 refine ⟨_, h1, ⟨S2, sn2, sc2, K2, kn2, kc2, rfl, h2, fun W hW => ?_⟩, h3⟩
 have hW2 := hW.of h3
 obtain ⟨g1, us, g2, g3⟩ := h4 W (fun j hj hj2 => hW.2.2.2.2 j hj2 (fun hp => by have := hP j hp; omega)) (f W hW2).1 (f W hW2).2
 refine ⟨g1, fun us2 hus2 => ?_⟩
 have := ws_one g2 hus2
 subst this
 exact g3
end
section
variable {ops : Array Oper} {rest : List Oper} {o : Oper} {a : Act} {w : World} {Q : Exit → Act → World → Prop} {h : Nat} {AV : Array Value} {D : Dk}
theorem dk_load (hgd : o.guard = none) (x : Operand) (ho : o.op = .load 40 x) (hx : a.eval x = .pointer (some ⟨h, 0, none⟩)) (v : DkV w h AV D)
  (hK : wpList Tryz.prog ops Q rest (a.put o.dst (.agg AV)) w) : wpList Tryz.prog ops Q (o :: rest) a w :=
 wpList_load_row hgd 40 x ho h hx 40 AV (0, 0) _ v.1 Tryz.underlying40 rfl v.2.info hK
theorem dk_fresh (hgd : o.guard = none) (x z : Operand) (ho : o.op = .store 40 x z) (hx : a.eval x = .pointer (some ⟨h, 0, none⟩)) (hz : a.eval z = .agg AV) (w0 : World) (hw : w = w0.alloc (.cells #[.slice none 0 0, .slice none 0 0] 40)) (hh : w0.heap.size = h) (v : DkVal AV w0 D)
  (hK : ∀ X, Hid (DkV X h AV D) → Below w0.heap.size w0 X → wpList Tryz.prog ops Q rest (a.put o.dst undef) X) : wpList Tryz.prog ops Q (o :: rest) a w := by
 subst hw
 have hrow := drw_at (w := w0) (.cells #[.slice none 0 0, .slice none 0 0] 40) hh
 have hb : Below w0.heap.size w0 ((w0.alloc (.cells #[.slice none 0 0, .slice none 0 0] 40)).setRow h AV) := below_setRow ((below_self w0).alloc (Nat.le_refl _) _) (by omega) _
 exact wpList_store_row hgd 40 x z ho h _ hx hz 40 _ hrow v.info (by rw [v.size]; rfl) v.one (hK _ (Lib.hid ⟨setRow_heap _ _ _ AV _ _ hrow, v.below hb⟩) hb)
theorem dk_set (hgd : o.guard = none) (x z : Operand) (ho : o.op = .store 40 x z) (hx : a.eval x = .pointer (some ⟨h, 0, none⟩)) (hz : a.eval z = .agg AV) {BV : Array Value} {E : Dk} (hrow : w.heap[h]? = some (.cells BV 40 (0, 0))) (hB : BV.size = 2) (v : DkVal AV w D)
  (hK : wpList Tryz.prog ops Q rest (a.put o.dst undef) (w.setRow h AV)) : wpList Tryz.prog ops Q (o :: rest) a w :=
 wpList_store_row hgd 40 x z ho h _ hx hz 40 _ hrow v.info (by rw [v.size, hB]) v.one hK
end
set_option maxHeartbeats 8000000
theorem dkAsk_cases {D : Dk} {sn : Nat} (hsl : D.s.length = sn) (a : Int) : (dkOk D = false ∧ dkAsk D a = 3) ∨ (dkOk D = true ∧ (decide (0 ≤ a) && decide (a < (sn : Int))) = false ∧ dkAsk D a = 50) ∨ (dkOk D = true ∧ 0 ≤ a ∧ a < (sn : Int) ∧ (decide (0 ≤ a) && decide (a < (sn : Int))) = true ∧ dkAsk D a = 0) := by
 unfold dkAsk dkHas
 rw [hsl]
 cases h : dkOk D with
 | false => exact .inl ⟨rfl, rfl⟩
 | true =>
  cases h2 : (decide (0 ≤ a) && decide (a < (sn : Int))) with
  | false => exact .inr (.inl ⟨rfl, rfl, rfl⟩)
  | true =>
   have := h2
   simp only [Bool.and_eq_true, decide_eq_true_eq] at this
   exact .inr (.inr ⟨rfl, this.1, this.2, rfl, rfl⟩)
set_option maxHeartbeats 8000000
theorem winfo : ∃ i : TypeInfo, Tryz.prog.info? 119 = some i ∧ i.zero = some (.agg #[.int .i64 0, .slice none 0 0]) ∧ i.size = 2 ∧ i.bytes = 32 := by
 have h : (Tryz.prog.info? 119).map (fun i => (i.zero, i.size, i.bytes)) = some (some (.agg #[.int .i64 0, .slice none 0 0]), 2, 32) := by kernel_rfl
 obtain ⟨i, hi, he⟩ := Option.map_eq_some_iff.1 h
 injection he with e1 e2
 injection e2 with e2 e3
 exact ⟨i, hi, e1, e2, e3⟩
theorem run_appW {w : World} (ty : TypeId) (base : Nat) (v : Value) (n : Nat) (xs : List Value) (hown : w.ownsRow base 119 2 v n xs)
  (A : Option Addr) (m c : Nat) (news : List Value) (hr : Rd w A news) (hm : news.length = 2 * m) (h1 : ∀ u ∈ news, u.oneCell' = true)
  (h63 : n + m ≤ 1000000) (hbase : base ≤ w.heap.size) :
  ∃ A' c' w', (Builtin.append_ #[38, 38] ty #[v, .slice A m c]).run Tryz.prog w = .ok (.slice A' (n + m) c') w' ∧ w'.ownsRow base 119 2 (.slice A' (n + m) c') (n + m) (xs ++ news) ∧ w.grownBy w' v.ownBlock := by
 obtain ⟨i, hi, hz, hsz, hby⟩ := winfo
 have hsl : Tryz.prog.underlying 38 = some (.slice 119) := Tryz.underlying38
 have fin : ∀ (v' : Value) (w' : World), w'.ownsRow base 119 2 v' (n + m) (xs ++ news) → ∃ A' c', v' = .slice A' (n + m) c' := fun v' w' h => own2_form h
 by_cases h0 : news = []
 ·subst h0
  obtain rfl : m = 0 := by simp at hm; omega
  rcases A with _ | a
  ·have hrun : (Builtin.append_ #[38, 38] ty #[v, .slice none 0 c]).run Tryz.prog w = .ok v w := by
    rcases hown.2 with ⟨rfl, rfl⟩ | ⟨g, cap, cur, rfl, _, _, hnc, _⟩
    ·simp [Builtin.append_, run_underlying hsl, sizeOf, typeInfo, hi, Builtin.lenOf, Builtin.firstCells]
    ·simp [Builtin.append_, run_underlying hsl, sizeOf, typeInfo, hi, Builtin.lenOf, Builtin.firstCells, hnc, storeCells]
   obtain ⟨A', c', rfl⟩ := fin v w (by simpa using hown)
   exact ⟨A', c', w, by simpa using hrun, by simpa using hown, World.grownBy.refl _ _⟩
  ·obtain ⟨v', w', hrun, ho, hg, _⟩ := run_append_own_at (P := Tryz.prog) w base 38 ty 119 i _ 2 32 hsl hi hz hsz hby rfl (by decide) v n xs hown a 0 c [] (by simp) (by simp) (by simp) (by unfold maxLen; omega) (by omega) hbase
   obtain ⟨A', c', rfl⟩ := fin v' w' ho
   exact ⟨A', c', w', hrun, ho, hg⟩
 ·rcases hr with h | ⟨b, o, rfl, hb, hc⟩
  ·exact absurd h h0
  ·obtain ⟨v', w', hrun, ho, hg, _⟩ := run_append_own_at (P := Tryz.prog) w base 38 ty 119 i _ 2 32 hsl hi hz hsz hby rfl (by decide) v n xs hown ⟨b, o, none⟩ m c news (by omega) (fun j u hj => by
    have := hc j u hj
    rwa [Addr.add_lit]) h1 (by unfold maxLen; omega) (by omega) hbase
   obtain ⟨A', c', rfl⟩ := fin v' w' ho
   exact ⟨A', c', w', hrun, ho, hg⟩
theorem wp_appW {w : World} {ops : Array Oper} {rest : List Oper} {o : Oper} {a : Act} {Q : Exit → Act → World → Prop} (hgd : o.guard = none) (s x : Operand)
  (ho : o.op = .call { callee := .builtin .append, args := #[s, x], argTypes := #[38, 38] })
  (base : Nat) (v : Value) (n : Nat) (xs : List Value) (hs : a.eval s = v) (hown : w.ownsRow base 119 2 v n xs)
  (A : Option Addr) (m c : Nat) (news : List Value) (hx : a.eval x = .slice A m c) (hr : Rd w A news) (hm : news.length = 2 * m) (h1 : ∀ u ∈ news, u.oneCell' = true)
  (h63 : n + m ≤ 1000000) (hbase : base ≤ w.heap.size) (k : Nat) (zs : List Value) (hk : n + m = k) (hz : xs ++ news = zs)
  (h : ∀ A' c' w', w'.ownsRow base 119 2 (.slice A' k c') k zs → w.grownBy w' v.ownBlock → wpList Tryz.prog ops Q rest (a.put o.dst (.slice A' k c')) w') : wpList Tryz.prog ops Q (o :: rest) a w := by
 subst hk hz
 refine wpList_plain hgd fun K hK => ?_
 obtain ⟨A', c', w', hr, h2, h3⟩ := run_appW (w := w) o.type base v n xs hown A m c news hr hm h1 h63 hbase
 unfold Oper.wp execOp
 simp only [ho, resolve, invoke, builtin, Sem.run_bind, Sem.run_pure, Result.andThen_ok, List.map_toArray, List.map_cons, List.map_nil, hs, hx, hr]
 exact hK _ _ (h A' c' w' h2 h3)
theorem own_grown {X w7 : World} {base e v n size xs} (h : X.ownsRow base e size v n xs) {base2 e2 v2 n2 size2 xs2} (h2 : X.ownsRow base2 e2 size2 v2 n2 xs2) (hne : e2 ≠ e) (hg : X.grownBy w7 v.ownBlock) : w7.ownsRow base2 e2 size2 v2 n2 xs2 := by
 refine down_keepT h2 (fun g' cur' _ hg' => hg.block g' (drw_lt hg') (fun e' => ?_))
 rcases h.2 with ⟨rfl, _⟩ | ⟨g, cap, cur, rfl, hb, hgg, _⟩
 ·simp [Value.ownBlock] at e'
 ·simp [Value.ownBlock] at e'
  exact dtyp_ne hg' hgg hne (by omega)
theorem wcells_one {w : World} : ∀ {vs : List Value} {l : List (Int × List UInt8)}, WParts w vs l → ∀ v ∈ vs, v.oneCell' = true
 | [], [], _, v, hv => by simp at hv
 | a :: u :: vs, p :: l, hp, v, hv => by
  obtain ⟨e1, _, ⟨A, n, c, e2, _⟩, h⟩ := hp
  rcases List.mem_cons.1 hv with rfl | hv
  ·rw [e1]; rfl
  ·rcases List.mem_cons.1 hv with rfl | hv
   ·rw [e2]; rfl
   ·exact wcells_one h v hv
set_option maxHeartbeats 4000000
theorem recSized_any (g : Nat) (A : Option Addr) (n c : Nat) (lo hi : Int) (w : World) (hn : n ≤ 9223372036854775807) (hc : w.cell? ⟨g, 3, none⟩ = some (.slice A n c)) :
  Calls Tryz.prog 126 #[.int .i64 lo, .int .i64 hi, .pointer (some ⟨g, 0, none⟩)] w fun e w' => e = .returned (.bool (decide (lo ≤ n ∧ n ≤ hi))) ∧ w = w' := by
 by_cases h1 : lo ≤ n
 ·have d1 : decide (lo ≤ (n : Int)) = true := decide_eq_true h1
  have e : decide (lo ≤ n ∧ n ≤ hi) = decide ((n : Int) ≤ hi) := decide_eq_decide.2 ⟨fun h => h.2, fun h => ⟨h1, h⟩⟩
  rw [e]
  go_enter Tryz.func126, Tryz.ntmps126
  go_wp2
  go_ret
  exact ⟨rfl, rfl⟩
 ·have d1 : decide (lo ≤ (n : Int)) = false := decide_eq_false h1
  have e : decide (lo ≤ n ∧ n ≤ hi) = false := decide_eq_false (fun h => h1 h.1)
  rw [e]
  go_enter Tryz.func126, Tryz.ntmps126
  go_wp2
  go_ret
  exact ⟨rfl, rfl⟩
theorem recCheck_yes (t : Nat) (k ci lo hi : Int) (A : Option Addr) (n cp : Nat) (w : World) (hn : n ≤ 9223372036854775807)
  (h : (k = 1 ∧ ci ≤ 1099511627776 ∧ lo = 0 ∧ hi = 0) ∨ (k = 2 ∧ ci = 0 ∧ lo = 1 ∧ hi = 16) ∨ (k = 3 ∧ ci = 0 ∧ lo = 1 ∧ hi = 180)) :
  Calls Tryz.prog 87 #[.agg #[.int .u64 (t : Int), .int .i64 k, .int .u64 ci, .slice A n cp]] w (RetV w (.bool (decide (lo ≤ n ∧ n ≤ hi)))) := by
 obtain ⟨V, hV⟩ : ∃ V, V = w.alloc (.cells #[.int .u64 (t : Int), .int .i64 k, .int .u64 ci, .slice A n cp] 49) := ⟨_, rfl⟩
 have bV : Below w.heap.size w V := by rw [hV]; exact (below_self w).alloc (Nat.le_refl _) _
 have q3 : V.cell? ⟨w.heap.size, 3, none⟩ = some (.slice A n cp) := by rw [hV]; exact (alloc_box w _ _ 3).trans rfl
 have hs := recSized_any w.heap.size A n cp lo hi V hn q3
 obtain ⟨R, hR⟩ : ∃ R, decide (lo ≤ (n : Int) ∧ (n : Int) ≤ hi) = R := ⟨_, rfl⟩
 rw [hR] at hs ⊢
 clear hR q3
 rcases h with ⟨rfl, h1, rfl, rfl⟩ | ⟨rfl, rfl, rfl, rfl⟩ | ⟨rfl, rfl, rfl, rfl⟩
 ·have d1 : decide (ci ≤ 1099511627776) = true := decide_eq_true h1
  have HS := Lib.hid hs
  have HV := Lib.hid hV
  clear hs hV
  go_enter Tryz.func87, Tryz.ntmps87
  go_wp2_with fail
  rw [← HV.out]
  refine HS.out.mono ?_
  rintro e w2 ⟨rfl, rfl⟩
  go_wp2
  go_ret
  exact ⟨rfl, bV⟩
 all_goals
  have HS := Lib.hid hs
  have HV := Lib.hid hV
  clear hs hV
  go_enter Tryz.func87, Tryz.ntmps87
  go_wp2_with fail
  rw [← HV.out]
  refine HS.out.mono ?_
  rintro e w2 ⟨rfl, rfl⟩
  go_wp2
  go_ret
  exact ⟨rfl, bV⟩
theorem recCheck_no (t : Nat) (k ci : Int) (A : Option Addr) (n cp : Nat) (w : World) (h : (k = 1 ∧ ¬ ci ≤ 1099511627776) ∨ (k = 2 ∧ ¬ ci = 0) ∨ (k = 3 ∧ ¬ ci = 0) ∨ (¬ k = 1 ∧ ¬ k = 2 ∧ ¬ k = 3)) :
  Calls Tryz.prog 87 #[.agg #[.int .u64 (t : Int), .int .i64 k, .int .u64 ci, .slice A n cp]] w (RetV w (.bool false)) := by
 rcases h with ⟨rfl, h1⟩ | ⟨rfl, h1⟩ | ⟨rfl, h1⟩ | ⟨h1, h2, h3⟩
 ·have d1 : decide (ci ≤ 1099511627776) = false := decide_eq_false h1
  go_enter Tryz.func87, Tryz.ntmps87
  go_wp2
  go_ret
  exact ⟨rfl, (below_self w).alloc (Nat.le_refl _) _⟩
 ·have d2 : (ci == 0) = false := beq_eq_false_iff_ne.2 h1
  go_enter Tryz.func87, Tryz.ntmps87
  go_wp2
  go_ret
  exact ⟨rfl, (below_self w).alloc (Nat.le_refl _) _⟩
 ·have d2 : (ci == 0) = false := beq_eq_false_iff_ne.2 h1
  go_enter Tryz.func87, Tryz.ntmps87
  go_wp2
  go_ret
  exact ⟨rfl, (below_self w).alloc (Nat.le_refl _) _⟩
 ·have d1 : (k == 1) = false := beq_eq_false_iff_ne.2 h1
  have d2 : (k == 2) = false := beq_eq_false_iff_ne.2 h2
  have d3 : (k == 3) = false := beq_eq_false_iff_ne.2 h3
  go_enter Tryz.func87, Tryz.ntmps87
  go_wp2
  go_ret
  exact ⟨rfl, (below_self w).alloc (Nat.le_refl _) _⟩
theorem rcChk_ways (k : Int) (c n : Nat) : (∃ lo hi : Int, ((k = 1 ∧ (c : Int) ≤ 1099511627776 ∧ lo = 0 ∧ hi = 0) ∨ (k = 2 ∧ (c : Int) = 0 ∧ lo = 1 ∧ hi = 16) ∨ (k = 3 ∧ (c : Int) = 0 ∧ lo = 1 ∧ hi = 180)) ∧ rcChk k c n = decide (lo ≤ (n : Int) ∧ (n : Int) ≤ hi)) ∨
  (((k = 1 ∧ ¬ (c : Int) ≤ 1099511627776) ∨ (k = 2 ∧ ¬ (c : Int) = 0) ∨ (k = 3 ∧ ¬ (c : Int) = 0) ∨ (¬ k = 1 ∧ ¬ k = 2 ∧ ¬ k = 3)) ∧ rcChk k c n = false) := by
 unfold rcChk
 by_cases k1 : k = 1
 ·rw [if_pos k1]
  by_cases h : c ≤ 1099511627776
  ·exact .inl ⟨0, 0, .inl ⟨k1, by omega, rfl, rfl⟩, decide_eq_decide.2 ⟨fun h => by omega, fun h => by omega⟩⟩
  ·exact .inr ⟨.inl ⟨k1, by omega⟩, decide_eq_false (fun h2 => h h2.1)⟩
 ·rw [if_neg k1]
  by_cases k2 : k = 2
  ·rw [if_pos k2]
   by_cases h : c = 0
   ·exact .inl ⟨1, 16, .inr (.inl ⟨k2, by omega, rfl, rfl⟩), decide_eq_decide.2 ⟨fun h => by omega, fun h => by omega⟩⟩
   ·exact .inr ⟨.inr (.inl ⟨k2, by omega⟩), decide_eq_false (fun h2 => h h2.1)⟩
  ·rw [if_neg k2]
   by_cases k3 : k = 3
   ·rw [if_pos k3]
    by_cases h : c = 0
    ·exact .inl ⟨1, 180, .inr (.inr ⟨k3, by omega, rfl, rfl⟩), decide_eq_decide.2 ⟨fun h => by omega, fun h => by omega⟩⟩
    ·exact .inr ⟨.inr (.inr (.inl ⟨k3, by omega⟩)), decide_eq_false (fun h2 => h h2.1)⟩
   ·rw [if_neg k3]
    exact .inr ⟨.inr (.inr (.inr ⟨k1, k2, k3⟩)), rfl⟩
theorem recCheck_any (t : Nat) (k : Int) (c : Nat) (A : Option Addr) (n cp : Nat) (w : World) (hn : n ≤ 9223372036854775807) :
  Calls Tryz.prog 87 #[.agg #[.int .u64 (t : Int), .int .i64 k, .int .u64 (c : Int), .slice A n cp]] w (RetV w (.bool (rcChk k c n))) := by
 rcases rcChk_ways k c n with ⟨lo, hi, h, e⟩ | ⟨h, e⟩
 ·rw [e]; exact recCheck_yes t k c lo hi A n cp w hn h
 ·rw [e]; exact recCheck_no t k c A n cp w h
def WrAt (w : World) (g : Nat) (xs : List UInt8) (at_ : Nat) : Prop := w.heap[g]? = some (.cells (xs.map vB ++ [Value.int .i64 (at_ : Int)]).toArray 174 (0, 0))
theorem WrAt.lt {w : World} {g at_ : Nat} {xs : List UInt8} (h : WrAt w g xs at_) : g < w.heap.size := (Array.getElem?_eq_some_iff.1 h).1
theorem WrAt.at_ {w : World} {g at_ : Nat} {xs : List UInt8} (h : WrAt w g xs at_) (hx : xs.length = 256) : w.cell? ⟨g, 256, none⟩ = some (.int .i64 (at_ : Int)) := by
 refine (cell_of_row w g 256 _ _ _ h).trans ?_
 rw [List.getElem?_toArray, List.getElem?_append_right (by simp [hx])]
 simp [hx]
theorem WrAt.rd {w : World} {g at_ : Nat} {xs : List UInt8} (h : WrAt w g xs at_) (k : Nat) (hk : k ≤ xs.length) (hm : k ≤ maxLen) : RdB w (some ⟨g, 0, none⟩) k k (xs.take k) := by
 refine rdPart h 0 (xs.take k) k (fun i hi => ?_) (by rw [List.length_take]; omega) hm
 rw [List.length_take] at hi
 rw [Nat.zero_add, List.getElem?_toArray, List.getElem?_append_left (by rw [List.length_map]; omega), List.getElem?_map, List.getElem?_map, List.getElem?_take, if_pos (by omega)]
theorem WrAt.below {w w' : World} {g at_ : Nat} {xs : List UInt8} (h : WrAt w g xs at_) (hb : Below w.heap.size w w') : WrAt w' g xs at_ := (hb.block g h.lt).trans h
structure Beside (g : Nat) (w w' : World) : Prop where
 size : w.heap.size ≤ w'.heap.size
 block : ∀ j, j < w.heap.size → j ≠ g → w'.heap[j]? = w.heap[j]?
theorem Beside.trans {g : Nat} {w w' w2 : World} (h : Beside g w w') (k : Beside g w' w2) : Beside g w w2 := ⟨Nat.le_trans h.size k.size, fun j hj hn => (k.block j (Nat.lt_of_lt_of_le hj h.size) hn).trans (h.block j hj hn)⟩
theorem beside_of {g : Nat} {w w' : World} (h : Below w.heap.size w w') : Beside g w w' := ⟨h.size, fun j hj _ => h.block j hj⟩
theorem Beside.setCell {g i : Nat} {w w' : World} (h : Beside g w w') (v : Value) : Beside g w (w'.setCell ⟨g, i, none⟩ v) := ⟨by simpa [World.setCell] using h.size, fun j hj hn => (Below.heap_setCell _ _ _ _ hn).trans (h.block j hj hn)⟩
theorem Beside.row {g j : Nat} {w w' : World} {o : Obj} (h : Beside g w w') (hr : w.heap[j]? = some o) (hn : j ≠ g) : w'.heap[j]? = some o := (h.block j (Array.getElem?_eq_some_iff.1 hr).1 hn).trans hr
theorem op_copyW {o : Oper} {a : Act} {w : World} {K : Act → World → Prop} {Q : Exit → Act → World → Prop} (hgd : o.guard = none) (d s : Operand)
  (ho : o.op = .call { callee := .builtin .copy, args := #[d, s], argTypes := #[47, 47] })
  (g : Nat) (xs : List UInt8) (at_ : Nat) (hw : WrAt w g xs at_) (hx : xs.length = 256)
  (off m dn dc : Nat) (hd : a.eval d = .slice (some ⟨g, off, none⟩) dn dc) (sp : Option Addr) (sc : Nat) (ys : List UInt8) (hs : a.eval s = .slice sp m sc) (hr : RdB w sp m sc ys) (hle : m ≤ dn) (hoff : off + m ≤ 256)
  (h : ∀ w', WrAt w' g (xs.take off ++ (ys ++ xs.drop (off + m))) at_ → Below g w w' → Beside g w w' → K (a.put o.dst (.int .i64 m)) w') : o.wp Tryz.prog a w K Q := by
 have hsz : (Tryz.prog.info? 5).map (·.size) = some 1 := by
  obtain ⟨i, hi, _, hz, _⟩ := info_parts elemB.info
  rw [hi]; simp [hz]
 have hl : (ys.map vB).length = m := by simp [hr.2.1]
 have hn : (ys.map vB).length = Nat.min m dn := by rw [hl]; exact (Nat.min_eq_left hle).symm
 by_cases h0 : m = 0
 ·subst h0
  have hy : ys = [] := List.eq_nil_of_length_eq_zero hr.2.1
  subst hy
  have hrun := run_copy_none (P := Tryz.prog) w 47 47 o.type _ (some ⟨g, off, none⟩) sp dn dc 0 sc elemB.slice hsz (by simp)
  unfold Oper.wp
  simp [execOp, ho, resolve, invoke, builtin, hd, hs, hrun, Result.andThen]
  exact h w (by simpa using hw) (Below.refl _ _) ⟨Nat.le_refl _, fun _ _ _ => rfl⟩
 ·obtain ⟨b, o', u, rfl, _⟩ := hr.at_ 0 (by omega)
  have hrun := run_copy_row (P := Tryz.prog) w 47 47 o.type _ g off dn dc ⟨b, o', none⟩ m sc _ _ (ys.map vB) elemB.slice hsz hw hn (fun j v hj => by
   have hj' : j < m := by have := (List.getElem?_eq_some_iff.1 hj).1; simpa [hr.2.1] using this
   obtain ⟨b2, o2, u2, he, _, hx2, hc⟩ := hr.at_ j hj'
   injection he with he
   injection he with e1 e2
   subst e1 e2
   rw [Addr.add_lit, hc, ← hj]
   simp [hx2, vB]) (by simp [hr.2.1, hx]; omega) (oneCell_vB _)
  unfold Oper.wp
  simp [execOp, ho, resolve, invoke, builtin, hd, hs, hrun, Result.andThen]
  have e : (goInt ys.length) = .int .i64 m := by rw [hr.2.1]; rfl
  rw [e]
  refine h _ ?_ (below_setRow (Below.refl g w) (Nat.le_refl g) _) ⟨by simp, fun j hj hn => ?_⟩
  ·have hh := setRow_heap w g _ (splice (xs.map vB ++ [Value.int .i64 (at_ : Int)]) off (ys.map vB)).toArray _ (0, 0) hw
   unfold WrAt
   have e2 : splice (xs.map vB ++ [Value.int .i64 (at_ : Int)]) off (ys.map vB) = (xs.take off ++ (ys ++ xs.drop (off + m))).map vB ++ [Value.int .i64 (at_ : Int)] := by
    unfold splice
    rw [hl, List.take_append_of_le_length (by simp [hx]; omega), List.drop_append_of_le_length (by simp [hx]; omega), List.map_append, List.map_append, List.map_take, List.map_drop]
    simp only [List.append_assoc]
   rw [e2] at hh
   refine Eq.trans ?_ hh
   congr 3
   rw [← e2]
   unfold splice
   simp
  ·exact setRow_other _ _ _ _ hn
theorem wrBytes_any (g : Nat) (xs : List UInt8) (at_ : Nat) (B : Option Addr) (m d : Nat) (ys : List UInt8) (w : World) (hw : WrAt w g xs at_) (hx : xs.length = 256) (hr : RdB w B m d ys) (ha : at_ + m ≤ 255) :
  Calls Tryz.prog 128 #[.pointer (some ⟨g, 0, none⟩), .slice B m d] w fun e w' => e = .returned (.tuple #[]) ∧ WrAt w' g (xs.take at_ ++ (ys ++ xs.drop (at_ + m))) (at_ + m) ∧ Below g w w' ∧ Beside g w w' := by
 have c0 := hw.at_ hx
 have fz : w.frozen? ⟨g, 256, none⟩ = false := frozen_of_row _ _ 256 _ _ hw
 have k0 : ¬ ((256 : Nat) = at_) := by omega
 have k1 : ¬ (at_ = 256) := by omega
 have k2 : (at_ : Int) ≤ 256 := by omega
 have gl := hw.lt
 have HW := Lib.hid hw
 have HL := Lib.hid hr.2.1
 have HX := (Below.refl w.heap.size w).drew
 have cc : w.drew.cell? ⟨g, 256, none⟩ = some (.int .i64 (at_ : Int)) := c0
 clear hw c0
 go_enter Tryz.func128, Tryz.ntmps128
 go_wp2_with fail
 refine wp_region_seg (S := fun _ => True) 8 (brw9 18 5111) [(0, true), (1, true), (2, true), (4, true), (5, true), (6, true), (7, true), (8, true), (9, true), (12, true)] (by kernel_rfl) (by kernel_rfl) (fun _ _ d _ _ h => by first | (cases d <;> exact h) | cases h.1) (trivial) ?_
 have HB := trivial
 iterate 10 (refine seg_take (v := ?_) rfl (Or.inl ⟨by rfl, ?_⟩) ?_; rotate_left; (focus (intro w' hw'; go_simp <;> with_reducible rfl)); try simp only [Act.put, pst3])
 refine seg_done (fun _ => ?_)
 refine wpAnyH_two (i := 3) (j := 10) (f := 7) (by kernel_rfl) ?_ ?_
 ·skip
  refine op_run rfl (fun K hK => ?_)
  go_simp
  have q0 := cc
  go_simp
  refine hK.out _ _ (HB) ?_
  clear hK
  try simp only [Act.put, pst3]
  refine wpAnyH_seg (by kernel_rfl) (fun _ _ d _ _ h => by first | (cases d <;> exact h) | cases h.1) 0 (brw9 18 262143) [(10, false), (11, true), (13, false), (14, true), (15, true), (16, true), (17, false)] _ _ _ (by kernel_rfl) (HB) ?_
  refine seg_run rfl (fun K hK => ?_)
  go_simp
  have q1 := cc
  go_simp
  refine hK.out _ _ (HB) ?_
  clear hK
  try simp only [Act.put, pst3]
  iterate 1 (refine seg_take (v := ?_) rfl (Or.inl ⟨by rfl, ?_⟩) ?_; rotate_left; (focus (intro w' hw'; go_simp <;> with_reducible rfl)); try simp only [Act.put, pst3])
  refine seg_run rfl (fun K hK => ?_)
  rw [if_pos (by rfl)]
  refine op_copyW rfl _ _ rfl g xs at_ (HW.out.below HX) hx at_ m _ _ rfl _ _ ys rfl (hr.below HX) (by omega) (by omega) ?_
  intro w2 HW2 HB2 HE2
  have HL2 := Lib.hid (show (xs.take at_ ++ (ys ++ xs.drop (at_ + m))).length = 256 by have := HL.out; simp; omega)
  have cc := HW2.at_ HL2.out
  have HW2 := Lib.hid HW2
  refine hK.out _ _ (HB) ?_
  clear hK
  try simp only [Act.put, pst3]
  iterate 3 (refine seg_take (v := ?_) rfl (Or.inl ⟨by rfl, ?_⟩) ?_; rotate_left; (focus (intro w' hw'; go_simp <;> with_reducible rfl)); try simp only [Act.put, pst3])
  refine seg_run rfl (fun K hK => ?_)
  go_simp
  have q2 := HW2.out.at_ HL2.out
  have fz2 : w2.frozen? ⟨g, 256, none⟩ = false := frozen_of_row _ _ 256 _ _ HW2.out
  go_simp
  refine hK.out _ _ (HB) ?_
  clear hK
  try simp only [Act.put, pst3]
  refine seg_done (fun _ => ?_)
  refine wpAnyH_done (by kernel_rfl) ?_ _
  refine bodyPost_end (v := .tuple #[]) (by simp [results, Tryz.results128]) rfl ?_
  have hrow := setc_rowT (i := 256) (v := .int .i64 ((at_ + m : Nat) : Int)) HW2.out
  refine ⟨rfl, ?_, ((HX.mono (Nat.le_of_lt gl)).trans HB2).setCell (p := ⟨g, 256, none⟩) (Nat.le_refl _) _, ((beside_of HX).trans HE2).setCell _⟩
  unfold WrAt
  have e : ((xs.take at_ ++ (ys ++ xs.drop (at_ + m))).map vB ++ [Value.int .i64 (at_ : Int)]).toArray.setIfInBounds 256 (.int .i64 ((at_ + m : Nat) : Int)) = ((xs.take at_ ++ (ys ++ xs.drop (at_ + m))).map vB ++ [Value.int .i64 ((at_ + m : Nat) : Int)]).toArray := by
   have hl := HL2.out
   rw [List.setIfInBounds_toArray, List.set_append_right _ _ (by rw [List.length_map, hl]; omega), List.length_map, hl]
   rfl
  rw [e] at hrow
  have ws : IntKind.i64.wrap ((at_ : Int) + (m : Int)) = ((at_ + m : Nat) : Int) := by rw [show (at_ : Int) + (m : Int) = ((at_ + m : Nat) : Int) by simp]; exact wi64n (by omega)
  rw [ws]
  exact hrow
 ·skip
  refine op_run rfl (fun K hK => ?_)
  go_simp
  have q1 := cc
  go_simp
  refine hK.out _ _ (HB) ?_
  clear hK
  try simp only [Act.put, pst3]
  refine wpAnyH_seg (by kernel_rfl) (fun _ _ d _ _ h => by first | (cases d <;> exact h) | cases h.1) 6 (brw9 18 8183) [(11, true)] _ _ _ (by kernel_rfl) (HB) ?_
  iterate 1 (refine seg_take (v := ?_) rfl (Or.inl ⟨by rfl, ?_⟩) ?_; rotate_left; (focus (intro w' hw'; go_simp <;> with_reducible rfl)); try simp only [Act.put, pst3])
  refine seg_done (fun _ => ?_)
  refine wpAnyH_two (i := 3) (j := 13) (f := 5) (by kernel_rfl) ?_ ?_
  ·skip
   refine op_run rfl (fun K hK => ?_)
   go_simp
   have q0 := cc
   go_simp
   refine hK.out _ _ (HB) ?_
   clear hK
   try simp only [Act.put, pst3]
   refine wpAnyH_seg (by kernel_rfl) (fun _ _ d _ _ h => by first | (cases d <;> exact h) | cases h.1) 0 (brw9 18 262143) [(13, false), (14, true), (15, true), (16, true), (17, false)] _ _ _ (by kernel_rfl) (HB) ?_
   refine seg_run rfl (fun K hK => ?_)
   rw [if_pos (by rfl)]
   refine op_copyW rfl _ _ rfl g xs at_ (HW.out.below HX) hx at_ m _ _ rfl _ _ ys rfl (hr.below HX) (by omega) (by omega) ?_
   intro w2 HW2 HB2 HE2
   have HL2 := Lib.hid (show (xs.take at_ ++ (ys ++ xs.drop (at_ + m))).length = 256 by have := HL.out; simp; omega)
   have cc := HW2.at_ HL2.out
   have HW2 := Lib.hid HW2
   refine hK.out _ _ (HB) ?_
   clear hK
   try simp only [Act.put, pst3]
   iterate 3 (refine seg_take (v := ?_) rfl (Or.inl ⟨by rfl, ?_⟩) ?_; rotate_left; (focus (intro w' hw'; go_simp <;> with_reducible rfl)); try simp only [Act.put, pst3])
   refine seg_run rfl (fun K hK => ?_)
   go_simp
   have q2 := HW2.out.at_ HL2.out
   have fz2 : w2.frozen? ⟨g, 256, none⟩ = false := frozen_of_row _ _ 256 _ _ HW2.out
   go_simp
   refine hK.out _ _ (HB) ?_
   clear hK
   try simp only [Act.put, pst3]
   refine seg_done (fun _ => ?_)
   refine wpAnyH_done (by kernel_rfl) ?_ _
   refine bodyPost_end (v := .tuple #[]) (by simp [results, Tryz.results128]) rfl ?_
   have hrow := setc_rowT (i := 256) (v := .int .i64 ((at_ + m : Nat) : Int)) HW2.out
   refine ⟨rfl, ?_, ((HX.mono (Nat.le_of_lt gl)).trans HB2).setCell (p := ⟨g, 256, none⟩) (Nat.le_refl _) _, ((beside_of HX).trans HE2).setCell _⟩
   unfold WrAt
   have e : ((xs.take at_ ++ (ys ++ xs.drop (at_ + m))).map vB ++ [Value.int .i64 (at_ : Int)]).toArray.setIfInBounds 256 (.int .i64 ((at_ + m : Nat) : Int)) = ((xs.take at_ ++ (ys ++ xs.drop (at_ + m))).map vB ++ [Value.int .i64 ((at_ + m : Nat) : Int)]).toArray := by
    have hl := HL2.out
    rw [List.setIfInBounds_toArray, List.set_append_right _ _ (by rw [List.length_map, hl]; omega), List.length_map, hl]
    rfl
   rw [e] at hrow
   have ws : IntKind.i64.wrap ((at_ : Int) + (m : Int)) = ((at_ + m : Nat) : Int) := by rw [show (at_ : Int) + (m : Int) = ((at_ + m : Nat) : Int) by simp]; exact wi64n (by omega)
   rw [ws]
   exact hrow
  ·skip
   refine op_run rfl (fun K hK => ?_)
   rw [if_pos (by rfl)]
   refine op_copyW rfl _ _ rfl g xs at_ (HW.out.below HX) hx at_ m _ _ rfl _ _ ys rfl (hr.below HX) (by omega) (by omega) ?_
   intro w2 HW2 HB2 HE2
   have HL2 := Lib.hid (show (xs.take at_ ++ (ys ++ xs.drop (at_ + m))).length = 256 by have := HL.out; simp; omega)
   have cc := HW2.at_ HL2.out
   have HW2 := Lib.hid HW2
   refine hK.out _ _ (HB) ?_
   clear hK
   try simp only [Act.put, pst3]
   refine wpAnyH_seg (by kernel_rfl) (fun _ _ d _ _ h => by first | (cases d <;> exact h) | cases h.1) 0 (brw9 18 262143) [(3, false), (14, true), (15, true), (16, true), (17, false)] _ _ _ (by kernel_rfl) (HB) ?_
   refine seg_run rfl (fun K hK => ?_)
   go_simp
   have q0 := cc
   go_simp
   refine hK.out _ _ (HB) ?_
   clear hK
   try simp only [Act.put, pst3]
   iterate 3 (refine seg_take (v := ?_) rfl (Or.inl ⟨by rfl, ?_⟩) ?_; rotate_left; (focus (intro w' hw'; go_simp <;> with_reducible rfl)); try simp only [Act.put, pst3])
   refine seg_run rfl (fun K hK => ?_)
   go_simp
   have q2 := HW2.out.at_ HL2.out
   have fz2 : w2.frozen? ⟨g, 256, none⟩ = false := frozen_of_row _ _ 256 _ _ HW2.out
   go_simp
   refine hK.out _ _ (HB) ?_
   clear hK
   try simp only [Act.put, pst3]
   refine seg_done (fun _ => ?_)
   refine wpAnyH_done (by kernel_rfl) ?_ _
   refine bodyPost_end (v := .tuple #[]) (by simp [results, Tryz.results128]) rfl ?_
   have hrow := setc_rowT (i := 256) (v := .int .i64 ((at_ + m : Nat) : Int)) HW2.out
   refine ⟨rfl, ?_, ((HX.mono (Nat.le_of_lt gl)).trans HB2).setCell (p := ⟨g, 256, none⟩) (Nat.le_refl _) _, ((beside_of HX).trans HE2).setCell _⟩
   unfold WrAt
   have e : ((xs.take at_ ++ (ys ++ xs.drop (at_ + m))).map vB ++ [Value.int .i64 (at_ : Int)]).toArray.setIfInBounds 256 (.int .i64 ((at_ + m : Nat) : Int)) = ((xs.take at_ ++ (ys ++ xs.drop (at_ + m))).map vB ++ [Value.int .i64 ((at_ + m : Nat) : Int)]).toArray := by
    have hl := HL2.out
    rw [List.setIfInBounds_toArray, List.set_append_right _ _ (by rw [List.length_map, hl]; omega), List.length_map, hl]
    rfl
   rw [e] at hrow
   have ws : IntKind.i64.wrap ((at_ : Int) + (m : Int)) = ((at_ + m : Nat) : Int) := by rw [show (at_ : Int) + (m : Int) = ((at_ + m : Nat) : Int) by simp]; exact wi64n (by omega)
   rw [ws]
   exact hrow
def WrS (w : World) (g : Nat) (pre : List UInt8) : Prop := WrAt w g (pre ++ List.replicate (256 - pre.length) 0) pre.length
theorem WrS.lt {w : World} {g : Nat} {pre : List UInt8} (h : WrS w g pre) : g < w.heap.size := WrAt.lt h
theorem WrS.below {w w' : World} {g : Nat} {pre : List UInt8} (h : WrS w g pre) (hb : Below w.heap.size w w') : WrS w' g pre := WrAt.below h hb
theorem WrS.rd {w : World} {g : Nat} {pre : List UInt8} (h : WrS w g pre) (hp : pre.length ≤ 220) : RdB w (some ⟨g, 0, none⟩) 220 220 (pre ++ List.replicate (220 - pre.length) 0) := by
 have := WrAt.rd h 220 (by simp; omega) (by simp [maxLen])
 rwa [List.take_append, List.take_of_length_le hp, List.take_replicate, Nat.min_eq_left (by omega)] at this
theorem wrSBytes_any (g : Nat) (pre : List UInt8) (B : Option Addr) (m d : Nat) (ys : List UInt8) (w : World) (hw : WrS w g pre) (hr : RdB w B m d ys) (ha : pre.length + m ≤ 255) :
  Calls Tryz.prog 128 #[.pointer (some ⟨g, 0, none⟩), .slice B m d] w fun e w' => e = .returned (.tuple #[]) ∧ WrS w' g (pre ++ ys) ∧ Below g w w' ∧ Beside g w w' := by
 refine (wrBytes_any g _ _ B m d ys w hw (by simp; omega) hr ha).mono ?_
 rintro e w2 ⟨rfl, h1, h2⟩
 refine ⟨rfl, ?_, h2⟩
 unfold WrS
 have hl := hr.2.1
 have e : (pre ++ List.replicate (256 - pre.length) (0 : UInt8)).take pre.length ++ (ys ++ (pre ++ List.replicate (256 - pre.length) 0).drop (pre.length + m)) = pre ++ ys ++ List.replicate (256 - (pre ++ ys).length) 0 := by
  rw [List.take_left' rfl, ← List.drop_drop, List.drop_left' rfl, List.drop_replicate, List.append_assoc]
  congr 3
  simp; omega
 rw [e] at h1
 rw [List.length_append, hl] at h1 ⊢
 exact h1
theorem wrSNumber_any (g : Nat) (pre : List UInt8) (s x : Nat) (w : World) (hw : WrS w g pre) (hs : 1 ≤ s ∧ s ≤ 8) (hx : x < 18446744073709551616) (ha : pre.length + s ≤ 255) :
  Calls Tryz.prog 127 #[.pointer (some ⟨g, 0, none⟩), .int .i64 (s : Int), .int .u64 (x : Int)] w fun e w' => e = .returned (.tuple #[]) ∧ WrS w' g (pre ++ leB x s) ∧ Below g w w' ∧ Beside g w w' := by
 have hcl : clamp (s : Int) = s := by unfold clamp; rw [if_neg (by omega), if_neg (by omega), Int.toNat_natCast]
 have hl := hw.lt
 have H1 := Lib.hid (le_any x s w hx)
 have HC := Lib.hid hcl
 have HW := Lib.hid hw
 clear hcl hw
 go_enter Tryz.func127, Tryz.ntmps127
 go_wp2_with fail
 refine H1.out.mono ?_
 rintro e w2 ⟨A2, n2, c2, rfl, ho2, hb2⟩
 rw [HC.out] at ho2
 have hn2 : n2 = s := by rw [← ho2.len, leB_length]
 subst hn2
 go_wp2_with fail
 refine (wrSBytes_any g pre A2 n2 c2 _ w2 (HW.out.below hb2) ho2.rd ha).mono ?_
 rintro e w3 ⟨rfl, h3, hb3, hs3⟩
 go_wp2_with fail
 refine bodyPost_end (v := .tuple #[]) (by simp [results, Tryz.results127]) rfl ?_
 exact ⟨rfl, h3, (hb2.mono (Nat.le_of_lt hl)).trans hb3, (beside_of hb2).trans hs3⟩
set_option maxHeartbeats 4000000
theorem rw_at {w : World} {k : Nat} (o : Obj) (h : w.heap.size = k) : (w.alloc o).heap[k]? = some o := by subst h; exact heap_alloc_new w o
theorem rw_old {w : World} {g : Nat} {o : Obj} (o' : Obj) (h : w.heap[g]? = some o) : (w.alloc o').heap[g]? = some o := (heap_alloc_old _ _ (Array.getElem?_eq_some_iff.1 h).1).trans h
theorem rw_up {w w' : World} {g : Nat} {o : Obj} (h : w.heap[g]? = some o) (hb : Below w.heap.size w w') : w'.heap[g]? = some o := (hb.block g (Array.getElem?_eq_some_iff.1 h).1).trans h
theorem rw_lt {w : World} {g : Nat} {o : Obj} (h : w.heap[g]? = some o) : g < w.heap.size := (Array.getElem?_eq_some_iff.1 h).1
def rcV (r : Rc) (A : Option Addr) (n c : Nat) : List Value := [.int .u32 (r.g : Int), .int .u32 (r.s : Int), .int .u32 (r.m : Int), .int .u64 (r.t : Int), .int .i64 r.k, .int .u64 (r.c : Int), .slice A n c] ++ r.D.map vB
theorem rcV_len (r : Rc) (A : Option Addr) (n c : Nat) (h : r.D.length = 32) : (rcV r A n c).length = 39 := by simp [rcV, h]
theorem rcV_one (r : Rc) (A : Option Addr) (n c : Nat) : ∀ v ∈ rcV r A n c, v.oneCell' = true := by
 intro v hv
 simp only [rcV, List.mem_append, List.mem_cons, List.not_mem_nil, or_false] at hv
 rcases hv with (rfl | rfl | rfl | rfl | rfl | rfl | rfl) | hv
 ·rfl
 ·rfl
 ·rfl
 ·rfl
 ·rfl
 ·rfl
 ·rfl
 ·exact oneCell_vB _ v hv
def RcAt (w : World) (h : Nat) (r : Rc) (A : Option Addr) (n c : Nat) : Prop := w.heap[h]? = some (.cells (rcV r A n c).toArray 90 (0, 0))
section
variable {w : World} {h : Nat} {r : Rc} {A : Option Addr} {n c : Nat}
theorem RcAt.lt (q : RcAt w h r A n c) : h < w.heap.size := (Array.getElem?_eq_some_iff.1 q).1
theorem RcAt.c0 (q : RcAt w h r A n c) : w.cell? ⟨h, 0, none⟩ = some (.int .u32 (r.g : Int)) := (cell_of_row w h 0 _ _ _ q).trans rfl
theorem RcAt.c1 (q : RcAt w h r A n c) : w.cell? ⟨h, 1, none⟩ = some (.int .u32 (r.s : Int)) := (cell_of_row w h 1 _ _ _ q).trans rfl
theorem RcAt.c2 (q : RcAt w h r A n c) : w.cell? ⟨h, 2, none⟩ = some (.int .u32 (r.m : Int)) := (cell_of_row w h 2 _ _ _ q).trans rfl
theorem RcAt.c3 (q : RcAt w h r A n c) : w.cell? ⟨h, 3, none⟩ = some (.int .u64 (r.t : Int)) := (cell_of_row w h 3 _ _ _ q).trans rfl
theorem RcAt.c4 (q : RcAt w h r A n c) : w.cell? ⟨h, 4, none⟩ = some (.int .i64 r.k) := (cell_of_row w h 4 _ _ _ q).trans rfl
theorem RcAt.c5 (q : RcAt w h r A n c) : w.cell? ⟨h, 5, none⟩ = some (.int .u64 (r.c : Int)) := (cell_of_row w h 5 _ _ _ q).trans rfl
theorem RcAt.c6 (q : RcAt w h r A n c) : w.cell? ⟨h, 6, none⟩ = some (.slice A n c) := (cell_of_row w h 6 _ _ _ q).trans rfl
theorem RcAt.fr (q : RcAt w h r A n c) (i : Nat) : w.frozen? ⟨h, i, none⟩ = false := frozen_of_row _ _ i _ _ q
theorem RcAt.up {w' : World} (q : RcAt w h r A n c) (hb : Below w.heap.size w w') : RcAt w' h r A n c := rw_up q hb
theorem RcAt.dig (q : RcAt w h r A n c) (hD : r.D.length = 32) : RdB w (some ⟨h, 7, none⟩) 32 32 r.D := by
 refine rdPart q 7 r.D 32 (fun i hi => ?_) hD (by simp [maxLen])
 rw [List.getElem?_toArray, rcV, List.getElem?_append_right (by simp)]
 simp
end
def wrZ : Array Value := ((([] : List UInt8) ++ List.replicate (256 - ([] : List UInt8).length) 0).map vB ++ [Value.int .i64 (([] : List UInt8).length : Int)]).toArray
set_option maxRecDepth 100000 in
theorem zeroWr : Tryz.zeroCells174 = wrZ := by kernel_rfl
def rcParts (r : Rc) : Nat → List UInt8
 | 0 => [80, 72, 82, 67]
 | 1 => [80, 72, 82, 67] ++ leB r.g 4
 | 2 => [80, 72, 82, 67] ++ leB r.g 4 ++ leB r.s 4
 | _ => [80, 72, 82, 67] ++ leB r.g 4 ++ leB r.s 4 ++ leB r.m 4
theorem rcParts_len (r : Rc) (j : Nat) (h : j ≤ 3) : (rcParts r j).length = 4 + 4 * j := by
 have : j = 0 ∨ j = 1 ∨ j = 2 ∨ j = 3 := by omega
 rcases this with rfl | rfl | rfl | rfl <;> simp [rcParts, leB_length]
def RlI (W : World) (gW gL gR : Nat) (r : Rc) (A : Option Addr) (n c : Nat) (v : Value) (wr : World) : Prop := ∃ j : Nat, j ≤ 3 ∧ v = .int .i64 (j : Int) ∧ WrS wr gW (rcParts r j) ∧ Below gW W wr ∧ wr.heap[gL]? = some (.cells #[.int .u32 (r.g : Int), .int .u32 (r.s : Int), .int .u32 (r.m : Int)] 28 (0, 0))
theorem leB_one (x : Nat) : leB x 1 = [UInt8.ofNat x] := by simp [leB]
theorem rcBody_eq (r : Rc) (kn : Nat) (hk : r.k = (kn : Int)) (hb : r.b.length ≤ 186) (pre : List UInt8) (hp : pre = rcParts r 3 ++ leB r.t 8 ++ leB kn 1 ++ leB r.b.length 1 ++ leB r.c 8 ++ r.b) : pre ++ List.replicate (220 - pre.length) 0 = rcBody r := by
 have hl : pre.length = 34 + r.b.length := by rw [hp]; simp [rcParts, leB_length]; omega
 rw [hl, hp]
 unfold rcBody rcParts
 rw [hk, Int.toNat_natCast, leB_one, leB_one, show 220 - (34 + r.b.length) = 186 - r.b.length by omega]
 simp only [List.append_assoc]
theorem recLinked_any (r : Rc) (A : Option Addr) (n c : Nat) (w : World) (hok : r.ok) (hchk : r.chk = true) (hr : RdB w A n c r.b) :
  Calls Tryz.prog 90 #[.agg (rcV r A n c).toArray] w fun e w' => ∃ g, e = .returned (.slice (some ⟨g, 0, none⟩) 220 220) ∧ RdB w' (some ⟨g, 0, none⟩) 220 220 (rcBody r) ∧ w.heap.size ≤ g ∧ Below w.heap.size w w' := by
 obtain ⟨hb, hk1, hk3, hcc⟩ := rcChk_len hchk
 obtain ⟨hg, hs, hm, ht, -, hc8, hD⟩ := hok
 obtain ⟨kn, hkn⟩ : ∃ kn : Nat, r.k = (kn : Int) := ⟨r.k.toNat, by omega⟩
 have hl := hr.2.1
 have hn : n ≤ 180 := by omega
 obtain ⟨RV, hRV⟩ : ∃ z, z = (rcV r A n c).toArray := ⟨_, rfl⟩
 rw [← hRV]
 obtain ⟨W1, hW1⟩ : ∃ W, W = ((w.alloc (.cells RV 90)).alloc (.cells Tryz.zeroCells174 174)).alloc (.cells #[.int .u8 80, .int .u8 72, .int .u8 82, .int .u8 67] 5 (4, 5)) := ⟨_, rfl⟩
 have kc : (convert 47 47 (.slice (some ⟨w.heap.size + 1 + 1, 0, none⟩) 4 4)).run Tryz.prog (((w.alloc (.cells RV 90)).alloc (.cells Tryz.zeroCells174 174)).alloc (.cells #[.int .u8 80, .int .u8 72, .int .u8 82, .int .u8 67] 5)) = .ok (.slice (some ⟨w.heap.size + 1 + 1, 0, none⟩) 4 4) W1 := by
  have := kconst ((w.alloc (.cells RV 90)).alloc (.cells Tryz.zeroCells174 174)) #[.int .u8 80, .int .u8 72, .int .u8 82, .int .u8 67] 4 4
  rw [hW1]
  simpa using this
 have b1 : Below w.heap.size w W1 := by rw [hW1]; exact (((below_self w).alloc (Nat.le_refl _) _).alloc (by simp) _).alloc (by simp; omega) _
 have qr : RcAt W1 w.heap.size r A n c := by rw [hW1, hRV]; exact rw_old _ (rw_old _ (rw_at _ rfl))
 have qw : WrS W1 (w.heap.size + 1) [] := by rw [hW1]; exact (rw_old _ (rw_at _ (by simp))).trans (by rw [zeroWr]; rfl)
 have qm := rdAt (show W1.heap[w.heap.size + 2]? = some (.cells #[.int .u8 80, .int .u8 72, .int .u8 82, .int .u8 67] 5 (4, 5)) by rw [hW1]; exact rw_at _ (by simp)) [80, 72, 82, 67] 4 rfl rfl (by simp [maxLen])
 have z1 : W1.heap.size = w.heap.size + 3 := by rw [hW1]; simp
 have wg := w64n (k := r.g) (by omega)
 have ws := w64n (k := r.s) (by omega)
 have wm := w64n (k := r.m) (by omega)
 have wk := w64n (k := kn) (by omega)
 have wn := w64n (k := n) (by omega)
 have HRV := Lib.hid hRV
 clear hW1 hRV
 go_enter Tryz.func90, Tryz.ntmps90
 go_wp2_with fail
 refine (wrSBytes_any (w.heap.size + 1) [] (some ⟨w.heap.size + 2, 0, none⟩) 4 4 _ W1 qw qm (by simp)).mono ?_
 rintro e w2 ⟨rfl, qw, hb2, hs2⟩
 have B := b1.trans (hb2.mono (by omega))
 have qr := (hb2.block w.heap.size (by omega)).trans qr
 have gz := hb2.size
 have a0 := RcAt.c0 qr
 have a1 := RcAt.c1 qr
 have a2 := RcAt.c2 qr
 go_wp2_with fail
 obtain ⟨L, hL⟩ : ∃ Z, Z = w2.alloc (.cells #[.int .u32 (r.g : Int), .int .u32 (r.s : Int), .int .u32 (r.m : Int)] 28) := ⟨_, rfl⟩
 rw [← hL]
 have bL : Below w2.heap.size w2 L := by rw [hL]; exact (below_self _).alloc (Nat.le_refl _) _
 obtain ⟨gL, hgL⟩ : ∃ g, g = w2.heap.size := ⟨_, rfl⟩
 have qL : L.heap[gL]? = some (.cells #[.int .u32 (r.g : Int), .int .u32 (r.s : Int), .int .u32 (r.m : Int)] 28 (0, 0)) := by rw [hL]; exact rw_at _ hgL.symm
 have zL : w.heap.size + 3 ≤ gL := by omega
 have qw := qw.below bL
 have qr : RcAt L w.heap.size r A n c := rw_up qr bL
 have B := B.trans (bL.mono (by omega))
 have zL2 := rw_lt qL
 rw [← hgL]
 clear hL hgL a0 a1 a2
 go_loopw [23] (RlI L (w.heap.size + 1) gL w.heap.size r A n c) (fun s _ => 3 - (intOf s).toNat)
 case atStart => exact ⟨0, by omega, rfl, qw, Below.refl _ _, qL⟩
 case round =>
  obtain ⟨j, hj, rfl, hw, hB, hL⟩ := hrel
  have hj4 : j = 0 ∨ j = 1 ∨ j = 2 ∨ j = 3 := by omega
  clear hj qw qL
  rcases hj4 with rfl | rfl | rfl | rfl
  ·have cj := (cell_of_row wr gL 0 _ _ _ hL).trans (show (#[.int .u32 (r.g : Int), .int .u32 (r.s : Int), .int .u32 (r.m : Int)] : Array Value)[0]? = some (.int .u32 (r.g : Int)) from rfl)
   go_wp2_with fail
   refine (wrSNumber_any (w.heap.size + 1) _ 4 r.g wr hw (by omega) (by omega) (by rw [rcParts_len r 0 (by omega)]; omega)).mono ?_
   rintro e x2 ⟨rfl, hw2, hx2, hsx⟩
   have hB2 := hB.trans hx2
   have hL2 := hsx.row hL (show gL ≠ w.heap.size + 1 by omega)
   go_wp2_with fail
   go_roundw
   case rel => exact ⟨1, by omega, by go_num, hw2, hB2, hL2⟩
   case measure => simp [intOf]
  ·have cj := (cell_of_row wr gL 1 _ _ _ hL).trans (show (#[.int .u32 (r.g : Int), .int .u32 (r.s : Int), .int .u32 (r.m : Int)] : Array Value)[1]? = some (.int .u32 (r.s : Int)) from rfl)
   go_wp2_with fail
   refine (wrSNumber_any (w.heap.size + 1) _ 4 r.s wr hw (by omega) (by omega) (by rw [rcParts_len r 1 (by omega)]; omega)).mono ?_
   rintro e x2 ⟨rfl, hw2, hx2, hsx⟩
   have hB2 := hB.trans hx2
   have hL2 := hsx.row hL (show gL ≠ w.heap.size + 1 by omega)
   go_wp2_with fail
   go_roundw
   case rel => exact ⟨2, by omega, by go_num, hw2, hB2, hL2⟩
   case measure => simp [intOf]
  ·have cj := (cell_of_row wr gL 2 _ _ _ hL).trans (show (#[.int .u32 (r.g : Int), .int .u32 (r.s : Int), .int .u32 (r.m : Int)] : Array Value)[2]? = some (.int .u32 (r.m : Int)) from rfl)
   go_wp2_with fail
   refine (wrSNumber_any (w.heap.size + 1) _ 4 r.m wr hw (by omega) (by omega) (by rw [rcParts_len r 2 (by omega)]; omega)).mono ?_
   rintro e x2 ⟨rfl, hw2, hx2, hsx⟩
   have hB2 := hB.trans hx2
   have hL2 := hsx.row hL (show gL ≠ w.heap.size + 1 by omega)
   go_wp2_with fail
   go_roundw
   case rel => exact ⟨3, by omega, by go_num, hw2, hB2, hL2⟩
   case measure => simp [intOf]
  ·have B := B.trans (hB.mono (by omega))
   have qr : RcAt wr w.heap.size r A n c := (hB.block w.heap.size (by omega)).trans qr
   have qr0 := qr
   have pl := rcParts_len r 3 (by omega)
   have a3 := qr.c3
   clear hL
   go_wp2_with fail
   refine (wrSNumber_any (w.heap.size + 1) _ 8 r.t _ hw (by omega) (by omega) (by simp [leB_length, pl] <;> omega)).mono ?_
   rintro e y1 ⟨rfl, hw, hy1, hsy1⟩
   have B := B.trans (hy1.mono (by omega))
   have qr : RcAt y1 w.heap.size r A n c := (hy1.block w.heap.size (by omega)).trans qr
   have a4 := hkn ▸ qr.c4
   clear a3
   go_wp2_with fail
   refine (wrSNumber_any (w.heap.size + 1) _ 1 kn _ hw (by omega) (by omega) (by simp [leB_length, pl] <;> omega)).mono ?_
   rintro e y2 ⟨rfl, hw, hy2, hsy2⟩
   have B := B.trans (hy2.mono (by omega))
   have qr : RcAt y2 w.heap.size r A n c := (hy2.block w.heap.size (by omega)).trans qr
   have a6 := qr.c6
   clear a4
   go_wp2_with fail
   refine (wrSNumber_any (w.heap.size + 1) _ 1 n _ hw (by omega) (by omega) (by simp [leB_length, pl] <;> omega)).mono ?_
   rintro e y3 ⟨rfl, hw, hy3, hsy3⟩
   have B := B.trans (hy3.mono (by omega))
   have qr : RcAt y3 w.heap.size r A n c := (hy3.block w.heap.size (by omega)).trans qr
   have a5 := qr.c5
   clear a6
   go_wp2_with fail
   refine (wrSNumber_any (w.heap.size + 1) _ 8 r.c _ hw (by omega) (by omega) (by simp [leB_length, pl] <;> omega)).mono ?_
   rintro e y4 ⟨rfl, hw, hy4, hsy4⟩
   have B := B.trans (hy4.mono (by omega))
   have qr : RcAt y4 w.heap.size r A n c := (hy4.block w.heap.size (by omega)).trans qr
   have a6 := qr.c6
   clear a5
   go_wp2_with fail
   refine (wrSBytes_any (w.heap.size + 1) _ A n c _ _ hw (hr.below B) (by simp [leB_length, pl]; omega)).mono ?_
   rintro e y5 ⟨rfl, hw, hy5, hsy5⟩
   have B := B.trans (hy5.mono (by omega))
   clear a6
   have hpre : ∀ pre, pre = rcParts r 3 ++ leB r.t 8 ++ leB kn 1 ++ leB n 1 ++ leB r.c 8 ++ r.b → pre.length ≤ 220 := fun pre h => by rw [h]; simp [leB_length, pl]; omega
   have hfin := hw.rd (hpre _ rfl)
   rw [rcBody_eq r kn hkn (by omega) _ (by rw [hl])] at hfin
   go_wp2_with fail
   go_ret
   exact ⟨_, rfl, hfin, by omega, B⟩
set_option maxHeartbeats 4000000
theorem rcInfo (r : Rc) (A : Option Addr) (n c : Nat) (hD : r.D.length = 32) : (Tryz.prog.info? 90).map (·.size) = some (rcV r A n c).toArray.size := by
 rw [List.size_toArray, rcV_len r A n c hD]; kernel_rfl
theorem load_rc {w : World} {h : Nat} {r : Rc} {A : Option Addr} {n c : Nat} (q : RcAt w h r A n c) (hD : r.D.length = 32) : (loadVar 90 ⟨h, 0, none⟩).run Tryz.prog w = .ok (.agg (rcV r A n c).toArray) w :=
 run_loadVar_row w h _ 90 _ _ _ q Tryz.underlying90 rfl (rcInfo r A n c hD)
theorem rex_load {P : Program} {o : Oper} {a : Act} {w : World} {ty : TypeId} {x : Operand} {p : Addr} {v : Value} (ho : o.op = .load ty x) (hx : a.eval x = .pointer (some p)) (hl : (loadVar ty p).run P w = .ok v w) : (execOp a.eval o).run P w = .ok (.value v) w := by
 unfold execOp
 simp only [ho, hx, Instr.loadAt, Instr.sureAddr, Sem.run_bind, Sem.run_pure, Result.andThen_ok, hl]
theorem recPut_no (r : Rc) (A : Option Addr) (n c : Nat) (w : World) (hr : RdB w A n c r.b) (hchk : r.chk = false) :
  Calls Tryz.prog 50 #[.agg (rcV r A n c).toArray] w (RetBE w [] 2) := by
 have hn := hr.n63
 have hl := hr.2.1
 obtain ⟨V, hV⟩ : ∃ V, V = w.alloc (.cells (rcV r A n c).toArray 90) := ⟨_, rfl⟩
 have bV : Below w.heap.size w V := by rw [hV]; exact (below_self w).alloc (Nat.le_refl _) _
 have q : RcAt V w.heap.size r A n c := by rw [hV]; exact rw_at _ rfl
 have hc := recCheck_any r.t r.k r.c A n c V hn
 rw [show rcChk r.k r.c n = false by rw [← hl]; exact hchk] at hc
 have a3 := q.c3
 have a4 := q.c4
 have a5 := q.c5
 have a6 := q.c6
 rw [hV] at a3 a4 a5 a6
 have HC := Lib.hid hc
 have HV := Lib.hid hV
 obtain ⟨RV, hRV⟩ : ∃ z, z = (rcV r A n c).toArray := ⟨_, rfl⟩
 rw [← hRV] at HV a3 a4 a5 a6 ⊢
 clear hV hc q hRV hchk
 go_enter Tryz.func50, Tryz.ntmps50
 go_wp2_with fail
 rw [← HV.out]
 refine HC.out.mono ?_
 rintro e w2 ⟨rfl, hb2⟩
 clear a3 a4 a5 a6
 go_wp2
 go_ret2
 exact ⟨none, 0, 0, rfl, OwnB.nilB _ _, below_then bV hb2⟩
theorem recPut_yes (r : Rc) (A : Option Addr) (n c : Nat) (w : World) (hok : r.ok) (hr : RdB w A n c r.b) (hchk : r.chk = true) :
  Calls Tryz.prog 50 #[.agg (rcV r A n c).toArray] w (RetBE w (rcL r) 0) := by
 have hn := hr.n63
 have hl := hr.2.1
 have hD := hok.2.2.2.2.2.2
 have hb186 := (rcChk_len hchk).1
 obtain ⟨V, hV⟩ : ∃ V, V = w.alloc (.cells (rcV r A n c).toArray 90) := ⟨_, rfl⟩
 have bV : Below w.heap.size w V := by rw [hV]; exact (below_self w).alloc (Nat.le_refl _) _
 have q : RcAt V w.heap.size r A n c := by rw [hV]; exact rw_at _ rfl
 have hc := recCheck_any r.t r.k r.c A n c V hn
 rw [show rcChk r.k r.c n = true by rw [← hl]; exact hchk] at hc
 have a3 := q.c3
 have a4 := q.c4
 have a5 := q.c5
 have a6 := q.c6
 rw [hV] at a3 a4 a5 a6
 have HC := Lib.hid hc
 have HV := Lib.hid hV
 have Q := Lib.hid q
 have HLn := Lib.hid (fun W (h : RdB W A n c r.b) => recLinked_any r A n c W hok hchk h)
 have hfl : ([rcBody r, r.D] : List (List UInt8)).flatten.length = 252 := by simp [rcBody_len r (by omega), hD]
 have HFL := Lib.hid hfl
 have HLD := Lib.hid hD
 obtain ⟨RV, hRV⟩ : ∃ z, z = (rcV r A n c).toArray := ⟨_, rfl⟩
 have HRV := Lib.hid hRV
 rw [← hRV] at HV a3 a4 a5 a6 HLn ⊢
 clear hV hc q hRV hchk hfl hok hD
 go_enter Tryz.func50, Tryz.ntmps50
 go_wp2_with fail
 rw [← HV.out]
 refine HC.out.mono ?_
 rintro e w2 ⟨rfl, hb2⟩
 have B2 := below_then bV hb2
 have Q2 := Lib.hid (Q.out.up hb2)
 clear a3 a4 a5 a6
 go_wp2_with fail
 refine wp_region_seg (S := fun w' => Below w2.heap.size w2 w') 0 (brw9 9 511) [(0, true), (2, true), (3, true), (1, false), (4, false), (5, false), (6, false), (7, true), (8, true)] (by kernel_rfl) (by kernel_rfl) (fun _ _ d _ _ h => by first | (cases d <;> exact h) | cases h.1) ((Below.refl w2.heap.size w2).drew) ?_
 have HB := (Below.refl w2.heap.size w2).drew
 refine seg_take (v := .agg RV) rfl (Or.inl ⟨by rfl, fun w' hw' => ?_⟩) ?_
 focus (exact rex_load rfl rfl (HRV.out ▸ load_rc (rw_up Q2.out hw') HLD.out))
 try simp only [Act.put, pst3]
 iterate 2 (refine seg_take (v := ?_) rfl (Or.inl ⟨by rfl, ?_⟩) ?_; rotate_left; (focus (intro w' hw'; go_simp <;> with_reducible rfl)); try simp only [Act.put, pst3])
 refine seg_run rfl (fun K hK => ?_)
 go_simp
 refine (HLn.out _ (hr.below (below_then B2 HB))).mono ?_
 rintro e_ w3 ⟨gb, rfl, rb, lgb, hb3⟩
 have HB := below_then HB hb3
 refine hK.out _ _ (HB) ?_
 clear hK
 try simp only [Act.put, pst3]
 refine seg_run rfl (fun K hK => ?_)
 rw [if_pos (by rfl)]
 refine op_lit #[.slice (some ⟨gb, 0, none⟩) 220 220, .slice (some ⟨w.heap.size, 7, none⟩) 32 32] 47 2 rfl (fun w => by go_simp) ?_
 intro gP wP eP hProw HPb hPsz
 have HB := below_then HB HPb
 have rb := rb.below HPb
 have rP := rdsAt hProw
 clear hProw
 refine hK.out _ _ (HB) ?_
 clear hK
 try simp only [Act.put, pst3]
 refine seg_run rfl (fun K hK => ?_)
 go_simp
 refine (concat_any _ 2 2 _ [rcBody r, r.D] _ rP rfl (by omega) ⟨⟨_, _, _, rfl, rb⟩, ⟨_, _, _, rfl, (Q2.out.dig HLD.out).below HB⟩, trivial⟩ (by rw [HFL.out]; omega)).mono ?_
 rintro e_ wJ ⟨AJ, nJ, cJ, rfl, oJ, HJb⟩
 have HB := below_then HB HJb
 obtain rfl : nJ = 252 := by rw [← oJ.len, HFL.out]
 refine hK.out _ _ (HB) ?_
 clear hK
 try simp only [Act.put, pst3]
 refine seg_run rfl (fun K hK => ?_)
 go_simp
 refine (closed_any AJ 252 cJ _ _ oJ.rd (by omega)).mono ?_
 rintro e_ wC ⟨AC, nC, cC, rfl, oC, HCb⟩
 have HB0 := HB.size
 have HB := below_then HB HCb
 refine hK.out _ _ (HB) ?_
 clear hK
 try simp only [Act.put, pst3]
 iterate 2 (refine seg_take (v := ?_) rfl (Or.inl ⟨by rfl, ?_⟩) ?_; rotate_left; (focus (intro w' hw'; go_simp <;> with_reducible rfl)); try simp only [Act.put, pst3])
 refine seg_done (fun _ => ?_)
 refine wpAnyH_done (by kernel_rfl) ?_ _
 go_wp2
 go_ret2
 have zz := B2.size
 refine ⟨_, _, _, rfl, ?_, below_then B2 HB⟩
 have e : crcClosed ([rcBody r, r.D] : List (List UInt8)).flatten = rcL r := by unfold rcL; simp
 rw [← e]
 exact OwnB.mono oC (by omega)
theorem recPut_any (r : Rc) (A : Option Addr) (n c : Nat) (w : World) (hok : r.ok) (hr : RdB w A n c r.b) :
  Calls Tryz.prog 50 #[.agg (rcV r A n c).toArray] w (RetBE w (rcPutL r) (rcPutE r)) := by
 unfold rcPutL rcPutE
 cases h : r.chk with
 | false => rw [if_neg (by decide), if_neg (by decide)]; exact recPut_no r A n c w hr h
 | true => rw [if_pos rfl, if_pos rfl]; exact recPut_yes r A n c w hok hr h
end Go.Proofs.YtpahicfnhhhifaaGreat
