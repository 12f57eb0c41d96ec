/-
  Layer 5: disks: what the functions answer, said of values; variables that hold a disk.
-/
import Derived.Test.YteajboafcjeagaaDskJ
import Derived.Deep.MidRow
namespace Go.Proofs.Yteajboafcjeagaa
set_option maxRecDepth 20000
open Go.RowKit
set_option linter.unusedVariables false
set_option linter.unusedSimpArgs false
set_option maxHeartbeats 4000000

/-- A value that reads the disk D. -/
def DkVal (AV : Array Value) (w : World) (D : Dk) : Prop := ∃ S sn sc K kn kc, AV = #[.slice S sn sc, .slice K kn kc] ∧ RdDk w S sn sc K kn kc D
/-- A variable that holds it. -/
def DkV (w : World) (h : Nat) (AV : Array Value) (D : Dk) : Prop := w.heap[h]? = some (.cells AV 25 (0, 0)) ∧ DkVal AV w D
section
variable {w w' : World} {h : Nat} {AV : Array Value} {D : Dk}
theorem DkVal.below (v : DkVal AV w D) (hb : Below w.heap.size w w') : DkVal AV w' D := by
  obtain ⟨S, sn, sc, K, kn, kc, e, r⟩ := v; exact ⟨S, sn, sc, K, kn, kc, e, r.below hb⟩
theorem DkV.up (v : DkV w h AV D) (hb : Below w.heap.size w w') : DkV w' h AV D := ⟨drw_up v.1 hb, v.2.below hb⟩
theorem DkVal.size (v : DkVal AV w D) : AV.size = 2 := by obtain ⟨S, sn, sc, K, kn, kc, rfl, r⟩ := v; rfl
theorem DkVal.one (v : DkVal AV w D) : AV.all (·.oneCell') = true := by obtain ⟨S, sn, sc, K, kn, kc, rfl, r⟩ := v; simp [Value.oneCell']
theorem DkVal.info (v : DkVal AV w D) : (Try.prog.info? 25).map (·.size) = some AV.size := by rw [v.size]; kernel_rfl
theorem DkV.lt (v : DkV w h AV D) : h < w.heap.size := drw_lt v.1
/-- Its second part's length: how many writes wait. -/
theorem DkV.c1 (v : DkV w h AV D) : ∃ K kc, w.cell? ⟨h, 1, none⟩ = some (.slice K D.k.length kc) := by
  obtain ⟨h1, S, sn, sc, K, kn, kc, rfl, r⟩ := v
  exact ⟨K, kc, (cell_of_row w h 1 _ _ _ h1).trans (by rw [r.kl]; rfl)⟩
theorem DkV.c0 (v : DkV w h AV D) : ∃ K kc vs, w.cell? ⟨h, 0, none⟩ = some (.slice K D.s.length kc) ∧ RdSS w K D.s.length kc vs D.s := by
  obtain ⟨h1, S, sn, sc, K, kn, kc, rfl, r⟩ := v
  obtain ⟨vs, hv⟩ := r.1
  exact ⟨S, sc, vs, (cell_of_row w h 0 _ _ _ h1).trans (by rw [r.sl]; rfl), by rw [r.sl]; exact hv⟩
end
def RetDv (w : World) (D : Dk) (er : Int) (e : Ending) (w' : World) : Prop := ∃ AV, e = .returned (.tuple #[.agg AV, .int .i64 er]) ∧ DkVal AV w' D ∧ Below w.heap.size w w'
theorem retDv_of {w : World} {D : Dk} {er : Int} {e : Ending} {w' : World} (h : RetDk w D er e w') : RetDv w D er e w' := by
  obtain ⟨S, sn, sc, K, kn, kc, h1, h2, h3⟩ := h
  exact ⟨_, h1, ⟨S, sn, sc, K, kn, kc, rfl, h2⟩, h3⟩
section
variable {w : World} {AV : Array Value} {D : Dk}
theorem vNew (n : Int) (w : World) (hn : -9223372036854775808 ≤ n ∧ n ≤ 9223372036854775807) : Calls Try.prog 24 #[.int .i64 n] w (RetDv w (dkNew n) (dkNewE n)) := (dskNew_any n w hn).mono fun _ _ h => retDv_of h
theorem vCheck (v : DkVal AV w D) : Calls Try.prog 26 #[.agg AV] w (RetV w (.bool (dkOk D))) := by
  obtain ⟨S, sn, sc, K, kn, kc, rfl, r⟩ := v; exact dskCheck_any S sn sc K kn kc D w r
theorem vFew (v : DkVal AV w D) : Calls Try.prog 9 #[.agg AV] w (RetV w (.bool (dkFew D))) := by
  obtain ⟨S, sn, sc, K, kn, kc, rfl, r⟩ := v; exact refDskFew_any S sn sc K kn kc D w r
theorem vRefCheck (v : DkVal AV w D) : Calls Try.prog 10 #[.agg AV] w (RetV w (.bool (dkOk D))) := by
  obtain ⟨S, sn, sc, K, kn, kc, rfl, r⟩ := v; exact refDskCheck_any S sn sc K kn kc D w r
theorem vSame {BV : Array Value} (v : DkVal AV w D) (u : DkVal BV w D) : Calls Try.prog 14 #[.agg AV, .agg BV] w (RetV w (.bool true)) := by
  obtain ⟨S, sn, sc, K, kn, kc, rfl, r⟩ := v
  obtain ⟨S2, sn2, sc2, K2, kn2, kc2, rfl, r2⟩ := u
  exact refDskSame_self S sn sc K kn kc S2 sn2 sc2 K2 kn2 kc2 D w r r2
theorem vFlush (v : DkVal AV w D) : Calls Try.prog 12 #[.agg AV] w (RetDv w (dkFlush D) (dkE D)) := by
  obtain ⟨S, sn, sc, K, kn, kc, rfl, r⟩ := v; exact (dskFlush_any S sn sc K kn kc D w r).mono fun _ _ h => retDv_of h
theorem vCrash (v : DkVal AV w D) (A : Option Addr) (n c : Nat) (bs : List Bool) (hb : RdBo w A n c bs) : Calls Try.prog 13 #[.agg AV, .slice A n c] w (RetDv w (dkCrash D bs) (dkE D)) := by
  obtain ⟨S, sn, sc, K, kn, kc, rfl, r⟩ := v; exact (dskCrash_any S sn sc K kn kc D A n c bs w r hb).mono fun _ _ h => retDv_of h
theorem vRead (v : DkVal AV w D) (a : Int) (ha : -9223372036854775808 ≤ a ∧ a ≤ 9223372036854775807) : Calls Try.prog 15 #[.agg AV, .int .i64 a] w (RetBE w (dkRead D a) (dkAsk D a)) := by
  obtain ⟨S, sn, sc, K, kn, kc, rfl, r⟩ := v; exact dskRead_any S sn sc K kn kc D a w r ha
theorem vTamper (v : DkVal AV w D) (a p : Int) (u : UInt8) (ha : -9223372036854775808 ≤ a ∧ a ≤ 9223372036854775807) (hp : -9223372036854775808 ≤ p ∧ p ≤ 9223372036854775807) : Calls Try.prog 22 #[.agg AV, .int .i64 a, .int .i64 p, .int .u8 (u.toNat : Int)] w (RetDv w (dkTamper D a p u) (dkTamperE D a p)) := by
  obtain ⟨S, sn, sc, K, kn, kc, rfl, r⟩ := v; exact (dskTamper_any S sn sc K kn kc D a p u w r ha hp).mono fun _ _ h => retDv_of h
theorem vWrite (v : DkVal AV w D) (a : Int) (B : Option Addr) (m d : Nat) (ys : List UInt8) (ha : -9223372036854775808 ≤ a ∧ a ≤ 9223372036854775807) (hd : RdB w B m d ys) : Calls Try.prog 18 #[.agg AV, .int .i64 a, .slice B m d] w (RetDv w (dkWrite D a ys) (dkWriteE D a ys)) := by
  obtain ⟨S, sn, sc, K, kn, kc, rfl, r⟩ := v; exact (dskWrite_any S sn sc K kn kc D a B m d ys w r ha hd).mono fun _ _ h => retDv_of h
/-! ### Write where a variable is made ahead of it -/
theorem ws_one {us us2 : List Value} {K : Option Addr} {kn kc : Nat} {l l2 : List (Int × List UInt8)} (h : RdWs w K kn kc us l) (h2 : RdWs w K kn kc us2 l2) : us = us2 := by
  have e1 := h.2.1
  have e2 := h2.2.1
  apply List.ext_getElem
  · omega
  · intro i hi hi2
    obtain ⟨b, o, he, _, hc⟩ := h.1.at_ i hi
    obtain ⟨b2, o2, he2, _, hc2⟩ := h2.1.at_ i hi2
    rw [he] at he2; injection he2 with he2; injection he2 with a1 a2; subst a1 a2
    rw [hc] at hc2
    simpa using hc2
/-- What was there ahead of a variable does not ask what the variable holds. -/
def DkSt (w : World) (q : Nat) (cs AV : Array Value) (D : Dk) : Prop := ∃ S sn sc K kn kc, AV = #[.slice S sn sc, .slice K kn kc] ∧ RdDk w S sn sc K kn kc D ∧ (∃ vs, RdSS (w.setRow q cs) S sn sc vs D.s) ∧ (∀ us, RdWs w K kn kc us D.k → RdWs (w.setRow q cs) K kn kc us D.k)
theorem DkVal.st {w0 : World} (v : DkVal AV w0 D) (hb : Below w0.heap.size w0 w) {q : Nat} (hq : w0.heap.size ≤ q) (cs : Array Value) : DkSt w q cs AV D := by
  obtain ⟨S, sn, sc, K, kn, kc, e, r⟩ := v
  have hb2 : Below w0.heap.size w0 (w.setRow q cs) := below_setRow hb hq cs
  refine ⟨S, sn, sc, K, kn, kc, e, r.below hb, r.1.imp fun vs h => h.below hb2, fun us hus => ?_⟩
  obtain ⟨us0, h0⟩ := r.2
  have := ws_one (h0.below hb) hus
  subst this
  exact h0.below hb2
theorem vWriteQ (v : DkVal AV w D) (a : Int) (B : Option Addr) (m d : Nat) (ys : List UInt8) (ha : -9223372036854775808 ≤ a ∧ a ≤ 9223372036854775807) (hd : RdB w B m d ys) : Calls Try.prog 18 #[.agg AV, .int .i64 a, .slice B m d] w (fun e w' => ∃ AV', e = .returned (.tuple #[.agg AV', .int .i64 (dkWriteE D a ys)]) ∧ DkVal AV' w' (dkWrite D a ys) ∧ Below w.heap.size w w' ∧ ∀ (q : Nat) (cs cur : Array Value) (T : TypeId) (fr : Nat × Nat), w.heap[q]? = some (.cells cur T fr) → DkSt w q cs AV D → DkVal AV' (w'.setRow q cs) (dkWrite D a ys)) := by
  obtain ⟨S, sn, sc, K, kn, kc, rfl, r⟩ := v
  refine (dskWriteQ_any S sn sc K kn kc D a B m d ys w r ha hd).mono ?_
  rintro e w' ⟨S2, sn2, sc2, K2, kn2, kc2, h1, h2, h3, h4⟩
  refine ⟨_, h1, ⟨S2, sn2, sc2, K2, kn2, kc2, rfl, h2⟩, h3, fun q cs cur T fr hq hst => ?_⟩
  obtain ⟨S3, sn3, sc3, K3, kn3, kc3, e3, _, h5, h6⟩ := hst
  injection e3 with e3
  injection e3 with e4 e5
  injection e5 with e5 _
  injection e4 with e4a e4b e4c
  injection e5 with e5a e5b e5c
  subst e4a e4b e4c e5a e5b e5c
  obtain ⟨g1, us, _, g2⟩ := h4 (w'.setRow q cs) (fun j hj _ => setRow_other w' q j cs (by have := drw_lt hq; omega)) (h5.imp fun vs h => h.below (below_row2 h3 hq)) (fun us hus => (h6 us hus).below (below_row2 h3 hq))
  exact ⟨S2, sn2, sc2, K2, kn2, kc2, rfl, g1, us, g2⟩
/-! ### What a disk is, whatever some blocks hold -/
def Agr (P : Nat → Prop) (w W : World) : Prop := W.os = w.os ∧ W.tape = w.tape ∧ W.output = w.output ∧ w.heap.size ≤ W.heap.size ∧ ∀ j, j < w.heap.size → ¬ P j → W.heap[j]? = w.heap[j]?
theorem Agr.of {P : Nat → Prop} {w w' W : World} (h : Agr P w' W) (hb : Below w.heap.size w w') : Agr P w W :=
  ⟨h.1.trans hb.os, h.2.1.trans hb.tape, h.2.2.1.trans hb.output, Nat.le_trans hb.size h.2.2.2.1, fun j hj hP => (h.2.2.2.2 j (Nat.lt_of_lt_of_le hj hb.size) hP).trans (hb.block j hj)⟩
theorem Agr.row {P : Nat → Prop} {w W : World} {q : Nat} {cs : Array Value} (h : Agr P (w.setRow q cs) W) (hP : P q) : Agr P w W :=
  ⟨h.1, h.2.1, h.2.2.1, by have := h.2.2.2.1; simpa using this, fun j hj hn => (h.2.2.2.2 j (by simpa using hj) hn).trans (setRow_other w q j cs (fun e => hn (e ▸ hP)))⟩
theorem Agr.set {P : Nat → Prop} (w : World) {q : Nat} (cs : Array Value) (hP : P q) : Agr P w (w.setRow q cs) :=
  ⟨rfl, rfl, rfl, by simp, fun j hj hn => setRow_other w q j cs (fun e => hn (e ▸ hP))⟩
def DkIn (P : Nat → Prop) (w : World) (AV : Array Value) (D : Dk) : Prop := ∃ S sn sc K kn kc, AV = #[.slice S sn sc, .slice K kn kc] ∧ RdDk w S sn sc K kn kc D ∧ ∀ W, Agr P w W → (∃ vs, RdSS W S sn sc vs D.s) ∧ (∀ us, RdWs w K kn kc us D.k → RdWs W K kn kc us D.k)
theorem DkIn.val {P : Nat → Prop} (h : DkIn P w AV D) : DkVal AV w D := by
  obtain ⟨S, sn, sc, K, kn, kc, e, r, _⟩ := h; exact ⟨S, sn, sc, K, kn, kc, e, r⟩
theorem DkIn.below {P : Nat → Prop} {w' : World} (h : DkIn P w AV D) (hb : Below w.heap.size w w') : DkIn P w' AV D := by
  obtain ⟨S, sn, sc, K, kn, kc, e, r, f⟩ := h
  refine ⟨S, sn, sc, K, kn, kc, e, r.below hb, fun W hW => ⟨(f W (hW.of hb)).1, fun us hus => ?_⟩⟩
  obtain ⟨us0, h0⟩ := r.2
  have := ws_one (h0.below hb) hus
  subst this
  exact (f W (hW.of hb)).2 us0 h0
theorem DkIn.row {P : Nat → Prop} (h : DkIn P w AV D) {q : Nat} (cs : Array Value) (hP : P q) : DkIn P (w.setRow q cs) AV D := by
  obtain ⟨S, sn, sc, K, kn, kc, e, r, f⟩ := h
  obtain ⟨us0, h0⟩ := r.2
  have f1 := f _ (Agr.set w cs hP)
  refine ⟨S, sn, sc, K, kn, kc, e, ⟨f1.1, us0, f1.2 us0 h0⟩, fun W hW => ⟨(f W (hW.row hP)).1, fun us hus => ?_⟩⟩
  have := ws_one (f1.2 us0 h0) hus
  subst this
  exact (f W (hW.row hP)).2 us0 h0
theorem DkIn.sub {P P' : Nat → Prop} (h : DkIn P w AV D) (hs : ∀ j, P' j → P j) : DkIn P' w AV D := by
  obtain ⟨S, sn, sc, K, kn, kc, e, r, f⟩ := h
  exact ⟨S, sn, sc, K, kn, kc, e, r, fun W hW => f W ⟨hW.1, hW.2.1, hW.2.2.1, hW.2.2.2.1, fun j hj hn => hW.2.2.2.2 j hj (fun hp => hn (hs j hp))⟩⟩
/-- A block that was not there is another one. -/
theorem DkIn.more {P P' : Nat → Prop} {w' : World} (h : DkIn P w AV D) (hb : Below w.heap.size w w') (hs : ∀ j, P' j → P j ∨ w.heap.size ≤ j) : DkIn P' w' AV D := by
  obtain ⟨S, sn, sc, K, kn, kc, e, r, f⟩ := h
  have hA : ∀ W, Agr P' w' W → Agr P w W := fun W hW => ⟨hW.1.trans hb.os, hW.2.1.trans hb.tape, hW.2.2.1.trans hb.output, Nat.le_trans hb.size hW.2.2.2.1, fun j hj hn => (hW.2.2.2.2 j (Nat.lt_of_lt_of_le hj hb.size) (fun hp => by rcases hs j hp with h | h; exact hn h; omega)).trans (hb.block j hj)⟩
  refine ⟨S, sn, sc, K, kn, kc, e, r.below hb, fun W hW => ⟨(f W (hA W hW)).1, fun us hus => ?_⟩⟩
  obtain ⟨us0, h0⟩ := r.2
  have := ws_one (h0.below hb) hus
  subst this
  exact (f W (hA W hW)).2 us0 h0
theorem DkVal.inn {P : Nat → Prop} {w' : World} (v : DkVal AV w D) (hb : Below w.heap.size w w') (hs : ∀ j, P j → w.heap.size ≤ j) : DkIn P w' AV D := by
  obtain ⟨S, sn, sc, K, kn, kc, e, r⟩ := v
  have h0 : DkIn (fun _ => False) w AV D := ⟨S, sn, sc, K, kn, kc, e, r, fun W hW => by
    have hB : Below w.heap.size w W := ⟨hW.1, hW.2.1, hW.2.2.1, hW.2.2.2.1, fun j hj => hW.2.2.2.2 j hj (fun h => h)⟩
    exact ⟨r.1.imp fun vs h => h.below hB, fun us hus => hus.below hB⟩⟩
  exact h0.more hb (fun j hj => .inr (hs j hj))
theorem vWriteI {P : Nat → Prop} (v : DkIn P w AV D) (hP : ∀ j, P j → j < w.heap.size) (a : Int) (B : Option Addr) (m d : Nat) (ys : List UInt8) (ha : -9223372036854775808 ≤ a ∧ a ≤ 9223372036854775807) (hd : RdB w B m d ys) : Calls Try.prog 18 #[.agg AV, .int .i64 a, .slice B m d] w (fun e w' => ∃ AV', e = .returned (.tuple #[.agg AV', .int .i64 (dkWriteE D a ys)]) ∧ DkIn P w' AV' (dkWrite D a ys) ∧ Below w.heap.size w w') := by
  obtain ⟨S, sn, sc, K, kn, kc, rfl, r, f⟩ := v
  refine (dskWriteQ_any S sn sc K kn kc D a B m d ys w r ha hd).mono ?_
  rintro e w' ⟨S2, sn2, sc2, K2, kn2, kc2, h1, h2, h3, h4⟩
  refine ⟨_, h1, ⟨S2, sn2, sc2, K2, kn2, kc2, rfl, h2, fun W hW => ?_⟩, h3⟩
  have hW2 := hW.of h3
  obtain ⟨g1, us, g2, g3⟩ := h4 W (fun j hj hj2 => hW.2.2.2.2 j hj2 (fun hp => by have := hP j hp; omega)) (f W hW2).1 (f W hW2).2
  refine ⟨g1, fun us2 hus2 => ?_⟩
  have := ws_one g2 hus2
  subst this
  exact g3
end
/-! ### Variables -/
section
variable {ops : Array Oper} {rest : List Oper} {o : Oper} {a : Act} {w : World} {Q : Exit → Act → World → Prop} {h : Nat} {AV : Array Value} {D : Dk}
theorem dk_load (hgd : o.guard = none) (x : Operand) (ho : o.op = .load 25 x) (hx : a.eval x = .pointer (some ⟨h, 0, none⟩)) (v : DkV w h AV D)
    (hK : wpList Try.prog ops Q rest (a.put o.dst (.agg AV)) w) : wpList Try.prog ops Q (o :: rest) a w :=
  wpList_load_row hgd 25 x ho h hx 25 AV (0, 0) _ v.1 Try.underlying25 rfl v.2.info hK
theorem dk_fresh (hgd : o.guard = none) (x z : Operand) (ho : o.op = .store 25 x z) (hx : a.eval x = .pointer (some ⟨h, 0, none⟩)) (hz : a.eval z = .agg AV) (w0 : World) (hw : w = w0.alloc (.cells #[.slice none 0 0, .slice none 0 0] 25)) (hh : w0.heap.size = h) (v : DkVal AV w0 D)
    (hK : ∀ X, Hid (DkV X h AV D) → Below w0.heap.size w0 X → wpList Try.prog ops Q rest (a.put o.dst undef) X) : wpList Try.prog ops Q (o :: rest) a w := by
  subst hw
  have hrow := drw_at (w := w0) (.cells #[.slice none 0 0, .slice none 0 0] 25) hh
  have hb : Below w0.heap.size w0 ((w0.alloc (.cells #[.slice none 0 0, .slice none 0 0] 25)).setRow h AV) := below_setRow ((below_self w0).alloc (Nat.le_refl _) _) (by omega) _
  exact wpList_store_row hgd 25 x z ho h _ hx hz 25 _ hrow v.info (by rw [v.size]; rfl) v.one (hK _ (Lib.hid ⟨setRow_heap _ _ _ AV _ _ hrow, v.below hb⟩) hb)
theorem dk_set (hgd : o.guard = none) (x z : Operand) (ho : o.op = .store 25 x z) (hx : a.eval x = .pointer (some ⟨h, 0, none⟩)) (hz : a.eval z = .agg AV) {BV : Array Value} {E : Dk} (hrow : w.heap[h]? = some (.cells BV 25 (0, 0))) (hB : BV.size = 2) (v : DkVal AV w D)
    (hK : wpList Try.prog ops Q rest (a.put o.dst undef) (w.setRow h AV)) : wpList Try.prog ops Q (o :: rest) a w :=
  wpList_store_row hgd 25 x z ho h _ hx hz 25 _ hrow v.info (by rw [v.size, hB]) v.one hK
end
theorem dk_run (w' : World) {w : World} {h : Nat} {AV : Array Value} {D : Dk} (v : DkV w h AV D) (hb : Below w.heap.size w w') : (loadVar 25 ⟨h, 0, none⟩).run Try.prog w' = .ok (.agg AV) w' :=
  run_loadVar_row w' h 25 25 AV (0, 0) _ (v.up hb).1 Try.underlying25 rfl v.2.info
theorem dex_load {P : Program} {o : Oper} {a : Act} {w : World} {ty : TypeId} {x : Operand} {p : Addr} {v : Value} (ho : o.op = .load ty x) (hx : a.eval x = .pointer (some p)) (hl : (loadVar ty p).run P w = .ok v w) : (execOp a.eval o).run P w = .ok (.value v) w := by
  unfold execOp
  simp only [ho, hx, Instr.loadAt, Instr.sureAddr, Sem.run_bind, Sem.run_pure, Result.andThen_ok, hl]
end Go.Proofs.Yteajboafcjeagaa
