/-
 Proved here, for the statement JournalLoads:
 Layer 3: digests (package): Of.
 Layer 3: digests (package): Link.
-/
import Derived.Test.YtpahicfnhhhifaaGreatGl12
set_option linter.unusedVariables false
set_option linter.unusedSimpArgs false
namespace Go.Proofs.YtpahicfnhhhifaaGreat
set_option maxRecDepth 20000
open Go.RowKit Go.Shelf
set_option maxHeartbeats 8000000
attribute [local go_sem] Oper.semAt_some
theorem own_lo1 {w : World} {B b o n c : Nat} {xs : List UInt8} (h : OwnB w B (some ⟨b, o, none⟩) n c xs) : B ≤ b := by
 rcases h.2 with ⟨e1, _⟩ | ⟨g', cap, cur, hv, hb, _⟩
 ·cases e1
 ·injection hv with hv; injection hv with hv; rw [Addr.mk.injEq] at hv; rw [hv.1]; exact hb
theorem rdB_block {w W : World} {b o n c : Nat} {xs : List UInt8} (h : RdB w (some ⟨b, o, none⟩) n c xs) (hs : w.heap.size ≤ W.heap.size) (hb : W.heap[b]? = w.heap[b]?) : RdB W (some ⟨b, o, none⟩) n c xs := by
 refine ⟨?_, h.2⟩
 rcases h.1 with h0 | ⟨b', o', e, hl, hc⟩
 ·exact .inl h0
 ·injection e with e
  injection e with e1 e2 e3
  subst e1 e2
  exact .inr ⟨b, o, rfl, by omega, fun i v hv => (World.cell?_of_block hb).trans (hc i v hv)⟩
def ShOfI (Bw g N : Nat) (w0 wL : World) (f : List Nat → H8) (pre : List Nat) (W : World) : Prop :=
 W.heap[g]? = some (.cells (wsV (f pre).l) 137 (0, 0)) ∧ KpX N g wL W ∧ Below Bw w0 W
theorem shOfI_own {Bw g N : Nat} {w0 wL : World} (f : List Nat → H8) (hg : g < N) (hN : N ≤ wL.heap.size) (hB : Bw ≤ N) (hw : Bw ≤ w0.heap.size) : OwnFrom N (ShOfI Bw g N w0 wL f) := by
 rintro pre A B row ⟨h1, h2, h3⟩ hgr hr
 have hA := h2.1
 refine ⟨(hgr.block g (by omega) (fun e => by have := (hr g e.symm).1; omega)).trans h1, ⟨Nat.le_trans h2.1 hgr.size, fun j hj hjg => (hgr.block j (by omega) (fun e => by have := (hr j e.symm).1; omega)).trans (h2.2 j hj hjg)⟩, ownFrom_below (β := Unit) hw hB () A B row h3 hgr hr⟩
theorem kpX_put {N g : Nat} {w : World} (hN : N ≤ w.heap.size) (W : World) (l : Nat) (o o' : Obj) (hl : w.heap.size ≤ l) (h : W.heap[l]? = some o) (_ : o.isCells = false) (_ : o.isWalk = false) : KpX N g W (W.putObj l o') :=
 ⟨by simp, fun j hj _ => World.putObj_heap_other (by omega)⟩
theorem keeps_below {W W' : World} (h : Below W.heap.size W W') : KeepsOthers W W' := ⟨h.size, fun k o hk _ => (h.block k (Array.getElem?_eq_some_iff.1 hk).1).trans hk⟩
theorem keeps_setRow (W : World) (g : Nat) (cs ds : Array Value) (T : TypeId) (hrow : W.heap[g]? = some (.cells ds T (0, 0))) : KeepsOthers W (W.setRow g cs) := by
 refine ⟨by simp, fun k o hk ho => ?_⟩
 by_cases e : k = g
 ·subst e; rw [hrow] at hk; cases hk; cases ho
 ·exact (setRow_other _ _ _ _ e).trans hk
theorem kpX_setRow (N : Nat) (W : World) (g : Nat) (cs : Array Value) : KpX N g W (W.setRow g cs) := ⟨by simp, fun j _ hj => setRow_other _ _ _ _ hj⟩
theorem kpX_below {N g : Nat} {W W' : World} (hN : N ≤ W.heap.size) (h : Below W.heap.size W W') : KpX N g W W' := ⟨h.size, fun j hj _ => h.block j (by omega)⟩
def ofF (X : H8) (b : List UInt8) (M : Nat) (pre : List Nat) : H8 := pre.foldl (fun x i => shTurn x ((b.drop (64 * (i % M))).take 64)) X
theorem ofF_snoc (X : H8) (b : List UInt8) (M : Nat) (pre : List Nat) (i : Nat) : ofF X b M (pre ++ [i]) = shTurn (ofF X b M pre) ((b.drop (64 * (i % M))).take 64) := by simp [ofF]
theorem ofF_ok {X : H8} (h : X.ok) (b : List UInt8) (M : Nat) (pre : List Nat) : (ofF X b M pre).ok := by
 unfold ofF
 induction pre generalizing X with
 | nil => exact h
 | cons i is ih => exact ih (shTurn_ok h _)
theorem ofF_range (X : H8) (b : List UInt8) (M k : Nat) (h : k ≤ M) : ofF X b M (List.range k) = shFold X b k := by
 induction k with
 | zero => rfl
 | succ k ih => rw [List.range_succ, ofF_snoc, ih (by omega), Nat.mod_eq_of_lt (by omega)]; rfl
theorem index8 (ws : List Nat) (h : ws.length = 8) (k : Nat) (hk : k < 8) (W : World) : (Instr.index 137 (.agg (wsV ws)) (.int .i64 (k : Int))).run Tryz.prog W = .ok (.int .u32 ((ws.getD k 0 : Nat) : Int)) W := by
 have hs : ∃ i, Tryz.prog.info? 28 = some i ∧ i.size = 1 := by
  have : (Tryz.prog.info? 28).map (·.size) = some 1 := by kernel_rfl
  cases hq : Tryz.prog.info? 28 with
  | none => rw [hq] at this; cases this
  | some i => rw [hq] at this; exact ⟨i, rfl, by simpa using this⟩
 obtain ⟨i, hi, hsz⟩ := hs
 have hk2 : (k : Int) < 8 := by omega
 have hg := wsV_get ws k (by omega)
 have hagg : (isAgg 28).run Tryz.prog W = .ok false W := by
  unfold isAgg
  rw [Sem.run_bind, run_underlying Tryz.underlying28 W]
  rfl
 have hg2 : (wsV ws)[k]! = .int .u32 ((ws.getD k 0 : Nat) : Int) := by
  rw [getElem!_def, hg]
 simp [Instr.index, asIntOf, run_underlying Tryz.underlying137, hk2, sizeOf, typeInfo, hi, hsz, part, hagg, hg, hg2]
 intro h9
 omega
def dgP (y : H8) (k : Nat) : List UInt8 := ((y.l.take k).flatMap fun n => beB n 4) ++ List.replicate (32 - 4 * k) 0
def dgV (y : H8) (k : Nat) : List Value := (dgP y k).map vB
theorem dgP_len (y : H8) (k : Nat) (h : k ≤ 8) : (dgP y k).length = 32 := by
 have e : ((y.l.take k).flatMap fun n => beB n 4).length = 4 * k := by
  match k, h with
  | 0, _ | 1, _ | 2, _ | 3, _ | 4, _ | 5, _ | 6, _ | 7, _ | 8, _ => simp [H8.l, beB_length]
 unfold dgP; rw [List.length_append, e, List.length_replicate]; omega
theorem dgP_step (y : H8) (k : Nat) (h : k < 8) : splice (dgP y k) (4 * k) (beB (y.l.getD k 0) 4) = dgP y (k + 1) := by
 have e : ∀ j, j ≤ 8 → ((y.l.take j).flatMap fun n => beB n 4).length = 4 * j := by
  intro j hj
  match j, hj with
  | 0, _ | 1, _ | 2, _ | 3, _ | 4, _ | 5, _ | 6, _ | 7, _ | 8, _ => simp [H8.l, beB_length]
 unfold splice
 have e1 : (dgP y k).take (4 * k) = (y.l.take k).flatMap fun n => beB n 4 := by
  unfold dgP; rw [List.take_append_of_le_length (by rw [e k (by omega)]; omega)]; exact List.take_of_length_le (by rw [e k (by omega)]; omega)
 have e2 : (dgP y k).drop (4 * k + (beB (y.l.getD k 0) 4).length) = List.replicate (32 - 4 * (k + 1)) 0 := by
  unfold dgP; rw [beB_length, List.drop_append, e k (by omega), List.drop_of_length_le (by rw [e k (by omega)]; omega), List.drop_replicate, List.nil_append]; congr 1; omega
 have e3 : y.l.take (k + 1) = y.l.take k ++ [y.l.getD k 0] := by
  rw [List.take_add_one, List.getElem?_eq_getElem (by rw [H8.len]; exact h)]
  simp [List.getD, List.getElem?_eq_getElem (show k < y.l.length by rw [H8.len]; exact h)]
 rw [e1, e2]
 unfold dgP
 rw [e3, List.flatMap_append]
 simp
theorem dgP_all (y : H8) : dgP y 8 = shDig y := by simp [dgP, shDig, H8.l]
theorem splice_map {α β : Type} (f : α → β) (L : List α) (off : Nat) (cs : List α) : splice (L.map f) off (cs.map f) = (splice L off cs).map f := by simp [splice, List.map_take, List.map_drop]
def ShOfL (W : World) (gr : Nat) (D0 : Array Value) (y : H8) (i : Value) (wr : World) : Prop :=
 ∃ k : Nat, k ≤ 8 ∧ i = .int .i64 k ∧ wr.heap[W.heap.size]? = some (.cells (dgV y k).toArray 30 (0, 0)) ∧ Below W.heap.size W wr ∧ W.heap.size < wr.heap.size
theorem rdB_src {w : World} {A : Option Addr} {n c : Nat} {xs : List UInt8} (h : RdB w A n c xs) (hn : 0 < n) : ∃ ad, A = some ad ∧ ∀ j v, (xs.map vB)[j]? = some v → w.cell? (ad.add j) = some v := by
 rcases h.1 with h0 | ⟨b, o, rfl, hl, hc⟩
 ·have := h.2.1; rw [List.map_eq_nil_iff.1 h0] at this; simp at this; omega
 ·exact ⟨_, rfl, fun j v hv => by rw [Addr.add_lit]; exact hc j v hv⟩
def dgA (D : List UInt8) : Array Value := (D.map vB).toArray
theorem dgA_size (D : List UInt8) : (dgA D).size = D.length := by simp [dgA]
theorem dgA_one (D : List UInt8) : (dgA D).all (·.oneCell') = true := by simp [dgA, vB, Value.oneCell']
theorem infoD (D : List UInt8) (h : D.length = 32) : (Tryz.prog.info? 30).map (·.size) = some (dgA D).size := by rw [dgA_size, h]; kernel_rfl
section
variable {ops : Array Oper} {rest : List Oper} {o : Oper} {a : Act} {w : World} {Q : Exit → Act → World → Prop}
theorem dig_load (hgd : o.guard = none) (x : Operand) (ho : o.op = .load 30 x) (h : Nat) (hx : a.eval x = .pointer (some ⟨h, 0, none⟩)) (D : List UInt8) (T : TypeId) (hrow : w.heap[h]? = some (.cells (dgA D) T (0, 0))) (hl : D.length = 32)
  (hK : wpList Tryz.prog ops Q rest (a.put o.dst (.agg (dgA D))) w) : wpList Tryz.prog ops Q (o :: rest) a w :=
 wpList_load_row hgd 30 x ho h hx T (dgA D) (0, 0) _ hrow Tryz.underlying30 rfl (infoD D hl) hK
theorem dig_store (hgd : o.guard = none) (x z : Operand) (ho : o.op = .store 30 x z) (h : Nat) (hx : a.eval x = .pointer (some ⟨h, 0, none⟩)) (D : List UInt8) (old : Array Value) (hz : a.eval z = .agg (dgA D)) (T : TypeId) (hrow : w.heap[h]? = some (.cells old T (0, 0))) (hl : D.length = 32) (ho2 : old.size = 32)
  (hK : wpList Tryz.prog ops Q rest (a.put o.dst undef) (w.setRow h (dgA D))) : wpList Tryz.prog ops Q (o :: rest) a w :=
 wpList_store_row hgd 30 x z ho h (dgA D) hx hz T old hrow (infoD D hl) (by rw [dgA_size, hl, ho2]) (dgA_one D) hK
end
def RetDg (w : World) (D : List UInt8) (e : Ending) (w' : World) : Prop := e = .returned (.agg (dgA D)) ∧ Below w.heap.size w w'
theorem wp_norm {P : Program} {c : Code} {Q : Exit → Act → World → Prop} {a : Act} {w : World} (h : c.wp P (Exit.then (fun a w => Q .normal a w) (fun _ _ _ => False)) a w) : c.wp P Q a w := by
 refine wp_mono h fun e a w hh => ?_
 cases e with
 | normal => exact hh
 | _ => exact False.elim hh
set_option maxRecDepth 100000 in
theorem shaOf_any (A : Option Addr) (n c : Nat) (xs : List UInt8) (w : World) (hr : RdB w A n c xs) (hn : n ≤ 1000000) : Calls Tryz.prog 66 #[.slice A n c] w (RetDg w (shOf xs)) := by
 obtain ⟨X, hX⟩ : ∃ X, shBegin = X := ⟨shBegin, rfl⟩
 have HX := Lib.hid hX
 have hXo : X.ok := hX ▸ shBegin_ok
 have HXo := Lib.hid hXo
 clear hX hXo
 obtain ⟨D0, hD0⟩ : ∃ D0 : Array Value, #[.int .u8 0, .int .u8 0, .int .u8 0, .int .u8 0, .int .u8 0, .int .u8 0, .int .u8 0, .int .u8 0, .int .u8 0, .int .u8 0, .int .u8 0, .int .u8 0, .int .u8 0, .int .u8 0, .int .u8 0, .int .u8 0, .int .u8 0, .int .u8 0, .int .u8 0, .int .u8 0, .int .u8 0, .int .u8 0, .int .u8 0, .int .u8 0, .int .u8 0, .int .u8 0, .int .u8 0, .int .u8 0, .int .u8 0, .int .u8 0, .int .u8 0, .int .u8 0] = D0 := ⟨#[.int .u8 0, .int .u8 0, .int .u8 0, .int .u8 0, .int .u8 0, .int .u8 0, .int .u8 0, .int .u8 0, .int .u8 0, .int .u8 0, .int .u8 0, .int .u8 0, .int .u8 0, .int .u8 0, .int .u8 0, .int .u8 0, .int .u8 0, .int .u8 0, .int .u8 0, .int .u8 0, .int .u8 0, .int .u8 0, .int .u8 0, .int .u8 0, .int .u8 0, .int .u8 0, .int .u8 0, .int .u8 0, .int .u8 0, .int .u8 0, .int .u8 0, .int .u8 0], rfl⟩
 have HD0 := Lib.hid hD0
 refine (callsIn_wide (n := 3)).1 ?_
 refine callsIn_of_wp_marks Tryz.func66 rfl trivial ?_ rfl
 simp only [Tryz.ntmps66, List.size_toArray, List.length_cons, List.length_nil, Nat.reduceAdd, Nat.reduceSub, Array.replicate_succ, Array.replicate_zero, List.push_toArray, List.append_toArray, List.nil_append, List.cons_append]
 refine wpIn_wide.2 ?_
 go_wp2_with fail
 refine named ?_
 intro V hV
 have bV : Below w.heap.size w V := by rw [hV]; repeat' (first | exact Below.refl _ _ | (refine Below.alloc ?_ ?_ _; rotate_left; (simp <;> omega)) | refine Below.drew ?_)
 have zV := bV.size
 have z0 : V.heap.size = w.heap.size + 1 := by rw [hV]; simp
 have R0 : V.heap[w.heap.size]? = some (.cells D0 30 (0, 0)) := by rw [hV]; exact World.alloc_heap_new w _
 have HV := Lib.hid hV
 clear hV
 have Z0 := Lib.hid z0
 clear z0
 refine (shaBegin_any V).mono ?_
 rintro e w1 ⟨rfl, hb1⟩
 rw [HX.out]
 have B1 := below_then bV hb1
 have r1 := (hb1.block w.heap.size (by have := Z0.out; omega)).trans R0
 have L1 : w.heap.size < w1.heap.size := by have := Z0.out; have := hb1.size; omega
 have RR := Lib.hid r1
 clear hb1 R0 r1
 have HZ := Lib.hid (show (w1.alloc (.cells #[.int .u32 0, .int .u32 0, .int .u32 0, .int .u32 0, .int .u32 0, .int .u32 0, .int .u32 0, .int .u32 0] 137)).heap[w1.heap.size]? = some (.cells (wsV z8) 137 (0, 0)) by rw [z8_V]; exact row1 ..)
 go_wp2_with (refine w8_store rfl _ _ rfl w1.heap.size rfl X.l z8 rfl 137 HZ.out rfl rfl ?_; obtain ⟨V1, hV⟩ : ∃ V, V = (w1.alloc (.cells #[.int .u32 0, .int .u32 0, .int .u32 0, .int .u32 0, .int .u32 0, .int .u32 0, .int .u32 0, .int .u32 0] 137)).setRow w1.heap.size (wsV X.l) := ⟨_, rfl⟩; rw [← hV]; have bV1 : Below w1.heap.size w1 V1 := (by rw [hV]; exact below_setRow ((below_self w1).alloc (Nat.le_refl _) _) (Nat.le_refl _) _); have zV1 : w1.heap.size < V1.heap.size := (by rw [hV]; simp); have HK := Lib.hid (show V1.heap[w1.heap.size]? = some (.cells (wsV X.l) 137 (0, 0)) by rw [hV]; exact setRow_heap _ _ _ (wsV X.l) _ _ HZ.out); clear hV)
 refine (shaPad_any n V1 hn).mono ?_
 rintro e w2 ⟨A2, n2, c2, rfl, ho2, hb2⟩
 obtain ⟨PD, hPD⟩ : ∃ PD, shPad n = PD := ⟨shPad n, rfl⟩
 rw [hPD] at ho2
 have HPD := Lib.hid hPD
 have hn2 : n2 ≤ 100 := by rw [← ho2.len, ← hPD, shPad_len]; omega
 clear hPD
 have z2 := hb2.size
 have B2 : Below w.heap.size w w2 := below_then B1 (below_then bV1 hb2)
 have K2 := Lib.hid ((hb2.block w1.heap.size zV1).trans HK.out)
 go_wp2_with fail
 refine named ?_
 intro W3 hW3
 have bW3 : Below w2.heap.size w2 W3 := by rw [hW3]; repeat' (first | exact Below.refl _ _ | (refine Below.alloc ?_ ?_ _; rotate_left; (simp <;> omega)) | refine Below.drew ?_)
 have zW3 := bW3.size
 have HW3 := Lib.hid hW3
 clear hW3
 have hlen : ([xs, PD] : List (List UInt8)).flatten.length ≤ 70368744177664 := by simp [hr.2.1, ho2.len]; omega
 refine (concat_any (some ⟨w2.heap.size, 0, none⟩) 2 2 [.slice A n c, .slice A2 n2 c2] [xs, PD] W3 (by rw [HW3.out]; exact Rd.new w2 #[.slice A n c, .slice A2 n2 c2] _) rfl (by omega) ⟨⟨_, _, _, rfl, (hr.below B2).below bW3⟩, ⟨_, _, _, rfl, ho2.rd.below bW3⟩, trivial⟩ hlen).mono ?_
 rintro e w4 ⟨A4, n4, c4, rfl, ho4, hb4⟩
 rw [show [xs, PD].flatten = shAll xs by rw [← HPD.out]; simp [shAll, hr.2.1]] at ho4
 have hb24 := below_then bW3 hb4
 have z4 := hb24.size
 have z34 := hb4.size
 have B4 : Below w.heap.size w w4 := below_then B2 hb24
 have K4 := Lib.hid ((hb24.block w1.heap.size (by omega)).trans K2.out)
 have R4 := Lib.hid (show w4.heap[w.heap.size]? = some (.cells D0 30 (0, 0)) from (hb24.block _ (by omega)).trans ((hb2.block _ (by omega)).trans ((bV1.block _ L1).trans RR.out)))
 clear hlen
 obtain ⟨b4, o4, u4, rfl, hb4lt, -, -⟩ := ho4.rd.at_ 0 (by have := ho4.len; have := shAll_len xs; omega)
 go_wp2_with fail
 refine (chunk_any (some ⟨b4, o4, none⟩) n4 c4 w4).mono ?_
 rintro e w5 ⟨rfl, hcs, hcn, hb5, hz5⟩
 go_wp2_with fail
 obtain ⟨M, hM⟩ : ∃ M, M = (shAll xs).length / 64 := ⟨_, rfl⟩
 have hL4 : n4 = 64 * M := by rw [hM, ← ho4.len, shAll_len]; omega
 have hM1 : 1 ≤ M := by rw [hM, shAll_len]; omega
 obtain ⟨AL, hAL⟩ : ∃ AL, shAll xs = AL := ⟨shAll xs, rfl⟩
 rw [hAL] at ho4 hM
 have HAL := Lib.hid hAL
 have hM2 := Lib.hid hM
 have HL4 := Lib.hid hL4
 clear hM hAL hL4
 have hlow : W3.heap.size ≤ b4 := own_lo1 ho4
 have hcap := ho4.rd
 have hb5s := hb5.size
 have B5 : Below w.heap.size w w5 := below_then B4 hb5
 have K5 := Lib.hid ((hb5.block w1.heap.size (by omega)).trans K4.out)
 have R5 := Lib.hid ((hb5.block w.heap.size (by omega)).trans R4.out)
 have ho5 := ho4.rd.below hb5
 refine (wpIn_wide (n := 3)).1 ?_
 refine wpIn_rangeFunc_ownF rfl (by omega) (gf := 136) (lb := #[.pointer (some ⟨w4.heap.size, 0, none⟩), .pointer (some ⟨w4.heap.size + 1, 0, none⟩)]) rfl trivial (enters_of Tryz.func136 (by kernel_rfl) rfl)
  (chunk_stops 2 w4.heap.size (w4.heap.size + 1) w5.heap.size w1.heap.size b4 o4 n4 M c4 (by omega) HL4.out ho4.rd.2.2.1 ho4.rd.c63 ⟨by omega, by omega⟩ ⟨by omega, by omega⟩ ⟨by omega, by omega⟩ w5 (Nat.le_refl _) hcs hcn) (fun h k => h.trans k) (kpX_put (Nat.le_refl _)) (Below.refl _ _) (fun _ => rfl)
  (ShOfI w.heap.size w1.heap.size w5.heap.size w w5 (ofF X AL M)) (fun _ _ _ => False) (shOfI_own _ (by omega) (Nat.le_refl _) (by omega) (Nat.le_refl _)) (fun _ _ _ _ _ hs _ _ => hs) ⟨K5.out, KpX.refl _ _ _, B5⟩
  (fun x => { tmps := #[.slice A n c, undef, .pointer (some ⟨w.heap.size, 0, none⟩), .pointer (some ⟨w1.heap.size, 0, none⟩), .slice (some ⟨b4, o4 + 64 * (x % M), none⟩) 64 64, undef, undef, undef, .agg (wsV X.l), .slice A n c, .slice A n c, .int .i64 (n : Int), .slice A2 n2 c2, .slice (some ⟨w2.heap.size, 0, none⟩) 2 2, .slice (some ⟨b4, o4, none⟩) n4 c4, .func (.func 136) #[] #[.pointer (some ⟨w4.heap.size, 0, none⟩), .pointer (some ⟨w4.heap.size + 1, 0, none⟩)], .slice (some ⟨b4, o4 + 64 * (x % M), none⟩) 64 64, undef, undef, undef, undef, undef, undef, undef, undef, undef, undef, undef, undef, undef, undef, undef, undef, undef], defers := [] }) ?assign ?body ?done ?stop
 case assign =>
  intro l x W K hK
  gi_wp2
  exact hK
 case body =>
  rintro l pre x W ⟨hrow, hk, hB⟩ hlt
  obtain ⟨Y, hY⟩ : ∃ Y, ofF X AL M pre = Y := ⟨ofF X AL M pre, rfl⟩
  have hYo : Y.ok := hY ▸ ofF_ok HXo.out AL M pre
  rw [hY] at hrow
  have hi : x % M < M := Nat.mod_lt _ (by omega)
  obtain ⟨i, hix⟩ : ∃ i, x % M = i := ⟨x % M, rfl⟩
  rw [hix] at hi
  have e1 := HL4.out
  have hrd : RdB W (some ⟨b4, o4 + 64 * i, none⟩) 64 64 ((AL.drop (64 * i)).take 64) := by
   have h1 := rdB_block ho5 hk.1 (hk.2 b4 (by omega) (by omega))
   have h2 := h1.cutS (64 * i) (n4 - 64 * i) (by omega) (by have := h1.2.2.1; omega)
   exact (h2.take 64 (by omega)).cap 64 (Nat.le_refl _) (by unfold maxLen; omega)
  have hgl : w1.heap.size < W.heap.size := by have := hk.1; omega
  have hY2 : ofF X AL M (pre ++ [x]) = shTurn Y ((AL.drop (64 * i)).take 64) := by rw [ofF_snoc, hY, hix]
  have HY2 := Lib.hid hY2
  obtain ⟨Z, hZ⟩ : ∃ Z, shTurn Y ((AL.drop (64 * i)).take 64) = Z := ⟨shTurn Y ((AL.drop (64 * i)).take 64), rfl⟩
  have HZ' := Lib.hid hZ
  have Hrow := Lib.hid hrow
  rw [hix]
  clear hY hY2 hZ hix e1 hrow
  gi_wp2_with (first
   | (refine w8_loadIn rfl _ rfl w1.heap.size rfl Y.l 137 Hrow.out rfl ?_)
   | (refine ⟨trivial, ?_⟩; gi_at_call 105; refine (CallsIn.inRound l (callsIn_wide.2 (shaTurn_any Y (some ⟨b4, o4 + 64 * i, none⟩) 64 64 ((AL.drop (64 * i)).take 64) W hYo hrd))).mono ?_; rintro e W2 ⟨rfl, hb2⟩; rw [HZ'.out]; have Hrow2 := Lib.hid ((hb2.block w1.heap.size hgl).trans Hrow.out))
   | (refine w8_storeIn rfl _ _ rfl w1.heap.size rfl Z.l Y.l rfl 137 Hrow2.out rfl rfl ?_))
  have hb2s := hb2.size
  refine ⟨(keeps_below hb2).trans (keeps_setRow _ _ _ _ _ Hrow2.out), KpX.trans (kpX_below hk.1 hb2) (kpX_setRow _ _ _ _), ?_, KpX.trans hk (KpX.trans (kpX_below hk.1 hb2) (kpX_setRow _ _ _ _)), below_setRow (below_then hB hb2) (by omega) _⟩
  rw [HY2.out, HZ'.out]
  exact setRow_heap _ _ _ (wsV Z.l) _ _ Hrow2.out
 case done =>
  rintro D ys W hD rfl ⟨hrow, hk, hB⟩ hDf
  rw [ofF_range _ _ _ _ (Nat.le_refl _)] at hrow
  obtain ⟨Y, hY⟩ : ∃ Y, shFold X AL M = Y := ⟨shFold X AL M, rfl⟩
  rw [hY] at hrow
  have Hrow := Lib.hid hrow
  have HY := Lib.hid hY
  have hYo : Y.ok := hY ▸ shFold_ok HXo.out AL M
  have R6 := Lib.hid ((hk.2 w.heap.size (by omega) (by omega)).trans R5.out)
  clear hrow hY
  have hWs := hk.1
  have hDl : D < W.heap.size := (Array.getElem?_eq_some_iff.1 hDf).1
  have Hrw := Lib.hid ((Below.heap_alloc W (.cells D0 30) w1.heap.size (by omega)).trans Hrow.out)
  go_wp2_with (refine w8_load rfl _ rfl w1.heap.size rfl Y.l 137 Hrw.out rfl ?_)
  have h0 : (W.alloc (.cells D0 30)).heap[W.heap.size]? = some (.cells (dgV Y 0).toArray 30 (0, 0)) := by
   rw [show (dgV Y 0).toArray = D0 by rw [← HD0.out]; rfl]; exact World.alloc_heap_new W _
  go_loopw [21] (ShOfL W w.heap.size D0 Y) (fun i _ => 8 - (intOf i).toNat)
  case atStart => exact ⟨0, by omega, rfl, h0, (below_self W).alloc (Nat.le_refl _) _, by simp⟩
  case round =>
   obtain ⟨k, hk8, rfl, hgd, hBr, hzr⟩ := hrel
   by_cases hlt : k < 8
   ·have ix := index8 Y.l rfl k hlt
    have k8 : (k : Int) < 8 := by omega
    have HS := Lib.hid (dgP_step Y k hlt)
    have ly := H8.l_lt hYo k
    generalize Y.l.getD k 0 = y at *
    obtain ⟨p, hp⟩ : ∃ p, p = 4 * k := ⟨4 * k, rfl⟩
    have p1 : (4 : Int) * (k : Int) = (p : Int) := by omega
    have p2 : (p : Int) ≤ 32 := by omega
    have HP := Lib.hid hp
    have HG := Lib.hid hgd
    clear hp hgd h0
    have w6 := w64n (k := y) (by omega)
    have p3 : ¬ (32 = p) := by have := HP.out; omega
    have p4 : 0 ≤ (p : Int) := by omega
    have w8 : IntKind.i64.wrap (p : Int) = (p : Int) := IntWalk.i64_in _ (by omega)
    go_wp2_with fail
    refine wp_norm ?_
    refine wp_region_last (S := fun w' => Below (W.heap.size) wr w') 6 (brw9 7 63) [(0, true), (1, true), (2, true), (3, true), (4, true), (5, false)] (by kernel_rfl) (by kernel_rfl) (fun _ _ d _ _ h => by cases d <;> exact h) ((Below.refl _ wr).drew) ?_
    iterate 5 (refine seg_take (v := ?_) rfl (Or.inl ⟨by rfl, ?_⟩) ?_; rotate_left; (focus (intro w' hw'; go_simp <;> with_reducible rfl)); try simp only [Act.put, pst3])
    refine seg_run rfl (fun K hK => ?_)
    go_simp
    refine (be_any y 4 _ (by omega)).mono ?_
    rw [show clamp 4 = 4 from rfl]
    rintro e w7 ⟨A7, n7, c7, rfl, ho7, hb7⟩
    refine hK.out _ _ ((Below.refl _ wr).drew.trans (hb7.mono (by simp; omega))) ?_
    clear hK
    try simp only [Act.put, pst3]
    refine seg_done ?_
    refine last_run rfl (fun K hK => ?_)
    have hn7 : n7 = 4 := by rw [← ho7.len, beB_length]
    subst hn7
    have B7 : Below W.heap.size wr w7 := (Below.refl _ wr).drew.trans (hb7.mono (by simp; omega))
    have G7 : w7.heap[W.heap.size]? = some (.cells (dgV Y k).toArray 30 (0, 0)) := ((undrew hb7).block _ hzr).trans HG.out
    have hp32 := HP.out
    refine step_copy_splice rfl _ _ 47 47 rfl 5 Tryz.underlying47 (by kernel_rfl) (some ⟨W.heap.size, p, none⟩) A7 (32 - p) (32 - p) 4 c7 rfl rfl W.heap.size p (dgV Y k) 30 G7 ((beB y 4).map vB) (by rw [List.length_map, beB_length]; exact (Nat.min_eq_left (by omega)).symm) (fun _ => ⟨rfl, rdB_src ho7.rd (by omega)⟩) (by simp [dgV, dgP_len Y k (by omega), beB_length]; omega) (oneCell_vB _) W.heap.size wr B7 (Nat.le_refl _) ?_
    intro w8 hr8 hb8
    refine hK.out _ _ ?_
    clear hK
    try simp only [Act.put, pst3]
    go_wp2_with fail
    go_roundw
    case rel =>
     refine ⟨k + 1, by omega, by go_num, ?_, hBr.trans hb8, by have := hb8.size; omega⟩
     have e := hr8.out
     rw [dgV, HP.out, splice_map, HS.out] at e
     exact e
    case measure => simp [intOf]; omega
   ·obtain rfl : k = 8 := by omega
    obtain ⟨DG, hDG⟩ : ∃ DG, shOf xs = DG := ⟨shOf xs, rfl⟩
    have hDl2 : DG.length = 32 := by rw [← hDG]; exact shOf_len xs
    have eDG : dgP Y 8 = DG := by rw [dgP_all, ← hDG, shOf, HAL.out, ← hM2.out, HX.out, HY.out]
    rw [dgV, eDG] at hgd
    have HDG := Lib.hid hDG
    have HG := Lib.hid (show wr.heap[W.heap.size]? = some (.cells (dgA DG) 30 (0, 0)) from hgd)
    have RG := Lib.hid ((hBr.block w.heap.size (by omega)).trans R6.out)
    have hD0s : D0.size = 32 := by rw [← HD0.out]; rfl
    have HDK := (hBr.block D hDl).trans hDf
    clear hDG eDG hgd h0 hD0
    go_wp2_with (first
     | (refine dig_load rfl _ rfl W.heap.size rfl DG 30 HG.out hDl2 ?_)
     | (refine dig_store rfl _ _ rfl w.heap.size rfl DG D0 rfl 30 RG.out hDl2 hD0s ?_))
    have hDn : D ≠ w.heap.size := by omega
    have hK' : (wr.setRow w.heap.size (dgA DG)).heap[D]? = some (.deferred (some [])) := (setRow_other _ _ _ _ hDn).trans HDK
    have hrow' : ((wr.setRow w.heap.size (dgA DG)).putObj D (.deferred none)).heap[w.heap.size]? = some (.cells (dgA DG) 30 (0, 0)) := (World.putObj_heap_other (fun e => hDn e.symm)).trans (setRow_heap _ _ _ (dgA DG) _ _ RG.out)
    refine ⟨by simp, .inl ⟨_, _, rfl, run_takeDeferred hK', ?_⟩⟩
    refine ⟨_, results_cell_row Tryz.results66 _ _ w.heap.size 30 (dgA DG) (0, 0) _ rfl hrow' Tryz.underlying30 rfl (infoD DG hDl2), ?_⟩
    rw [show shOf xs = DG from HDG.out]
    exact ⟨rfl, (below_setRow (hB.trans (hBr.mono (by omega))) (Nat.le_refl _) _).trans (belowK_b (w := w) (Nat.le_refl _) _ D _ _ (by omega) hK' rfl rfl)⟩
 case stop =>
  rintro D c pre W _ _ h _
  exact h.elim
end Go.Proofs.YtpahicfnhhhifaaGreat
namespace Go.Proofs.YtpahicfnhhhifaaGreat
set_option maxRecDepth 20000
open Go.RowKit Go.Shelf
set_option maxHeartbeats 8000000
attribute [local go_sem] Oper.semAt_some
set_option maxRecDepth 100000 in
theorem shaLink_any (D : List UInt8) (hD : D.length = 32) (A : Option Addr) (n c : Nat) (xs : List UInt8) (w : World) (hr : RdB w A n c xs) (hn : n ≤ 999000) : Calls Tryz.prog 89 #[.agg (dgA D), .slice A n c] w (RetDg w (shLink D xs)) := by
 obtain ⟨D0, hD0⟩ : ∃ D0 : Array Value, #[.int .u8 0, .int .u8 0, .int .u8 0, .int .u8 0, .int .u8 0, .int .u8 0, .int .u8 0, .int .u8 0, .int .u8 0, .int .u8 0, .int .u8 0, .int .u8 0, .int .u8 0, .int .u8 0, .int .u8 0, .int .u8 0, .int .u8 0, .int .u8 0, .int .u8 0, .int .u8 0, .int .u8 0, .int .u8 0, .int .u8 0, .int .u8 0, .int .u8 0, .int .u8 0, .int .u8 0, .int .u8 0, .int .u8 0, .int .u8 0, .int .u8 0, .int .u8 0] = D0 := ⟨#[.int .u8 0, .int .u8 0, .int .u8 0, .int .u8 0, .int .u8 0, .int .u8 0, .int .u8 0, .int .u8 0, .int .u8 0, .int .u8 0, .int .u8 0, .int .u8 0, .int .u8 0, .int .u8 0, .int .u8 0, .int .u8 0, .int .u8 0, .int .u8 0, .int .u8 0, .int .u8 0, .int .u8 0, .int .u8 0, .int .u8 0, .int .u8 0, .int .u8 0, .int .u8 0, .int .u8 0, .int .u8 0, .int .u8 0, .int .u8 0, .int .u8 0, .int .u8 0], rfl⟩
 have HD0 := Lib.hid hD0
 have hsz : (dgA D).size = 32 := by rw [dgA_size, hD]
 go_enter Tryz.func89, Tryz.ntmps89
 go_wp2_with fail
 obtain ⟨W1, hW1⟩ : ∃ W1, W1 = (w.alloc (.cells (dgA D) 30)).alloc (.cells D0 30) := ⟨_, rfl⟩
 have b1 : Below w.heap.size w W1 := by rw [hW1]; exact ((below_self w).alloc (Nat.le_refl _) _).alloc (by simp) _
 have z1 : W1.heap.size = w.heap.size + 1 + 1 := by rw [hW1]; simp
 have d1 : RdB W1 (some ⟨w.heap.size, 0, none⟩) 32 32 D := by
  rw [hW1]
  refine ⟨?_, hD, Nat.le_refl _, by simp [maxLen]⟩
  have := (Rd.new w (dgA D) 30).alloc (.cells D0 30)
  rwa [show (dgA D).toList = D.map vB by simp [dgA]] at this
 have r1 : W1.heap[w.heap.size + 1]? = some (.cells D0 30 (0, 0)) := by rw [hW1]; exact row2b ..
 have R1 := Lib.hid r1
 rw [← hW1, ← z1]
 have Z1 := Lib.hid z1
 clear hW1 r1 z1
 obtain ⟨W3, hW3⟩ : ∃ W3, W3 = W1.alloc (.cells #[.slice (some ⟨w.heap.size, 0, none⟩) 32 32, .slice A n c] 47) := ⟨_, rfl⟩
 have bW3 : Below W1.heap.size W1 W3 := by rw [hW3]; exact (below_self W1).alloc (Nat.le_refl _) _
 have hlen : ([D, xs] : List (List UInt8)).flatten.length ≤ 70368744177664 := by simp [hr.2.1, hD]; omega
 rw [← hW3]
 refine (concat_any (some ⟨W1.heap.size, 0, none⟩) 2 2 [.slice (some ⟨w.heap.size, 0, none⟩) 32 32, .slice A n c] [D, xs] W3 (by rw [hW3]; exact Rd.new W1 #[.slice (some ⟨w.heap.size, 0, none⟩) 32 32, .slice A n c] _) rfl (by omega) ⟨⟨_, _, _, rfl, d1.below bW3⟩, ⟨_, _, _, rfl, (hr.below b1).below bW3⟩, trivial⟩ hlen).mono ?_
 rintro e w4 ⟨A4, n4, c4, rfl, ho4, hb4⟩
 rw [show [D, xs].flatten = D ++ xs by simp] at ho4
 have hn4 : n4 ≤ 1000000 := by rw [← ho4.len, List.length_append, hD, hr.2.1]; omega
 clear hW3 hlen
 go_wp2_with fail
 refine (shaOf_any A4 n4 c4 (D ++ xs) w4 ho4.rd hn4).mono ?_
 rintro e w5 ⟨rfl, hb5⟩
 obtain ⟨DG, hDG⟩ : ∃ DG, shLink D xs = DG := ⟨shLink D xs, rfl⟩
 rw [show shOf (D ++ xs) = DG from hDG, hDG]
 have HDG := Lib.hid hDG
 have hDl : DG.length = 32 := by rw [← hDG]; exact shLink_len D xs
 have zz := Z1.out
 have R5 := Lib.hid ((hb5.block (w.heap.size + 1) (by have := hb4.size; have := bW3.size; omega)).trans ((hb4.block _ (by have := bW3.size; omega)).trans ((bW3.block _ (by omega)).trans R1.out)))
 have B5 : Below w.heap.size w w5 := below_then b1 (below_then bW3 (below_then hb4 hb5))
 have hD0s : D0.size = 32 := by rw [← HD0.out]; rfl
 clear hDG hD0 zz
 go_wp2_with (refine dig_store rfl _ _ rfl (w.heap.size + 1) rfl DG D0 rfl 30 R5.out hDl hD0s ?_)
 refine bodyPost_ret (results_cell_row Tryz.results89 _ _ (w.heap.size + 1) 30 (dgA DG) (0, 0) _ rfl (setRow_heap _ _ _ (dgA DG) _ _ R5.out) Tryz.underlying30 rfl (infoD DG hDl)) rfl ?_
 exact ⟨by rw [HDG.out], below_setRow B5 (by omega) _⟩
end Go.Proofs.YtpahicfnhhhifaaGreat
namespace Go.Proofs.YtpahicfnhhhifaaGreat
set_option maxRecDepth 20000
open Go.RowKit
set_option maxHeartbeats 4000000
def RetRc (w : World) (R : Rc) (er : Int) (e : Ending) (w' : World) : Prop := ∃ A n c, e = .returned (.tuple #[.agg (rcV R A n c).toArray, .int .i64 er]) ∧ RdB w' A n c R.b ∧ (0 < n → ∀ a, A = some a → w.heap.size ≤ a.block) ∧ Below w.heap.size w w'
set_option maxRecDepth 100000 in
theorem zeroRc : (#[.int .u32 0, .int .u32 0, .int .u32 0, .int .u64 0, .int .i64 0, .int .u64 0, .slice none 0 0, .int .u8 0, .int .u8 0, .int .u8 0, .int .u8 0, .int .u8 0, .int .u8 0, .int .u8 0, .int .u8 0, .int .u8 0, .int .u8 0, .int .u8 0, .int .u8 0, .int .u8 0, .int .u8 0, .int .u8 0, .int .u8 0, .int .u8 0, .int .u8 0, .int .u8 0, .int .u8 0, .int .u8 0, .int .u8 0, .int .u8 0, .int .u8 0, .int .u8 0, .int .u8 0, .int .u8 0, .int .u8 0, .int .u8 0, .int .u8 0, .int .u8 0, .int .u8 0] : Array Value) = (rcV rcZ none 0 0).toArray := by rfl
def putL : List Value → Nat → List Value → List Value
 | cs, _, [] => cs
 | cs, o, v :: r => putL (cs.set o v) (o + 1) r
theorem putL_at (vs : List Value) : ∀ a b : List Value, b.length = vs.length → putL (a ++ b) a.length vs = a ++ vs := by
 induction vs with
 | nil => intro a b h; have : b = [] := List.eq_nil_of_length_eq_zero h; subst this; simp [putL]
 | cons v r ih =>
  intro a b h
  obtain ⟨b0, b', rfl⟩ : ∃ b0 b', b = b0 :: b' := by cases b with
   | nil => simp at h
   | cons x y => exact ⟨x, y, rfl⟩
  unfold putL
  rw [List.set_append_right _ _ (Nat.le_refl _), Nat.sub_self, List.set_cons_zero]
  have := ih (a ++ [v]) b' (by simpa using h)
  simpa using this
theorem setCells_row {g : Nat} {T : TypeId} : ∀ (vs : List Value) (o : Nat) (w : World) (cs : List Value), w.heap[g]? = some (.cells cs.toArray T (0, 0)) → (w.setCells g o vs).heap[g]? = some (.cells (putL cs o vs).toArray T (0, 0))
 | [], _, _, _, h => h
 | v :: r, o, w, cs, h => by
  rw [World.setCells]
  refine setCells_row r (o + 1) _ (cs.set o v) ?_
  have := setc_rowT (i := o) (v := v) h
  rwa [List.setIfInBounds_toArray] at this
theorem setCells_below {g B : Nat} (hB : B ≤ g) : ∀ (vs : List Value) (o : Nat) (w0 w : World), Below B w0 w → Below B w0 (w.setCells g o vs)
 | [], _, _, _, h => h
 | v :: r, o, w0, w, h => by
  rw [World.setCells]
  exact setCells_below hB r (o + 1) w0 _ (h.setCell (p := ⟨g, o, none⟩) hB v)
theorem setCells_size (g : Nat) : ∀ (vs : List Value) (o : Nat) (w : World), (w.setCells g o vs).heap.size = w.heap.size
 | [], _, _ => rfl
 | v :: r, o, w => by rw [World.setCells, setCells_size g r (o + 1)]; simp [World.setCell]
theorem RcAt.there {w : World} {h : Nat} {r : Rc} {A : Option Addr} {n c : Nat} (q : RcAt w h r A n c) (hD : r.D.length = 32) : w.there h 7 32 := fun j hj => by
 refine ⟨?_, q.fr _⟩
 rw [cell_of_row w h (7 + j) _ _ _ q, List.getElem?_toArray, List.getElem?_eq_getElem (by rw [rcV_len _ _ _ _ hD]; omega)]
 rfl
theorem RcAt.setD {w : World} {h : Nat} {r : Rc} {A : Option Addr} {n c : Nat} (q : RcAt w h r A n c) (hD : r.D.length = 32) (E : List UInt8) (hE : E.length = 32) : RcAt (w.setCells h 7 (E.map vB)) h { r with D := E } A n c := by
 have := setCells_row (E.map vB) 7 w (rcV r A n c) q
 have e : putL (rcV r A n c) 7 (E.map vB) = rcV { r with D := E } A n c := putL_at (E.map vB) [.int .u32 (r.g : Int), .int .u32 (r.s : Int), .int .u32 (r.m : Int), .int .u64 (r.t : Int), .int .i64 r.k, .int .u64 (r.c : Int), .slice A n c] (r.D.map vB) (by simp [hD, hE])
 rw [e] at this
 exact this
theorem RcAt.setB {w : World} {h : Nat} {r : Rc} {A A' : Option Addr} {n c n' c' : Nat} (q : RcAt w h r A n c) (b : List UInt8) : RcAt (w.setCell ⟨h, 6, none⟩ (.slice A' n' c')) h { r with b := b } A' n' c' := (setc_rowT q).trans rfl
theorem rresults_row_tmp {P : Program} {fn : Func} {p q : Tmp} {ty : TypeId} (h : fn.results = #[.cell p ty, .tmp q]) (tmps : Array Value) (w : World) (g : Nat) (t : TypeId) (cs : Array Value) (fr : Nat × Nat) (d : TypeDesc)
  (hp : tmps.getD p undef = .pointer (some ⟨g, 0, none⟩)) (hg : w.heap[g]? = some (.cells cs t fr))
  (hu : P.underlying ty = some d) (hd : (match d with | .struct _ | .array _ _ => true | _ => false) = true) (hi : (P.info? ty).map (·.size) = some cs.size) :
  (results fn tmps).run P w = .ok (.tuple #[.agg cs, tmps.getD q undef]) w := by
 have hp' : tmps[p]?.getD undef = .pointer (some ⟨g, 0, none⟩) := by simpa using hp
 simp [results, h, hp', asAddr, run_loadVar_row w g t ty cs fr d hg hu hd hi]
section
variable {ops : Array Oper} {rest : List Oper} {o : Oper} {a : Act} {w : World} {Q : Exit → Act → World → Prop} {h : Nat} {r : Rc} {A : Option Addr} {n c : Nat}
theorem rc_load (hgd : o.guard = none) (x : Operand) (ho : o.op = .load 90 x) (hx : a.eval x = .pointer (some ⟨h, 0, none⟩)) (q : RcAt w h r A n c) (hD : r.D.length = 32)
  (hK : wpList Tryz.prog ops Q rest (a.put o.dst (.agg (rcV r A n c).toArray)) w) : wpList Tryz.prog ops Q (o :: rest) a w :=
 wpList_load_row hgd 90 x ho h hx 90 _ (0, 0) _ q Tryz.underlying90 rfl (rcInfo r A n c hD) hK
theorem rc_store (hgd : o.guard = none) (x z : Operand) (ho : o.op = .store 90 x z) (hx : a.eval x = .pointer (some ⟨h, 0, none⟩)) {r' : Rc} {A' : Option Addr} {n' c' : Nat} (hz : a.eval z = .agg (rcV r A n c).toArray) (q : RcAt w h r' A' n' c') (hD : r.D.length = 32) (hD' : r'.D.length = 32)
  (hK : wpList Tryz.prog ops Q rest (a.put o.dst undef) (w.setRow h (rcV r A n c).toArray)) : wpList Tryz.prog ops Q (o :: rest) a w :=
 wpList_store_row hgd 90 x z ho h _ hx hz 90 _ q (rcInfo r A n c hD) (by rw [List.size_toArray, List.size_toArray, rcV_len _ _ _ _ hD, rcV_len _ _ _ _ hD']) (all_oneCell_toArray (rcV_one r A n c)) hK
end
theorem RcAt.setRow {w : World} {h : Nat} {r r' : Rc} {A A' : Option Addr} {n c n' c' : Nat} (q : RcAt w h r A n c) : RcAt (w.setRow h (rcV r' A' n' c').toArray) h r' A' n' c' := setRow_heap w h _ _ _ _ q
theorem recMake_no (P : List UInt8) (hP : P.length = 32) (g s m t : Nat) (k : Int) (cl : Nat) (A : Option Addr) (n c : Nat) (b : List UInt8) (w : World) (hr : RdB w A n c b) (hchk : rcChk k cl b.length = false) :
  Calls Tryz.prog 49 #[.agg (dgA P), .int .u32 (g : Int), .int .u32 (s : Int), .int .u32 (m : Int), .agg #[.int .u64 (t : Int), .int .i64 k, .int .u64 (cl : Int), .slice A n c]] w (RetRc w rcZ 2) := by
 have hn := hr.n63
 obtain ⟨V, hV⟩ : ∃ V, V = ((w.alloc (.cells (dgA P) 30)).alloc (.cells #[.int .u64 (t : Int), .int .i64 k, .int .u64 (cl : Int), .slice A n c] 49)).alloc (.cells zz3 90) := ⟨_, rfl⟩
 have bV : Below w.heap.size w V := by rw [hV]; exact (((below_self w).alloc (Nat.le_refl _) _).alloc (by simp) _).alloc (by simp; omega) _
 have q : RcAt V (w.heap.size + 2) rcZ none 0 0 := by
  have h0 := rw_at (w := (w.alloc (.cells (dgA P) 30)).alloc (.cells #[.int .u64 (t : Int), .int .i64 k, .int .u64 (cl : Int), .slice A n c] 49)) (k := w.heap.size + 2) (.cells zz3 90) (by simp)
  rw [← hV] at h0
  exact h0.trans (congrArg (fun z => some (Obj.cells z 90 (0, 0))) zeroRc)
 have hc := recCheck_any t k cl A n c V hn
 rw [show rcChk k cl n = false by rw [← hr.2.1]; exact hchk] at hc
 have HC := Lib.hid hc
 have HV := Lib.hid hV
 have Q := Lib.hid q
 obtain ⟨DP, hDP⟩ : ∃ z, z = dgA P := ⟨_, rfl⟩
 rw [← hDP] at HV ⊢
 have HDP := Lib.hid hDP
 clear hV hc q hchk hDP
 go_enter Tryz.func49, Tryz.ntmps49
 go_wp2_with fail
 rw [← HV.out]
 refine HC.out.mono ?_
 rintro e w2 ⟨rfl, hb2⟩
 have Q2 := Lib.hid (Q.out.up hb2)
 go_wp2_with (refine rc_store rfl _ _ rfl rfl (r := rcZ) (A := none) (n := 0) (c := 0) (congrArg Value.agg zeroRc) Q2.out rcZ_ok.2.2.2.2.2.2 rcZ_ok.2.2.2.2.2.2 ?_)
 refine bodyPost_ret (rresults_row_tmp Tryz.results49 _ _ (w.heap.size + 2) 90 _ (0, 0) _ rfl (RcAt.setRow (r' := rcZ) (A' := none) (n' := 0) (c' := 0) Q2.out) Tryz.underlying90 rfl (rcInfo rcZ none 0 0 rcZ_ok.2.2.2.2.2.2)) rfl ?_
 exact ⟨none, 0, 0, rfl, RdB.nilB _, fun h => absurd h (Nat.lt_irrefl 0), below_setRow (below_then bV hb2) (by omega) _⟩
set_option maxRecDepth 100000 in
theorem rcBuilt (g s m t : Nat) (k : Int) (cl : Nat) (A : Option Addr) (n c : Nat) (b : List UInt8) (w : World) : (Instr.build 90 #[(0, .int .u32 (g : Int)), (1, .int .u32 (s : Int)), (2, .int .u32 (m : Int)), (3, .agg #[.int .u64 (t : Int), .int .i64 k, .int .u64 (cl : Int), .slice A n c])]).run Tryz.prog w = .ok (.agg (rcV ⟨g, s, m, t, k, cl, b, List.replicate 32 0⟩ A n c).toArray) w :=
 run_build w _ _ _ (by show Tryz.prog.built _ _ = some _; kernel_rfl)
theorem rex_build {P : Program} {o : Oper} {a : Act} {w : World} {ty : TypeId} {parts : Array (Nat × Operand)} {v : Value} (ho : o.op = .build ty parts) (vals : Array (Nat × Value)) (hv : (parts.toList.map fun p => (p.1, a.eval p.2)) = vals.toList) (hl : (Instr.build ty vals).run P w = .ok v w) : (execOp a.eval o).run P w = .ok (.value v) w := by
 have hv2 : (parts.map fun p => (p.1, a.eval p.2)) = vals := by
  rw [← Array.toList_inj, Array.toList_map]; exact hv
 subst hv2
 unfold execOp
 simp only [ho, Sem.run_bind, Sem.run_pure, Result.andThen_ok, hl]
theorem wpList_of_exec {P : Program} {ops : Array Oper} {rest : List Oper} {o : Oper} {a : Act} {w w' : World} {Q : Exit → Act → World → Prop} {v : Value} (hgd : o.guard = none) (h : (execOp a.eval o).run P w = .ok (.value v) w') (hK : wpList P ops Q rest (a.put o.dst v) w') : wpList P ops Q (o :: rest) a w :=
 wpList_plain hgd fun K hKK => by unfold Oper.wp; rw [h]; exact hKK _ _ hK
theorem evInfo (EV : Array Value) (h : EV.size = 4) : (Tryz.prog.info? 49).map (·.size) = some EV.size := by rw [h]; kernel_rfl
theorem recMake_yes (P : List UInt8) (hP : P.length = 32) (g s m t : Nat) (k : Int) (cl : Nat) (A : Option Addr) (n c : Nat) (b : List UInt8) (w : World) (hg : g < 4294967296) (hs : s < 4294967296) (hm : m < 4294967296) (ht : t < 18446744073709551616) (hk : -9223372036854775808 ≤ k ∧ k ≤ 9223372036854775807) (hcl : cl < 18446744073709551616) (hr : RdB w A n c b) (hchk : rcChk k cl b.length = true) :
  Calls Tryz.prog 49 #[.agg (dgA P), .int .u32 (g : Int), .int .u32 (s : Int), .int .u32 (m : Int), .agg #[.int .u64 (t : Int), .int .i64 k, .int .u64 (cl : Int), .slice A n c]] w (RetRc w (rcMk P ⟨g, s, m, t, k, cl, b, List.replicate 32 0⟩) 0) := by
 have hn := hr.n63
 have hn180 : n ≤ 180 := by have := (rcChk_len hchk).1; have := hr.2.1; omega
 obtain ⟨r0, hr0⟩ : ∃ r, r = (⟨g, s, m, t, k, cl, b, List.replicate 32 0⟩ : Rc) := ⟨_, rfl⟩
 have hok : r0.ok := by rw [hr0]; exact ⟨hg, hs, hm, ht, hk, hcl, by simp⟩
 have hck : r0.chk = true := by rw [hr0]; exact hchk
 have hb0 : r0.b = b := by rw [hr0]
 rw [← hr0]
 have hD := hok.2.2.2.2.2.2
 obtain ⟨V, hV⟩ : ∃ V, V = ((w.alloc (.cells (dgA P) 30)).alloc (.cells #[.int .u64 (t : Int), .int .i64 k, .int .u64 (cl : Int), .slice A n c] 49)).alloc (.cells zz3 90) := ⟨_, rfl⟩
 have bV : Below w.heap.size w V := by rw [hV]; exact (((below_self w).alloc (Nat.le_refl _) _).alloc (by simp) _).alloc (by simp; omega) _
 have zV : V.heap.size = w.heap.size + 3 := by rw [hV]; simp
 have qP : V.heap[w.heap.size]? = some (.cells (dgA P) 30 (0, 0)) := by rw [hV]; exact rw_old _ (rw_old _ (rw_at _ rfl))
 have qe : V.heap[w.heap.size + 1]? = some (.cells #[.int .u64 (t : Int), .int .i64 k, .int .u64 (cl : Int), .slice A n c] 49 (0, 0)) := by rw [hV]; exact rw_old _ (rw_at _ (by simp))
 have q : RcAt V (w.heap.size + 2) rcZ none 0 0 := by
  have h0 := rw_at (w := (w.alloc (.cells (dgA P) 30)).alloc (.cells #[.int .u64 (t : Int), .int .i64 k, .int .u64 (cl : Int), .slice A n c] 49)) (k := w.heap.size + 2) (.cells zz3 90) (by simp)
  rw [← hV] at h0
  exact h0.trans (congrArg (fun z => some (Obj.cells z 90 (0, 0))) zeroRc)
 have hc := recCheck_any t k cl A n c V hn
 rw [show rcChk k cl n = true by rw [← hr.2.1]; exact hchk] at hc
 have q3V := (cell_of_row V _ 3 _ _ _ qe).trans (show (#[.int .u64 (t : Int), .int .i64 k, .int .u64 (cl : Int), .slice A n c] : Array Value)[3]? = some (.slice A n c) from rfl)
 have hl1 : w.heap.size + 1 < V.heap.size := by omega
 obtain ⟨EV, hEV⟩ : ∃ z : Array Value, z = #[.int .u64 (t : Int), .int .i64 k, .int .u64 (cl : Int), .slice A n c] := ⟨_, rfl⟩
 obtain ⟨DP, hDP⟩ : ∃ z, z = dgA P := ⟨_, rfl⟩
 obtain ⟨RV, hRV⟩ : ∃ z, z = (rcV r0 A n c).toArray := ⟨_, rfl⟩
 have kb : ∀ W : World, (Instr.build 90 #[(0, .int .u32 (g : Int)), (1, .int .u32 (s : Int)), (2, .int .u32 (m : Int)), (3, .agg EV)]).run Tryz.prog W = .ok (.agg RV) W := fun W => by rw [hRV, hr0, hEV]; exact rcBuilt g s m t k cl A n c b W
 have hsz : RV.size = 39 := by rw [hRV, List.size_toArray, rcV_len _ _ _ _ hD]
 have hez : EV.size = 4 := by rw [hEV]; rfl
 rw [← hEV] at hc hV qe ⊢
 rw [← hDP] at hV ⊢
 have qeR := qe
 rw [hV] at qeR
 have HC := Lib.hid hc
 have HV := Lib.hid hV
 have Q := Lib.hid q
 have QP := Lib.hid qP
 have QE := Lib.hid qe
 have QER := Lib.hid qeR
 have ZV := Lib.hid zV
 have HDP := Lib.hid hDP
 have HRV := Lib.hid hRV
 have HR0 := Lib.hid hr0
 have HD := Lib.hid hD
 have HOK := Lib.hid hok
 have HCK := Lib.hid hck
 have HB0 := Lib.hid hb0
 have HP := Lib.hid hP
 have HEI := Lib.hid (evInfo EV hez)
 have KB := Lib.hid kb
 clear hV hc q hchk hDP hRV hr0 qP qe qeR zV hD hok hck hb0 hP hEV hez kb
 go_enter Tryz.func49, Tryz.ntmps49
 go_wp2_with (refine wpList_load_row rfl 49 _ rfl (w.heap.size + 1) rfl 49 EV (0, 0) _ QER.out Tryz.underlying49 rfl HEI.out ?_)
 rw [← HV.out]
 refine HC.out.mono ?_
 rintro e w2 ⟨rfl, hb2⟩
 obtain ⟨Z3, hZ3⟩ : ∃ Z, Z = w2.alloc (.cells zz3 90) := ⟨_, rfl⟩
 have qz : RcAt Z3 w2.heap.size rcZ none 0 0 := by
  have h0 := rw_at (w := w2) (.cells zz3 90) rfl
  rw [← hZ3] at h0
  exact h0.trans (congrArg (fun z => some (Obj.cells z 90 (0, 0))) zeroRc)
 have bz : Below w2.heap.size w2 Z3 := by rw [hZ3]; exact (below_self _).alloc (Nat.le_refl _) _
 have qe2 := Lib.hid (rw_up QE.out hb2)
 have e3 := (hb2.cell (p := ⟨w.heap.size + 1, 3, none⟩) hl1).trans q3V
 obtain ⟨W3, hW3⟩ : ∃ W, W = Z3.setRow w2.heap.size (rcV r0 A n c).toArray := ⟨_, rfl⟩
 have b3 : Below w2.heap.size w2 W3 := by rw [hW3]; exact below_setRow bz (Nat.le_refl _) _
 have q3 : RcAt W3 w2.heap.size r0 A n c := by rw [hW3]; exact qz.setRow
 have zz := ZV.out
 have z2 := hb2.size
 have e3' : (Z3.setRow w2.heap.size (rcV r0 A n c).toArray).cell? ⟨w.heap.size + 1, 3, none⟩ = some (.slice A n c) := (cell_setRow_other Z3 w2.heap.size _ ⟨w.heap.size + 1, 3, none⟩ (by show w.heap.size + 1 ≠ w2.heap.size; omega)).trans ((bz.cell (p := ⟨w.heap.size + 1, 3, none⟩) (by show w.heap.size + 1 < _; omega)).trans e3)
 have B3 := below_then (below_then bV hb2) b3
 have HW3 := Lib.hid hW3
 have Q3 := Lib.hid q3
 have HZ3 := Lib.hid hZ3
 have QZ := Lib.hid qz
 clear hZ3 qz q3V hW3 q3
 go_wp2_with (first
  | (refine wpList_load_row rfl 49 _ rfl (w.heap.size + 1) rfl 49 EV (0, 0) _ qe2.out Tryz.underlying49 rfl HEI.out ?_)
  | (refine wpList_of_exec rfl (rex_build rfl #[(0, .int .u32 (g : Int)), (1, .int .u32 (s : Int)), (2, .int .u32 (m : Int)), (3, .agg EV)] rfl (KB.out _)) ?_)
  | (rw [← HZ3.out]; refine rc_store rfl _ _ rfl rfl (r := r0) (A := A) (n := n) (c := c) (congrArg Value.agg HRV.out) QZ.out HD.out rcZ_ok.2.2.2.2.2.2 ?_))
 rw [← HW3.out]
 refine (clone_any A n c b W3 (hr.below B3) (by omega)).mono ?_
 rintro e w4 ⟨A4, n4, c4, rfl, ho4, hb4⟩
 have hn4 : n4 = n := by rw [← ho4.len, hr.2.1]
 subst hn4
 clear e3 e3'
 have q4 := Q3.out.up hb4
 have k6 := q4.c6
 have f6 := q4.fr 6
 have l2 : w2.heap.size < W3.heap.size := Q3.out.lt
 have z4 := hb4.size
 have o4 : 0 < n4 → ∀ a, A4 = some a → W3.heap.size ≤ a.block := fun h0 a e => by
  obtain ⟨g', he, h1, h2⟩ := ho4.addr h0
  rw [e] at he; injection he with he; subst he; exact h1
 have q5 := q4.setB (A' := A4) (n' := n4) (c' := c4) b
 rw [show ({ r0 with b := b } : Rc) = r0 by rw [HR0.out]] at q5
 have r5 := rd_far ho4.rd ⟨w2.heap.size, 6, none⟩ (.slice A4 n4 c4) (fun h0 a e => by have := o4 h0 a e; show a.block ≠ w2.heap.size; omega)
 obtain ⟨W5, hW5⟩ : ∃ W, W = w4.setCell ⟨w2.heap.size, 6, none⟩ (.slice A4 n4 c4) := ⟨_, rfl⟩
 have b5 : Below w2.heap.size w2 W5 := by rw [hW5]; exact ((b3.trans (hb4.mono (by omega))).setCell (p := ⟨w2.heap.size, 6, none⟩) (Nat.le_refl _) _)
 have z5 : W5.heap.size = w4.heap.size := by rw [hW5]; simp
 rw [← hW5] at q5 r5
 have B5 := below_then (below_then bV hb2) b5
 have HW5 := Lib.hid hW5
 have Q5 := Lib.hid q5
 clear hW5 q5 q4
 go_wp2_with fail
 rw [← HW5.out]
 clear k6 f6
 have qP5 := rw_up (rw_up QP.out hb2) b5
 have QP5 := Lib.hid qP5
 clear qP5
 refine wp_region_last (S := fun w' => Below W5.heap.size W5 w') 5 (brw9 6 31) [(0, true), (1, true), (2, false), (3, false), (4, true)] (by kernel_rfl) (by kernel_rfl) (fun _ _ d _ _ h => by cases d <;> exact h) ((Below.refl _ W5).drew) ?_
 refine seg_take (v := .agg (dgA P)) rfl (Or.inl ⟨by rfl, fun w' hw' => ?_⟩) ?_
 focus (exact rex_load rfl rfl (run_loadVar_row w' w.heap.size _ 30 _ _ _ (rw_up QP5.out hw') Tryz.underlying30 rfl (infoD P HP.out)))
 try simp only [Act.put, pst3]
 refine seg_take (v := .agg (rcV r0 A4 n4 c4).toArray) rfl (Or.inl ⟨by rfl, fun w' hw' => ?_⟩) ?_
 focus (exact rex_load rfl rfl (load_rc (Q5.out.up hw') HD.out))
 try simp only [Act.put, pst3]
 refine seg_run rfl (fun K hK => ?_)
 go_simp
 have HX := (Below.refl W5.heap.size W5).drew
 refine (recLinked_any r0 A4 n4 c4 _ HOK.out HCK.out (by rw [HB0.out]; exact r5.below HX)).mono ?_
 rintro e_ w6 ⟨gb, rfl, rb, lgb, hb6⟩
 have HX6 := below_then HX hb6
 refine hK.out _ _ (HX6) ?_
 clear hK
 try simp only [Act.put, pst3]
 refine seg_run rfl (fun K hK => ?_)
 go_simp
 refine (shaLink_any P HP.out _ 220 220 (rcBody r0) w6 rb (by omega)).mono ?_
 rintro e_ w7 ⟨rfl, hb7⟩
 have HX7 := below_then HX6 hb7
 obtain ⟨D9, hD9⟩ : ∃ d, d = shLink P (rcBody r0) := ⟨_, rfl⟩
 have hD9l : D9.length = 32 := by rw [hD9]; exact shLink_len _ _
 rw [← hD9]
 have HD9 := Lib.hid hD9
 clear hD9
 refine hK.out _ _ (HX7) ?_
 clear hK
 try simp only [Act.put, pst3]
 iterate 1 (refine seg_take (v := ?_) rfl (Or.inl ⟨by rfl, ?_⟩) ?_; rotate_left; (focus (intro w' hw'; go_simp <;> with_reducible rfl)); try simp only [Act.put, pst3])
 refine seg_done ?_
 refine last_run rfl (fun K hK => ?_)
 rw [if_pos (by rfl)]
 have q7 := Q5.out.up HX7
 refine wp_store_mid 30 _ _ rfl w2.heap.size 7 (dgA D9) rfl rfl (by rw [dgA_size, hD9l]; exact q7.there HD.out) (infoD D9 hD9l) (dgA_one D9) ?_
 refine hK.out _ _ ?_
 clear hK
 try simp only [Act.put, pst3]
 have q8 : RcAt (w7.setCells w2.heap.size 7 (dgA D9).toList) w2.heap.size (rcMk P r0) A4 n4 c4 := by
  have := (Q5.out.up HX7).setD HD.out D9 hD9l
  unfold rcMk
  rw [← HD9.out]
  exact this
 have B8 : Below w2.heap.size w2 (w7.setCells w2.heap.size 7 (dgA D9).toList) := setCells_below (Nat.le_refl _) _ _ _ _ (b5.trans (HX7.mono (by omega)))
 obtain ⟨W8, hW8⟩ : ∃ W, W = w7.setCells w2.heap.size 7 (dgA D9).toList := ⟨_, rfl⟩
 have r8 : RdB W8 A4 n4 c4 b := by
  have r7 := r5.below HX7
  rw [hW8]
  refine ⟨?_, r7.2⟩
  by_cases h0 : 0 < n4
  ·rcases r7.1 with h1 | ⟨bb, oo, rfl, hl, hcc⟩
   ·exact .inl h1
   ·have hne := o4 h0 _ rfl
    have hs : (w7.setCells w2.heap.size 7 (dgA D9).toList).heap.size = w7.heap.size := setCells_size _ _ _ _
    refine .inr ⟨bb, oo, rfl, by rw [hs]; exact hl, fun i v hv => ?_⟩
    rw [World.cell?_setCells_out _ _ _ _ _ (fun hb _ => absurd hb (by show bb ≠ w2.heap.size; have : W3.heap.size ≤ bb := hne; omega))]
    exact hcc i v hv
  ·left
   have := r7.2.1
   have hbz : b = [] := List.eq_nil_of_length_eq_zero (by omega)
   rw [hbz]; rfl
 rw [← hW8] at q8 B8 ⊢
 have qR8 := (B8.block (w.heap.size + 2) (by omega)).trans (rw_up Q.out hb2)
 have Q8 := Lib.hid q8
 have QR8 : Hid (RcAt W8 (w.heap.size + 2) rcZ none 0 0) := Lib.hid qR8
 have B9 := below_then (below_then bV hb2) B8
 have HMD := Lib.hid (show (rcMk P r0).D.length = 32 from shLink_len _ _)
 clear hW8 q8 qR8 hD9l
 go_wp2_with (first
  | (refine rc_load rfl _ rfl rfl Q8.out HMD.out ?_)
  | (refine rc_store rfl _ _ rfl rfl (r := rcMk P r0) (A := A4) (n := n4) (c := c4) rfl QR8.out HMD.out rcZ_ok.2.2.2.2.2.2 ?_))
 refine bodyPost_ret (rresults_row_tmp Tryz.results49 _ _ (w.heap.size + 2) 90 _ (0, 0) _ rfl (RcAt.setRow (r' := rcMk P r0) (A' := A4) (n' := n4) (c' := c4) QR8.out) Tryz.underlying90 rfl (rcInfo _ _ _ _ HMD.out)) rfl ?_
 refine ⟨A4, n4, c4, rfl, ?_, fun h0 a e => by have := o4 h0 a e; omega, below_setRow B9 (by omega) _⟩
 rw [show (rcMk P r0).b = b from HB0.out]
 exact rd_row r8 (w.heap.size + 2) _ (fun h0 a e => by have := o4 h0 a e; omega)
def rcMkR (P : List UInt8) (r : Rc) : Rc := if r.chk = true then rcMk P r else rcZ
def rcMkE (r : Rc) : Int := if r.chk = true then 0 else 2
theorem recMake_any (P : List UInt8) (hP : P.length = 32) (g s m t : Nat) (k : Int) (cl : Nat) (A : Option Addr) (n c : Nat) (b : List UInt8) (w : World) (hg : g < 4294967296) (hs : s < 4294967296) (hm : m < 4294967296) (ht : t < 18446744073709551616) (hk : -9223372036854775808 ≤ k ∧ k ≤ 9223372036854775807) (hcl : cl < 18446744073709551616) (hr : RdB w A n c b) :
  Calls Tryz.prog 49 #[.agg (dgA P), .int .u32 (g : Int), .int .u32 (s : Int), .int .u32 (m : Int), .agg #[.int .u64 (t : Int), .int .i64 k, .int .u64 (cl : Int), .slice A n c]] w (RetRc w (rcMkR P ⟨g, s, m, t, k, cl, b, List.replicate 32 0⟩) (rcMkE ⟨g, s, m, t, k, cl, b, List.replicate 32 0⟩)) := by
 unfold rcMkR rcMkE
 cases h : rcChk k cl b.length with
 | false => rw [if_neg (by unfold Rc.chk; simp [h]), if_neg (by unfold Rc.chk; simp [h])]; exact recMake_no P hP g s m t k cl A n c b w hr h
 | true => rw [if_pos (by unfold Rc.chk; exact h), if_pos (by unfold Rc.chk; exact h)]; exact recMake_yes P hP g s m t k cl A n c b w hg hs hm ht hk hcl hr h
end Go.Proofs.YtpahicfnhhhifaaGreat
namespace Go.Proofs.YtpahicfnhhhifaaGreat
set_option maxRecDepth 20000
open Go.RowKit
set_option maxHeartbeats 4000000
def RrAt (w : World) (g : Nat) (A : Option Addr) (c : Nat) (at_ : Nat) : Prop := w.heap[g]? = some (.cells #[.slice A 256 c, .int .i64 (at_ : Int)] 200 (0, 0))
theorem RrAt.c0 {w : World} {g : Nat} {A : Option Addr} {c at_ : Nat} (h : RrAt w g A c at_) : w.cell? ⟨g, 0, none⟩ = some (.slice A 256 c) := (cell_of_row w g 0 _ _ _ h).trans rfl
theorem RrAt.c1 {w : World} {g : Nat} {A : Option Addr} {c at_ : Nat} (h : RrAt w g A c at_) : w.cell? ⟨g, 1, none⟩ = some (.int .i64 (at_ : Int)) := (cell_of_row w g 1 _ _ _ h).trans rfl
theorem RrAt.fr {w : World} {g : Nat} {A : Option Addr} {c at_ : Nat} (h : RrAt w g A c at_) (i : Nat) : w.frozen? ⟨g, i, none⟩ = false := frozen_of_row _ _ i _ _ h
theorem RrAt.lt {w : World} {g : Nat} {A : Option Addr} {c at_ : Nat} (h : RrAt w g A c at_) : g < w.heap.size := (Array.getElem?_eq_some_iff.1 h).1
theorem recPart_any (g bb oo c : Nat) (xs : List UInt8) (at_ s : Nat) (w : World) (hg : RrAt w g (some ⟨bb, oo, none⟩) c at_) (hr : RdB w (some ⟨bb, oo, none⟩) 256 c xs) (ho : bb < g) (ha : at_ + s ≤ 256) :
  Calls Tryz.prog 161 #[.pointer (some ⟨g, 0, none⟩), .int .i64 (s : Int)] w fun e w' => ∃ B, e = .returned (.slice B s s) ∧ RdB w' B s s ((xs.drop at_).take s) ∧ RrAt w' g (some ⟨bb, oo, none⟩) c (at_ + s) ∧ Below g w w' ∧ Beside g w w' := by
 obtain ⟨t, ht⟩ : ∃ t, t = at_ + s := ⟨_, rfl⟩
 have hc := hr.2.2.1
 have hc63 := hr.c63
 have k0 := hg.c0
 have k1 := hg.c1
 have f1 := hg.fr 1
 have lg := hg.lt
 have ws : (at_ : Int) + (s : Int) = (t : Int) := by omega
 have wt := wi64n (k := t) (by omega)
 obtain ⟨V, hV⟩ : ∃ V, V = w.setCell ⟨g, 1, none⟩ (.int .i64 (t : Int)) := ⟨_, rfl⟩
 have gV : RrAt V g (some ⟨bb, oo, none⟩) c t := by rw [hV]; exact (setc_rowT hg).trans rfl
 have bV : Below g w V := by rw [hV]; exact (Below.refl g w).setCell (p := ⟨g, 1, none⟩) (Nat.le_refl _) _
 have rV : RdB V (some ⟨bb, oo, none⟩) 256 c xs := by rw [hV]; exact rd_far hr _ _ (fun _ a e => by cases e; show bb ≠ g; omega)
 have zV : V.heap.size = w.heap.size := by rw [hV]; simp
 have p0 := gV.c0
 have p1 := gV.c1
 have sV : Beside g w V := by rw [hV]; exact (beside_of (Below.refl _ w)).setCell _
 have HV := Lib.hid hV
 have HT := Lib.hid ht
 have GV := Lib.hid gV
 have t1 : (at_ : Int) ≤ (t : Int) := by omega
 have t2 : (t : Int) ≤ (c : Int) := by omega
 have lgV : g < V.heap.size := by omega
 clear hV ht gV hg
 go_enter Tryz.func161, Tryz.ntmps161
 go_wp2_with fail
 rw [← HV.out]
 refine wp_region_plan (S := fun w' => Below V.heap.size V w') [(0, true), (1, true), (2, true), (3, true), (4, true), (5, true), (6, true), (7, true), (8, true), (9, true), (10, true), (11, true), (12, true), (13, true), (14, true)] (by kernel_rfl) (by kernel_rfl) (fun _ _ d _ _ h => by cases d <;> exact h) ((Below.refl _ V).drew) ?_
 iterate 15 (refine plan_take (v := ?_) rfl (Or.inl ⟨by rfl, ?_⟩) ?_; rotate_left; (focus (intro w' hw'; have ja := (hw'.cell (p := ⟨g, 0, none⟩) lgV).trans p0; have jb := (hw'.cell (p := ⟨g, 1, none⟩) lgV).trans p1; go_simp <;> with_reducible rfl)); try simp only [Act.put, pst3])
 refine plan_done ?_
 go_wp2_with fail
 ·have hs0 : s = 0 := by have := HT.out; omega
  subst hs0
  go_ret
  have gv := GV.out
  rw [HT.out] at gv
  exact ⟨_, rfl, ⟨.inl (by simp), by simp, Nat.le_refl _, by simp [maxLen]⟩, gv, bV.trans ((Below.refl g V).drew), sV.trans (beside_of (Below.refl _ V).drew)⟩
 ·have hts : t - at_ = s := by have := HT.out; omega
  rw [hts]
  go_ret
  have gv := GV.out
  rw [HT.out] at gv
  have r1 := ((rV.drew).cutS at_ (256 - at_) (by have := HT.out; omega) (by have := HT.out; omega)).take s (by have := HT.out; omega)
  exact ⟨_, rfl, r1.cap s (Nat.le_refl _) (by unfold maxLen; omega), gv, bV.trans ((Below.refl g V).drew), sV.trans (beside_of (Below.refl _ V).drew)⟩
theorem recRNumber_any (g bb oo c : Nat) (xs : List UInt8) (at_ s : Nat) (w : World) (hg : RrAt w g (some ⟨bb, oo, none⟩) c at_) (hr : RdB w (some ⟨bb, oo, none⟩) 256 c xs) (ho : bb < g) (ha : at_ + s ≤ 256) (hs : s ≤ 8) :
  Calls Tryz.prog 160 #[.pointer (some ⟨g, 0, none⟩), .int .i64 (s : Int)] w fun e w' => e = .returned (.int .u64 (lev ((xs.drop at_).take s) : Nat)) ∧ RrAt w' g (some ⟨bb, oo, none⟩) c (at_ + s) ∧ Below g w w' ∧ Beside g w w' := by
 have H1 := Lib.hid (recPart_any g bb oo c xs at_ s w hg hr ho ha)
 have HF := Lib.hid (show fromLe ((xs.drop at_).take s) = lev ((xs.drop at_).take s) by unfold fromLe; rw [List.take_take, Nat.min_eq_right hs])
 obtain ⟨v, hv⟩ : ∃ v, lev ((xs.drop at_).take s) = v := ⟨_, rfl⟩
 rw [hv] at HF ⊢
 clear hg hv
 go_enter Tryz.func160, Tryz.ntmps160
 go_wp2_with fail
 refine H1.out.mono ?_
 rintro e w2 ⟨B, rfl, rB, g2, b2, s2⟩
 go_wp2_with fail
 refine (fromLe_any B s s _ w2 rB).mono ?_
 rintro e w3 ⟨rfl, rfl⟩
 rw [HF.out]
 go_wp2_with fail
 go_ret
 exact ⟨rfl, g2, b2, s2⟩
end Go.Proofs.YtpahicfnhhhifaaGreat
