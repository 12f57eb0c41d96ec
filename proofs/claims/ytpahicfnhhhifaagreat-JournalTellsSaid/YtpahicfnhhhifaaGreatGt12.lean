/-
 Proved here, for the statement JournalTells:
 Layer 3: what stands behind bytes.
 slices.Chunk at []byte, cut every 64: its walk as an iterator.
-/
import Derived.RangeFuncNested
import Derived.RangeFuncBound
import Derived.RangeFuncCalls
import Derived.RangeFuncLeaves
import Derived.RangeFuncFrom
import Derived.RangeFuncWrites
import Derived.Shelf.Abstract
import Derived.Shelf.RegionOpen
import Derived.OwnWalkIn
import Derived.TacticsInMore
import Derived.LoopNIn
import Derived.LoopIn
import Derived.Test.YtpahicfnhhhifaaGreatGt11
set_option linter.unusedVariables false
set_option linter.unusedSimpArgs false
namespace Go.Proofs.YtpahicfnhhhifaaGreat
set_option maxRecDepth 20000
open Go.RowKit
set_option maxHeartbeats 8000000
theorem wp_makeLC {ops : Array Oper} {rest : List Oper} {o : Oper} {a : Act} {w : World} {Q : Exit → Act → World → Prop} (hgd : o.guard = none) (ll cc : Operand) (ho : o.op = Op.makeSlice 47 ll cc)
  (kl kc : IntKind) (L C : Int) (l c : Nat) (hL : L = (l : Int)) (hC : C = (c : Int)) (hl : a.eval ll = .int kl L) (hc : a.eval cc = .int kc C) (hlc : l ≤ c) (hn : c ≤ 70368744177664)
  (h : ∀ w', OwnB w' w.heap.size (some ⟨w.heap.size, 0, none⟩) l c (List.replicate l 0) → Below w.heap.size w w' → wpList Tryz.prog ops Q rest (a.put o.dst (.slice (some ⟨w.heap.size, 0, none⟩) l c)) w') : wpList Tryz.prog ops Q (o :: rest) a w := by
 subst hL hC
 obtain ⟨i, hi, hz, hsz, hby⟩ := info_parts elemB.info
 have hr := run_make (P := Tryz.prog) w 47 5 i _ elemB.slice hi hz kl kc l c (by omega) (by omega) (by rw [hby]; omega) (by omega)
 simp only [Int.toNat_natCast, hsz, Nat.mul_one, show (Value.int .u8 0).cells = #[Value.int .u8 0] from rfl] at hr
 refine wpList_plain hgd fun K hK => ?_
 unfold Oper.wp
 simp [execOp, ho, hl, hc, hr, Result.andThen]
 refine hK _ _ (h _ ⟨by simp, .inr ⟨w.heap.size, c, _, rfl, Nat.le_refl _, heap_alloc_new w _, hlc, by unfold maxLen; omega, by rw [size_madeCells]; omega, ?_⟩⟩ ((below_self w).alloc (Nat.le_refl _) _))
 have e := toList_madeCells_one (Value.int .u8 0) c
 rw [e, Nat.mul_one, List.take_replicate, Nat.min_eq_left hlc, List.map_replicate]; rfl
theorem shaPad_any (n : Nat) (w : World) (h : n ≤ 1000000) : Calls Tryz.prog 104 #[.int .i64 (n : Int)] w (RetB w (shPad n)) := by
 obtain ⟨r, hr⟩ : ∃ r, r = n % 64 := ⟨_, rfl⟩
 obtain ⟨q, hq⟩ : ∃ q, q = 119 - r := ⟨_, rfl⟩
 obtain ⟨z, hz⟩ : ∃ z, z = q % 64 := ⟨_, rfl⟩
 have a1 : (n : Int) % 64 = (r : Int) := by omega
 have a2 : (119 : Int) - (r : Int) = (q : Int) := by omega
 have a3 : (q : Int) % 64 = (z : Int) := by omega
 have a4 : 8 * n < 18446744073709551616 := by omega
 have d1 : decide ((n : Int) < 0) = false := decide_eq_false (by omega)
 obtain ⟨m, hm⟩ : ∃ m, m = 8 * n := ⟨_, rfl⟩
 have hP : shPad n = [128] ++ List.replicate z 0 ++ beB (8 * n) 8 := by unfold shPad; rw [← hr, ← hq, ← hz]; simp
 rw [← hm] at hP
 have HP := Lib.hid hP
 have hm64 : m < 18446744073709551616 := by omega
 have hz64 : z < 64 := by omega
 have wn := w64n (k := n) (by omega)
 have w8 : IntKind.u64.wrap ((n : Int) * 8) = (m : Int) := by rw [IntWalk.u64_in _ (by omega)]; omega
 have w9 : (n : Int) * 8 % 18446744073709551616 = (m : Int) := by omega
 clear hP hr hq hz hm a4
 go_enter Tryz.func104, Tryz.ntmps104
 go_wp2_with (first
  | (at_builtin; refine wp_appZ rfl _ _ rfl (hb1.setCell (p := ⟨w.heap.size, 0, none⟩) (Nat.le_refl _) _) (Nat.le_refl _) (by have := hb1.size; simpa [World.setCell] using this) (some ⟨w.heap.size, 0, none⟩) 1 (1 + z + 8) [128] rfl (ho1.set_ 0 128) z .i64 _ rfl rfl (by omega) (1 + z) ([128] ++ List.replicate z 0) rfl rfl ?_; intro A4 c4 w4 ho4 hb4 hg4)
  | (refine wp_makeLC rfl _ _ rfl .i64 .i64 1 _ 1 (1 + z + 8) rfl ?_ rfl rfl (by omega) (by omega) ?_; (omega); intro w1 ho1 hb1; have f1 := ho1.free 0; have c1 := ho1.rd.cellS 0 (by omega)))
 refine (be_any m 8 w4 hm64).mono ?_
 rw [show clamp 8 = 8 from rfl]
 rintro e w5 ⟨A5, n5, c5, rfl, ho5, hb5⟩
 obtain rfl : n5 = 8 := by rw [← ho5.len, beB_length]
 have B5 := below_then hb4 hb5
 go_wp2_with (at_builtin; refine wp_appB rfl _ _ rfl B5 (Nat.le_refl _) B5.size A4 (1 + z) c4 ([128] ++ List.replicate z 0) rfl (ho4.below hb5) A5 8 c5 (beB m 8) rfl ho5.rd (by omega) (1 + z + 8) (shPad n) rfl (by rw [HP.out]) ?_; intro A6 c6 w6 ho6 hb6 hg6)
 go_ret
 exact ⟨_, _, _, rfl, ho6, hb6⟩
end Go.Proofs.YtpahicfnhhhifaaGreat
namespace Go.Proofs.YtpahicfnhhhifaaGreat
set_option maxRecDepth 20000
open Go.RowKit Go.Shelf
set_option maxHeartbeats 8000000
attribute [local go_sem] Oper.semAt_some
def KpX (n₁ g : Nat) (A B : World) : Prop := A.heap.size ≤ B.heap.size ∧ ∀ j, j < n₁ → j ≠ g → B.heap[j]? = A.heap[j]?
theorem KpX.refl (n₁ g : Nat) (A : World) : KpX n₁ g A A := ⟨Nat.le_refl _, fun _ _ _ => rfl⟩
theorem KpX.trans {n₁ g : Nat} {A B C : World} (h : KpX n₁ g A B) (k : KpX n₁ g B C) : KpX n₁ g A C := ⟨Nat.le_trans h.1 k.1, fun j hj hg => (k.2 j hj hg).trans (h.2 j hj hg)⟩
theorem KpX.cell {n₁ g : Nat} {A B : World} (h : KpX n₁ g A B) {p : Addr} (h1 : p.block < n₁) (h2 : p.block ≠ g) : B.cell? p = A.cell? p := World.cell?_of_block (h.2 _ h1 h2)
def chOff (k : Nat) : List Nat := (List.range k).map (64 * ·)
theorem chOff_succ (k : Nat) : chOff (k + 1) = chOff k ++ [64 * k] := by simp [chOff, List.range_succ]
theorem chOff_len (k : Nat) : (chOff k).length = k := by simp [chOff]
set_option maxRecDepth 100000 in
theorem chunk1_in (B n l Bs Bn n₁ g b o L M c : Nat) (hn : 1 ≤ n) (hL : L = 64 * M) (hLc : L ≤ c) (hc : c ≤ 9223372036854775807) (hb : b < n₁ ∧ b ≠ g) (hs : Bs < n₁ ∧ Bs ≠ g) (hn2 : Bn < n₁ ∧ Bn ≠ g) (J Jx : List Nat → World → Prop) (hJ : AbidesFrom B J)
  (hY : ∀ pre x W, J pre W → pre.length < M → x = 64 * pre.length → YieldAt Fence.wide (n - 1) Tryz.prog l #[.slice (some ⟨b, o + x, none⟩) 64 64] W fun e W' =>
   (e = .returned (.bool true) ∧ J (pre ++ [x]) W' ∧ KpX n₁ g W W') ∨ (e = .returned (.bool false) ∧ Jx (pre ++ [x]) W'))
  (W : World) (hBs : W.cell? ⟨Bs, 0, none⟩ = some (.slice (some ⟨b, o, none⟩) L c)) (hBn : W.cell? ⟨Bn, 0, none⟩ = some (.int .i64 64)) (h0 : J [] W) :
  CallsIn Fence.wide n Tryz.prog 136 #[.func (.yield l) #[] #[], .pointer (some ⟨Bs, 0, none⟩), .pointer (some ⟨Bn, 0, none⟩)] W fun e W' => (∃ v, e = .returned v) ∧
   ((∃ ys, ys = chOff M ∧ J ys W') ∨ (∃ pre, (∃ k, k ≤ M ∧ pre = chOff k) ∧ Jx pre W')) := by
 refine callsIn_of_wp Tryz.func136 rfl trivial ?_ rfl
 simp only [Tryz.ntmps136, List.size_toArray, List.length_cons, List.length_nil, Nat.reduceAdd, Nat.reduceSub, Array.replicate_succ, Array.replicate_zero, List.push_toArray, List.append_toArray, List.nil_append, List.cons_append]
 have HL := Lib.hid hL
 clear hL
 gi_wp2
 gi_loopw [4] (fun i wr => ∃ k p : Nat, k ≤ M ∧ p = 64 * k ∧ i = .int .i64 p ∧ J (chOff k) wr ∧ KpX n₁ g W wr)
  (fun i _ => L - (intOf i).toNat)
 case atStart => exact ⟨0, 0, Nat.zero_le _, rfl, rfl, h0, KpX.refl _ _ _⟩
 case round =>
  obtain ⟨k, p, hk, hp, rfl, hJs, hnx⟩ := hrel
  have hBs' := (hnx.cell (p := ⟨Bs, 0, none⟩) hs.1 hs.2).trans hBs
  have hBn' := (hnx.cell (p := ⟨Bn, 0, none⟩) hn2.1 hn2.2).trans hBn
  have HP := Lib.hid hp
  have hLL := HL.out
  by_cases hlt : k < M
  ·obtain ⟨fn, tmps, assign, body, hy, hR⟩ := hY _ p wr.drew (hJ _ _ wr.drew none hJs ⟨rfl, rfl, rfl, Nat.le_refl _, fun _ _ _ => rfl⟩ (fun r e => by cases e)) (by rw [chOff_len]; exact hlt) (by rw [chOff_len]; exact hp)
   obtain ⟨q, hq⟩ : ∃ q, q = p + 64 := ⟨_, rfl⟩
   have a1 : (p : Int) + 64 = (q : Int) := by omega
   have a2 : (q : Int) ≤ (c : Int) := by omega
   have a3 : (p : Int) ≤ (q : Int) := by omega
   have a4 : q - p = 64 := by omega
   have a5 : (p : Int) < (L : Int) := by omega
   have a6 : min (64 : Int) ((L - p : Nat) : Int) = 64 := by omega
   have a7 : ¬ (c = p) := by omega
   have a8 : p < L := by omega
   have a9 : (p : Int) ≤ (L : Int) := by omega
   have HQ := Lib.hid hq
   clear hp hLL hq
   gi_wp2
   gi_region
   gi_wp2
   refine hR.mono ?_
   rintro e W3 (⟨rfl, hJ3, hk3⟩ | ⟨rfl, hJx3⟩)
   ·have hnx3 : KpX n₁ g W W3 := hnx.trans (KpX.trans ⟨Nat.le_refl _, fun _ _ _ => rfl⟩ hk3)
    have hBn3 := (hnx3.cell (p := ⟨Bn, 0, none⟩) hn2.1 hn2.2).trans hBn
    gi_wp2
    go_roundw
    case rel => exact ⟨k + 1, q, by omega, by have := HP.out; have := HQ.out; omega, by simp [a1], by rw [chOff_succ, ← HP.out]; exact hJ3, hnx3⟩
    case measure => simp [intOf]; omega
   ·gi_wp2
    refine bodyPost_ret (results_none rfl _ _ _) rfl ?_
    exact ⟨⟨_, rfl⟩, .inr ⟨_, ⟨k + 1, by omega, by rw [chOff_succ, ← HP.out]⟩, hJx3⟩⟩
  ·obtain rfl : k = M := by omega
   have a5 : ¬ ((p : Int) < (L : Int)) := by omega
   clear hp hLL
   gi_wp2
   go_end0
   exact ⟨⟨_, rfl⟩, .inl hJs⟩
end Go.Proofs.YtpahicfnhhhifaaGreat
namespace Go.Proofs.YtpahicfnhhhifaaGreat
set_option maxRecDepth 20000
open Go.RowKit Go.Shelf
set_option maxHeartbeats 8000000
attribute [local go_sem] Oper.semAt_some
section
variable {F : Fence} {n : Nat} {ops : Array Oper} {rest : List Oper} {o : Oper} {a : Act} {w : World} {Q : Exit → Act → World → Prop}
theorem w8_loadIn (hgd : o.guard = none) (x : Operand) (ho : o.op = .load 137 x) (h : Nat) (hx : a.eval x = .pointer (some ⟨h, 0, none⟩)) (y : List Nat) (T : TypeId) (hrow : w.heap[h]? = some (.cells (wsV y) T (0, 0))) (hl : y.length = 8)
  (hK : wpListIn F n Tryz.prog ops Q rest (a.put o.dst (.agg (wsV y))) w) : wpListIn F n Tryz.prog ops Q (o :: rest) a w := by
 refine wpListIn_plain hgd fun K hK' => ?_
 unfold Oper.wpIn
 refine ⟨?_, ?_⟩
 ·simp [Oper.about, ho]
 ·rw [Oper.semAt_plain F _ _ (by rw [ho]; intro c hc'; cases hc')]
  have hr := run_loadVar_row (P := Tryz.prog) w h T 137 (wsV y) (0, 0) _ hrow Tryz.underlying137 rfl (info8 y hl)
  unfold execOp
  simp only [ho, hx, Instr.loadAt, Instr.sureAddr, Sem.run_bind, Sem.run_pure, Result.andThen_ok, hr]
  exact hK' _ _ hK
theorem w8_storeIn (hgd : o.guard = none) (x z : Operand) (ho : o.op = .store 137 x z) (h : Nat) (hx : a.eval x = .pointer (some ⟨h, 0, none⟩)) (y old : List Nat) (hz : a.eval z = .agg (wsV y)) (T : TypeId) (hrow : w.heap[h]? = some (.cells (wsV old) T (0, 0))) (hl : y.length = 8) (ho2 : old.length = 8)
  (hK : wpListIn F n Tryz.prog ops Q rest (a.put o.dst undef) (w.setRow h (wsV y))) : wpListIn F n Tryz.prog ops Q (o :: rest) a w := by
 refine wpListIn_plain hgd fun K hK' => ?_
 unfold Oper.wpIn
 refine ⟨?_, ?_⟩
 ·simp [Oper.about, ho]
 ·rw [Oper.semAt_plain F _ _ (by rw [ho]; intro c hc'; cases hc')]
  have hr := run_storeVar_row (P := Tryz.prog) w h T 137 (wsV old) (wsV y) hrow (info8 y hl) (by rw [wsV_size, wsV_size, hl, ho2]) (wsV_one y)
  unfold execOp
  simp only [ho, hx, hz, Instr.storeAt, Instr.sureAddr, Sem.run_bind, Sem.run_pure, Result.andThen_ok, hr]
  exact hK' _ _ hK
end
def RetCh (w : World) (A : Option Addr) (L c : Nat) (e : Ending) (w' : World) : Prop :=
 e = .returned (.func (.func 136) #[] #[.pointer (some ⟨w.heap.size, 0, none⟩), .pointer (some ⟨w.heap.size + 1, 0, none⟩)]) ∧ w'.cell? ⟨w.heap.size, 0, none⟩ = some (.slice A L c) ∧ w'.cell? ⟨w.heap.size + 1, 0, none⟩ = some (.int .i64 64) ∧ Below w.heap.size w w' ∧ w.heap.size + 1 < w'.heap.size
theorem chunk_any (A : Option Addr) (L c : Nat) (w : World) : Calls Tryz.prog 100 #[.slice A L c, .int .i64 64] w (RetCh w A L c) := by
 go_enter Tryz.func100, Tryz.ntmps100
 go_wp2
 go_ret
 exact ⟨rfl, cell_of_row _ _ 0 _ _ _ (row2a ..), cell_of_row _ _ 0 _ _ _ (row2b ..), ((below_self w).alloc (Nat.le_refl _) _).alloc (by simp) _, by simp⟩
theorem chunk_stops (n Bs Bn n₁ g b o L M c : Nat) (hn : 1 ≤ n) (hL : L = 64 * M) (hLc : L ≤ c) (hc : c ≤ 9223372036854775807) (hb : b < n₁ ∧ b ≠ g) (hs : Bs < n₁ ∧ Bs ≠ g) (hn2 : Bn < n₁ ∧ Bn ≠ g) (w : World) (hz : n₁ ≤ w.heap.size)
  (hBs : w.cell? ⟨Bs, 0, none⟩ = some (.slice (some ⟨b, o, none⟩) L c)) (hBn : w.cell? ⟨Bn, 0, none⟩ = some (.int .i64 64)) :
  SeqStopsK Fence.wide n Tryz.prog 136 #[.pointer (some ⟨Bs, 0, none⟩), .pointer (some ⟨Bn, 0, none⟩)] (fun x : Nat => #[Value.slice (some ⟨b, o + 64 * (x % M), none⟩) 64 64]) (KpX n₁ g) (fun ys => ys = List.range M) (fun pre => ∃ k, k ≤ M ∧ pre = List.range k) M w := by
 intro l J Jx W hW hJ hJx hY h0
 refine (chunk1_in W.heap.size n l Bs Bn n₁ g b o L M c hn hL hLc hc hb hs hn2 (fun ys => J (List.range ys.length)) (fun ys => Jx (List.range ys.length)) (fun s A B row h hg hr => hJ (List.range s.length) A B row h hg hr) ?_ W ((hW.cell (p := ⟨Bs, 0, none⟩) (by show Bs < _; omega)).trans hBs) ((hW.cell (p := ⟨Bn, 0, none⟩) (by show Bn < _; omega)).trans hBn) h0).mono ?_
 ·intro pre x W1 hp hl hx
  have h := hY (List.range pre.length) pre.length W1 hp (by rw [List.length_range]; exact hl)
  dsimp only at h
  rw [Nat.mod_eq_of_lt hl, ← hx] at h
  refine h.mono ?_
  intro e W2 hh
  have e1 : List.range (pre ++ [x]).length = List.range pre.length ++ [pre.length] := by simp [List.range_succ]
  rw [e1]
  exact hh
 ·rintro e W2 ⟨hv, (⟨ys, rfl, h⟩ | ⟨pre, ⟨k, hk, rfl⟩, h⟩)⟩
  ·rw [chOff_len] at h
   exact ⟨hv, .inl ⟨_, rfl, h⟩⟩
  ·rw [chOff_len] at h
   exact ⟨hv, .inr ⟨_, ⟨k, hk, rfl⟩, h⟩⟩
end Go.Proofs.YtpahicfnhhhifaaGreat
namespace Go.Proofs.YtpahicfnhhhifaaGreat
set_option maxRecDepth 20000
open Go.RowKit Go.Shelf
set_option maxHeartbeats 8000000
attribute [local go_sem] Oper.semAt_some
theorem own_lo1 {w : World} {B b o n c : Nat} {xs : List UInt8} (h : OwnB w B (some ⟨b, o, none⟩) n c xs) : B ≤ b := by
 rcases h.2 with ⟨e1, _⟩ | ⟨g', cap, cur, hv, hb, _⟩
 ·cases e1
 ·injection hv with hv; injection hv with hv; rw [Addr.mk.injEq] at hv; rw [hv.1]; exact hb
theorem rdB_block {w W : World} {b o n c : Nat} {xs : List UInt8} (h : RdB w (some ⟨b, o, none⟩) n c xs) (hs : w.heap.size ≤ W.heap.size) (hb : W.heap[b]? = w.heap[b]?) : RdB W (some ⟨b, o, none⟩) n c xs := by
 refine ⟨?_, h.2⟩
 rcases h.1 with h0 | ⟨b', o', e, hl, hc⟩
 ·exact .inl h0
 ·injection e with e
  injection e with e1 e2 e3
  subst e1 e2
  exact .inr ⟨b, o, rfl, by omega, fun i v hv => (World.cell?_of_block hb).trans (hc i v hv)⟩
def ShOfI (Bw g N : Nat) (w0 wL : World) (f : List Nat → H8) (pre : List Nat) (W : World) : Prop :=
 W.heap[g]? = some (.cells (wsV (f pre).l) 137 (0, 0)) ∧ KpX N g wL W ∧ Below Bw w0 W
theorem shOfI_own {Bw g N : Nat} {w0 wL : World} (f : List Nat → H8) (hg : g < N) (hN : N ≤ wL.heap.size) (hB : Bw ≤ N) (hw : Bw ≤ w0.heap.size) : OwnFrom N (ShOfI Bw g N w0 wL f) := by
 rintro pre A B row ⟨h1, h2, h3⟩ hgr hr
 have hA := h2.1
 refine ⟨(hgr.block g (by omega) (fun e => by have := (hr g e.symm).1; omega)).trans h1, ⟨Nat.le_trans h2.1 hgr.size, fun j hj hjg => (hgr.block j (by omega) (fun e => by have := (hr j e.symm).1; omega)).trans (h2.2 j hj hjg)⟩, ownFrom_below (β := Unit) hw hB () A B row h3 hgr hr⟩
theorem kpX_put {N g : Nat} {w : World} (hN : N ≤ w.heap.size) (W : World) (l : Nat) (o o' : Obj) (hl : w.heap.size ≤ l) (h : W.heap[l]? = some o) (_ : o.isCells = false) (_ : o.isWalk = false) : KpX N g W (W.putObj l o') :=
 ⟨by simp, fun j hj _ => World.putObj_heap_other (by omega)⟩
theorem keeps_below {W W' : World} (h : Below W.heap.size W W') : KeepsOthers W W' := ⟨h.size, fun k o hk _ => (h.block k (Array.getElem?_eq_some_iff.1 hk).1).trans hk⟩
theorem keeps_setRow (W : World) (g : Nat) (cs ds : Array Value) (T : TypeId) (hrow : W.heap[g]? = some (.cells ds T (0, 0))) : KeepsOthers W (W.setRow g cs) := by
 refine ⟨by simp, fun k o hk ho => ?_⟩
 by_cases e : k = g
 ·subst e; rw [hrow] at hk; cases hk; cases ho
 ·exact (setRow_other _ _ _ _ e).trans hk
theorem kpX_setRow (N : Nat) (W : World) (g : Nat) (cs : Array Value) : KpX N g W (W.setRow g cs) := ⟨by simp, fun j _ hj => setRow_other _ _ _ _ hj⟩
theorem kpX_below {N g : Nat} {W W' : World} (hN : N ≤ W.heap.size) (h : Below W.heap.size W W') : KpX N g W W' := ⟨h.size, fun j hj _ => h.block j (by omega)⟩
def ofF (X : H8) (b : List UInt8) (M : Nat) (pre : List Nat) : H8 := pre.foldl (fun x i => shTurn x ((b.drop (64 * (i % M))).take 64)) X
theorem ofF_snoc (X : H8) (b : List UInt8) (M : Nat) (pre : List Nat) (i : Nat) : ofF X b M (pre ++ [i]) = shTurn (ofF X b M pre) ((b.drop (64 * (i % M))).take 64) := by simp [ofF]
theorem ofF_ok {X : H8} (h : X.ok) (b : List UInt8) (M : Nat) (pre : List Nat) : (ofF X b M pre).ok := by
 unfold ofF
 induction pre generalizing X with
 | nil => exact h
 | cons i is ih => exact ih (shTurn_ok h _)
theorem ofF_range (X : H8) (b : List UInt8) (M k : Nat) (h : k ≤ M) : ofF X b M (List.range k) = shFold X b k := by
 induction k with
 | zero => rfl
 | succ k ih => rw [List.range_succ, ofF_snoc, ih (by omega), Nat.mod_eq_of_lt (by omega)]; rfl
theorem index8 (ws : List Nat) (h : ws.length = 8) (k : Nat) (hk : k < 8) (W : World) : (Instr.index 137 (.agg (wsV ws)) (.int .i64 (k : Int))).run Tryz.prog W = .ok (.int .u32 ((ws.getD k 0 : Nat) : Int)) W := by
 have hs : ∃ i, Tryz.prog.info? 28 = some i ∧ i.size = 1 := by
  have : (Tryz.prog.info? 28).map (·.size) = some 1 := by kernel_rfl
  cases hq : Tryz.prog.info? 28 with
  | none => rw [hq] at this; cases this
  | some i => rw [hq] at this; exact ⟨i, rfl, by simpa using this⟩
 obtain ⟨i, hi, hsz⟩ := hs
 have hk2 : (k : Int) < 8 := by omega
 have hg := wsV_get ws k (by omega)
 have hagg : (isAgg 28).run Tryz.prog W = .ok false W := by
  unfold isAgg
  rw [Sem.run_bind, run_underlying Tryz.underlying28 W]
  rfl
 have hg2 : (wsV ws)[k]! = .int .u32 ((ws.getD k 0 : Nat) : Int) := by
  rw [getElem!_def, hg]
 simp [Instr.index, asIntOf, run_underlying Tryz.underlying137, hk2, sizeOf, typeInfo, hi, hsz, part, hagg, hg, hg2]
 intro h9
 omega
def dgP (y : H8) (k : Nat) : List UInt8 := ((y.l.take k).flatMap fun n => beB n 4) ++ List.replicate (32 - 4 * k) 0
def dgV (y : H8) (k : Nat) : List Value := (dgP y k).map vB
theorem dgP_len (y : H8) (k : Nat) (h : k ≤ 8) : (dgP y k).length = 32 := by
 have e : ((y.l.take k).flatMap fun n => beB n 4).length = 4 * k := by
  match k, h with
  | 0, _ | 1, _ | 2, _ | 3, _ | 4, _ | 5, _ | 6, _ | 7, _ | 8, _ => simp [H8.l, beB_length]
 unfold dgP; rw [List.length_append, e, List.length_replicate]; omega
theorem dgP_step (y : H8) (k : Nat) (h : k < 8) : splice (dgP y k) (4 * k) (beB (y.l.getD k 0) 4) = dgP y (k + 1) := by
 have e : ∀ j, j ≤ 8 → ((y.l.take j).flatMap fun n => beB n 4).length = 4 * j := by
  intro j hj
  match j, hj with
  | 0, _ | 1, _ | 2, _ | 3, _ | 4, _ | 5, _ | 6, _ | 7, _ | 8, _ => simp [H8.l, beB_length]
 unfold splice
 have e1 : (dgP y k).take (4 * k) = (y.l.take k).flatMap fun n => beB n 4 := by
  unfold dgP; rw [List.take_append_of_le_length (by rw [e k (by omega)]; omega)]; exact List.take_of_length_le (by rw [e k (by omega)]; omega)
 have e2 : (dgP y k).drop (4 * k + (beB (y.l.getD k 0) 4).length) = List.replicate (32 - 4 * (k + 1)) 0 := by
  unfold dgP; rw [beB_length, List.drop_append, e k (by omega), List.drop_of_length_le (by rw [e k (by omega)]; omega), List.drop_replicate, List.nil_append]; congr 1; omega
 have e3 : y.l.take (k + 1) = y.l.take k ++ [y.l.getD k 0] := by
  rw [List.take_add_one, List.getElem?_eq_getElem (by rw [H8.len]; exact h)]
  simp [List.getD, List.getElem?_eq_getElem (show k < y.l.length by rw [H8.len]; exact h)]
 rw [e1, e2]
 unfold dgP
 rw [e3, List.flatMap_append]
 simp
theorem dgP_all (y : H8) : dgP y 8 = shDig y := by simp [dgP, shDig, H8.l]
theorem splice_map {α β : Type} (f : α → β) (L : List α) (off : Nat) (cs : List α) : splice (L.map f) off (cs.map f) = (splice L off cs).map f := by simp [splice, List.map_take, List.map_drop]
def ShOfL (W : World) (gr : Nat) (D0 : Array Value) (y : H8) (i : Value) (wr : World) : Prop :=
 ∃ k : Nat, k ≤ 8 ∧ i = .int .i64 k ∧ wr.heap[W.heap.size]? = some (.cells (dgV y k).toArray 30 (0, 0)) ∧ Below W.heap.size W wr ∧ W.heap.size < wr.heap.size
theorem rdB_src {w : World} {A : Option Addr} {n c : Nat} {xs : List UInt8} (h : RdB w A n c xs) (hn : 0 < n) : ∃ ad, A = some ad ∧ ∀ j v, (xs.map vB)[j]? = some v → w.cell? (ad.add j) = some v := by
 rcases h.1 with h0 | ⟨b, o, rfl, hl, hc⟩
 ·have := h.2.1; rw [List.map_eq_nil_iff.1 h0] at this; simp at this; omega
 ·exact ⟨_, rfl, fun j v hv => by rw [Addr.add_lit]; exact hc j v hv⟩
def dgA (D : List UInt8) : Array Value := (D.map vB).toArray
theorem dgA_size (D : List UInt8) : (dgA D).size = D.length := by simp [dgA]
theorem dgA_one (D : List UInt8) : (dgA D).all (·.oneCell') = true := by simp [dgA, vB, Value.oneCell']
theorem infoD (D : List UInt8) (h : D.length = 32) : (Tryz.prog.info? 30).map (·.size) = some (dgA D).size := by rw [dgA_size, h]; kernel_rfl
section
variable {ops : Array Oper} {rest : List Oper} {o : Oper} {a : Act} {w : World} {Q : Exit → Act → World → Prop}
theorem dig_load (hgd : o.guard = none) (x : Operand) (ho : o.op = .load 30 x) (h : Nat) (hx : a.eval x = .pointer (some ⟨h, 0, none⟩)) (D : List UInt8) (T : TypeId) (hrow : w.heap[h]? = some (.cells (dgA D) T (0, 0))) (hl : D.length = 32)
  (hK : wpList Tryz.prog ops Q rest (a.put o.dst (.agg (dgA D))) w) : wpList Tryz.prog ops Q (o :: rest) a w :=
 wpList_load_row hgd 30 x ho h hx T (dgA D) (0, 0) _ hrow Tryz.underlying30 rfl (infoD D hl) hK
theorem dig_store (hgd : o.guard = none) (x z : Operand) (ho : o.op = .store 30 x z) (h : Nat) (hx : a.eval x = .pointer (some ⟨h, 0, none⟩)) (D : List UInt8) (old : Array Value) (hz : a.eval z = .agg (dgA D)) (T : TypeId) (hrow : w.heap[h]? = some (.cells old T (0, 0))) (hl : D.length = 32) (ho2 : old.size = 32)
  (hK : wpList Tryz.prog ops Q rest (a.put o.dst undef) (w.setRow h (dgA D))) : wpList Tryz.prog ops Q (o :: rest) a w :=
 wpList_store_row hgd 30 x z ho h (dgA D) hx hz T old hrow (infoD D hl) (by rw [dgA_size, hl, ho2]) (dgA_one D) hK
end
def RetDg (w : World) (D : List UInt8) (e : Ending) (w' : World) : Prop := e = .returned (.agg (dgA D)) ∧ Below w.heap.size w w'
theorem wp_norm {P : Program} {c : Code} {Q : Exit → Act → World → Prop} {a : Act} {w : World} (h : c.wp P (Exit.then (fun a w => Q .normal a w) (fun _ _ _ => False)) a w) : c.wp P Q a w := by
 refine wp_mono h fun e a w hh => ?_
 cases e with
 | normal => exact hh
 | _ => exact False.elim hh
set_option maxRecDepth 100000 in
theorem shaOf_any (A : Option Addr) (n c : Nat) (xs : List UInt8) (w : World) (hr : RdB w A n c xs) (hn : n ≤ 1000000) : Calls Tryz.prog 66 #[.slice A n c] w (RetDg w (shOf xs)) := by
 obtain ⟨X, hX⟩ : ∃ X, shBegin = X := ⟨shBegin, rfl⟩
 have HX := Lib.hid hX
 have hXo : X.ok := hX ▸ shBegin_ok
 have HXo := Lib.hid hXo
 clear hX hXo
 obtain ⟨D0, hD0⟩ : ∃ D0 : Array Value, #[.int .u8 0, .int .u8 0, .int .u8 0, .int .u8 0, .int .u8 0, .int .u8 0, .int .u8 0, .int .u8 0, .int .u8 0, .int .u8 0, .int .u8 0, .int .u8 0, .int .u8 0, .int .u8 0, .int .u8 0, .int .u8 0, .int .u8 0, .int .u8 0, .int .u8 0, .int .u8 0, .int .u8 0, .int .u8 0, .int .u8 0, .int .u8 0, .int .u8 0, .int .u8 0, .int .u8 0, .int .u8 0, .int .u8 0, .int .u8 0, .int .u8 0, .int .u8 0] = D0 := ⟨#[.int .u8 0, .int .u8 0, .int .u8 0, .int .u8 0, .int .u8 0, .int .u8 0, .int .u8 0, .int .u8 0, .int .u8 0, .int .u8 0, .int .u8 0, .int .u8 0, .int .u8 0, .int .u8 0, .int .u8 0, .int .u8 0, .int .u8 0, .int .u8 0, .int .u8 0, .int .u8 0, .int .u8 0, .int .u8 0, .int .u8 0, .int .u8 0, .int .u8 0, .int .u8 0, .int .u8 0, .int .u8 0, .int .u8 0, .int .u8 0, .int .u8 0, .int .u8 0], rfl⟩
 have HD0 := Lib.hid hD0
 refine (callsIn_wide (n := 3)).1 ?_
 refine callsIn_of_wp_marks Tryz.func66 rfl trivial ?_ rfl
 simp only [Tryz.ntmps66, List.size_toArray, List.length_cons, List.length_nil, Nat.reduceAdd, Nat.reduceSub, Array.replicate_succ, Array.replicate_zero, List.push_toArray, List.append_toArray, List.nil_append, List.cons_append]
 refine wpIn_wide.2 ?_
 go_wp2_with fail
 refine named ?_
 intro V hV
 have bV : Below w.heap.size w V := by rw [hV]; repeat' (first | exact Below.refl _ _ | (refine Below.alloc ?_ ?_ _; rotate_left; (simp <;> omega)) | refine Below.drew ?_)
 have zV := bV.size
 have z0 : V.heap.size = w.heap.size + 1 := by rw [hV]; simp
 have R0 : V.heap[w.heap.size]? = some (.cells D0 30 (0, 0)) := by rw [hV]; exact World.alloc_heap_new w _
 have HV := Lib.hid hV
 clear hV
 have Z0 := Lib.hid z0
 clear z0
 refine (shaBegin_any V).mono ?_
 rintro e w1 ⟨rfl, hb1⟩
 rw [HX.out]
 have B1 := below_then bV hb1
 have r1 := (hb1.block w.heap.size (by have := Z0.out; omega)).trans R0
 have L1 : w.heap.size < w1.heap.size := by have := Z0.out; have := hb1.size; omega
 have RR := Lib.hid r1
 clear hb1 R0 r1
 have HZ := Lib.hid (show (w1.alloc (.cells #[.int .u32 0, .int .u32 0, .int .u32 0, .int .u32 0, .int .u32 0, .int .u32 0, .int .u32 0, .int .u32 0] 137)).heap[w1.heap.size]? = some (.cells (wsV z8) 137 (0, 0)) by rw [z8_V]; exact row1 ..)
 go_wp2_with (refine w8_store rfl _ _ rfl w1.heap.size rfl X.l z8 rfl 137 HZ.out rfl rfl ?_; obtain ⟨V1, hV⟩ : ∃ V, V = (w1.alloc (.cells #[.int .u32 0, .int .u32 0, .int .u32 0, .int .u32 0, .int .u32 0, .int .u32 0, .int .u32 0, .int .u32 0] 137)).setRow w1.heap.size (wsV X.l) := ⟨_, rfl⟩; rw [← hV]; have bV1 : Below w1.heap.size w1 V1 := (by rw [hV]; exact below_setRow ((below_self w1).alloc (Nat.le_refl _) _) (Nat.le_refl _) _); have zV1 : w1.heap.size < V1.heap.size := (by rw [hV]; simp); have HK := Lib.hid (show V1.heap[w1.heap.size]? = some (.cells (wsV X.l) 137 (0, 0)) by rw [hV]; exact setRow_heap _ _ _ (wsV X.l) _ _ HZ.out); clear hV)
 refine (shaPad_any n V1 hn).mono ?_
 rintro e w2 ⟨A2, n2, c2, rfl, ho2, hb2⟩
 obtain ⟨PD, hPD⟩ : ∃ PD, shPad n = PD := ⟨shPad n, rfl⟩
 rw [hPD] at ho2
 have HPD := Lib.hid hPD
 have hn2 : n2 ≤ 100 := by rw [← ho2.len, ← hPD, shPad_len]; omega
 clear hPD
 have z2 := hb2.size
 have B2 : Below w.heap.size w w2 := below_then B1 (below_then bV1 hb2)
 have K2 := Lib.hid ((hb2.block w1.heap.size zV1).trans HK.out)
 go_wp2_with fail
 refine named ?_
 intro W3 hW3
 have bW3 : Below w2.heap.size w2 W3 := by rw [hW3]; repeat' (first | exact Below.refl _ _ | (refine Below.alloc ?_ ?_ _; rotate_left; (simp <;> omega)) | refine Below.drew ?_)
 have zW3 := bW3.size
 have HW3 := Lib.hid hW3
 clear hW3
 have hlen : ([xs, PD] : List (List UInt8)).flatten.length ≤ 70368744177664 := by simp [hr.2.1, ho2.len]; omega
 refine (concat_any (some ⟨w2.heap.size, 0, none⟩) 2 2 [.slice A n c, .slice A2 n2 c2] [xs, PD] W3 (by rw [HW3.out]; exact Rd.new w2 #[.slice A n c, .slice A2 n2 c2] _) rfl (by omega) ⟨⟨_, _, _, rfl, (hr.below B2).below bW3⟩, ⟨_, _, _, rfl, ho2.rd.below bW3⟩, trivial⟩ hlen).mono ?_
 rintro e w4 ⟨A4, n4, c4, rfl, ho4, hb4⟩
 rw [show [xs, PD].flatten = shAll xs by rw [← HPD.out]; simp [shAll, hr.2.1]] at ho4
 have hb24 := below_then bW3 hb4
 have z4 := hb24.size
 have z34 := hb4.size
 have B4 : Below w.heap.size w w4 := below_then B2 hb24
 have K4 := Lib.hid ((hb24.block w1.heap.size (by omega)).trans K2.out)
 have R4 := Lib.hid (show w4.heap[w.heap.size]? = some (.cells D0 30 (0, 0)) from (hb24.block _ (by omega)).trans ((hb2.block _ (by omega)).trans ((bV1.block _ L1).trans RR.out)))
 clear hlen
 obtain ⟨b4, o4, u4, rfl, hb4lt, -, -⟩ := ho4.rd.at_ 0 (by have := ho4.len; have := shAll_len xs; omega)
 go_wp2_with fail
 refine (chunk_any (some ⟨b4, o4, none⟩) n4 c4 w4).mono ?_
 rintro e w5 ⟨rfl, hcs, hcn, hb5, hz5⟩
 go_wp2_with fail
 obtain ⟨M, hM⟩ : ∃ M, M = (shAll xs).length / 64 := ⟨_, rfl⟩
 have hL4 : n4 = 64 * M := by rw [hM, ← ho4.len, shAll_len]; omega
 have hM1 : 1 ≤ M := by rw [hM, shAll_len]; omega
 obtain ⟨AL, hAL⟩ : ∃ AL, shAll xs = AL := ⟨shAll xs, rfl⟩
 rw [hAL] at ho4 hM
 have HAL := Lib.hid hAL
 have hM2 := Lib.hid hM
 have HL4 := Lib.hid hL4
 clear hM hAL hL4
 have hlow : W3.heap.size ≤ b4 := own_lo1 ho4
 have hcap := ho4.rd
 have hb5s := hb5.size
 have B5 : Below w.heap.size w w5 := below_then B4 hb5
 have K5 := Lib.hid ((hb5.block w1.heap.size (by omega)).trans K4.out)
 have R5 := Lib.hid ((hb5.block w.heap.size (by omega)).trans R4.out)
 have ho5 := ho4.rd.below hb5
 refine (wpIn_wide (n := 3)).1 ?_
 refine wpIn_rangeFunc_ownF rfl (by omega) (gf := 136) (lb := #[.pointer (some ⟨w4.heap.size, 0, none⟩), .pointer (some ⟨w4.heap.size + 1, 0, none⟩)]) rfl trivial (enters_of Tryz.func136 (by kernel_rfl) rfl)
  (chunk_stops 2 w4.heap.size (w4.heap.size + 1) w5.heap.size w1.heap.size b4 o4 n4 M c4 (by omega) HL4.out ho4.rd.2.2.1 ho4.rd.c63 ⟨by omega, by omega⟩ ⟨by omega, by omega⟩ ⟨by omega, by omega⟩ w5 (Nat.le_refl _) hcs hcn) (fun h k => h.trans k) (kpX_put (Nat.le_refl _)) (Below.refl _ _) (fun _ => rfl)
  (ShOfI w.heap.size w1.heap.size w5.heap.size w w5 (ofF X AL M)) (fun _ _ _ => False) (shOfI_own _ (by omega) (Nat.le_refl _) (by omega) (Nat.le_refl _)) (fun _ _ _ _ _ hs _ _ => hs) ⟨K5.out, KpX.refl _ _ _, B5⟩
  (fun x => { tmps := #[.slice A n c, undef, .pointer (some ⟨w.heap.size, 0, none⟩), .pointer (some ⟨w1.heap.size, 0, none⟩), .slice (some ⟨b4, o4 + 64 * (x % M), none⟩) 64 64, undef, undef, undef, .agg (wsV X.l), .slice A n c, .slice A n c, .int .i64 (n : Int), .slice A2 n2 c2, .slice (some ⟨w2.heap.size, 0, none⟩) 2 2, .slice (some ⟨b4, o4, none⟩) n4 c4, .func (.func 136) #[] #[.pointer (some ⟨w4.heap.size, 0, none⟩), .pointer (some ⟨w4.heap.size + 1, 0, none⟩)], .slice (some ⟨b4, o4 + 64 * (x % M), none⟩) 64 64, undef, undef, undef, undef, undef, undef, undef, undef, undef, undef, undef, undef, undef, undef, undef, undef, undef], defers := [] }) ?assign ?body ?done ?stop
 case assign =>
  intro l x W K hK
  gi_wp2
  exact hK
 case body =>
  rintro l pre x W ⟨hrow, hk, hB⟩ hlt
  obtain ⟨Y, hY⟩ : ∃ Y, ofF X AL M pre = Y := ⟨ofF X AL M pre, rfl⟩
  have hYo : Y.ok := hY ▸ ofF_ok HXo.out AL M pre
  rw [hY] at hrow
  have hi : x % M < M := Nat.mod_lt _ (by omega)
  obtain ⟨i, hix⟩ : ∃ i, x % M = i := ⟨x % M, rfl⟩
  rw [hix] at hi
  have e1 := HL4.out
  have hrd : RdB W (some ⟨b4, o4 + 64 * i, none⟩) 64 64 ((AL.drop (64 * i)).take 64) := by
   have h1 := rdB_block ho5 hk.1 (hk.2 b4 (by omega) (by omega))
   have h2 := h1.cutS (64 * i) (n4 - 64 * i) (by omega) (by have := h1.2.2.1; omega)
   exact (h2.take 64 (by omega)).cap 64 (Nat.le_refl _) (by unfold maxLen; omega)
  have hgl : w1.heap.size < W.heap.size := by have := hk.1; omega
  have hY2 : ofF X AL M (pre ++ [x]) = shTurn Y ((AL.drop (64 * i)).take 64) := by rw [ofF_snoc, hY, hix]
  have HY2 := Lib.hid hY2
  obtain ⟨Z, hZ⟩ : ∃ Z, shTurn Y ((AL.drop (64 * i)).take 64) = Z := ⟨shTurn Y ((AL.drop (64 * i)).take 64), rfl⟩
  have HZ' := Lib.hid hZ
  have Hrow := Lib.hid hrow
  rw [hix]
  clear hY hY2 hZ hix e1 hrow
  gi_wp2_with (first
   | (refine w8_loadIn rfl _ rfl w1.heap.size rfl Y.l 137 Hrow.out rfl ?_)
   | (refine ⟨trivial, ?_⟩; gi_at_call 105; refine (CallsIn.inRound l (callsIn_wide.2 (shaTurn_any Y (some ⟨b4, o4 + 64 * i, none⟩) 64 64 ((AL.drop (64 * i)).take 64) W hYo hrd))).mono ?_; rintro e W2 ⟨rfl, hb2⟩; rw [HZ'.out]; have Hrow2 := Lib.hid ((hb2.block w1.heap.size hgl).trans Hrow.out))
   | (refine w8_storeIn rfl _ _ rfl w1.heap.size rfl Z.l Y.l rfl 137 Hrow2.out rfl rfl ?_))
  have hb2s := hb2.size
  refine ⟨(keeps_below hb2).trans (keeps_setRow _ _ _ _ _ Hrow2.out), KpX.trans (kpX_below hk.1 hb2) (kpX_setRow _ _ _ _), ?_, KpX.trans hk (KpX.trans (kpX_below hk.1 hb2) (kpX_setRow _ _ _ _)), below_setRow (below_then hB hb2) (by omega) _⟩
  rw [HY2.out, HZ'.out]
  exact setRow_heap _ _ _ (wsV Z.l) _ _ Hrow2.out
 case done =>
  rintro D ys W hD rfl ⟨hrow, hk, hB⟩ hDf
  rw [ofF_range _ _ _ _ (Nat.le_refl _)] at hrow
  obtain ⟨Y, hY⟩ : ∃ Y, shFold X AL M = Y := ⟨shFold X AL M, rfl⟩
  rw [hY] at hrow
  have Hrow := Lib.hid hrow
  have HY := Lib.hid hY
  have hYo : Y.ok := hY ▸ shFold_ok HXo.out AL M
  have R6 := Lib.hid ((hk.2 w.heap.size (by omega) (by omega)).trans R5.out)
  clear hrow hY
  have hWs := hk.1
  have hDl : D < W.heap.size := (Array.getElem?_eq_some_iff.1 hDf).1
  have Hrw := Lib.hid ((Below.heap_alloc W (.cells D0 30) w1.heap.size (by omega)).trans Hrow.out)
  go_wp2_with (refine w8_load rfl _ rfl w1.heap.size rfl Y.l 137 Hrw.out rfl ?_)
  have h0 : (W.alloc (.cells D0 30)).heap[W.heap.size]? = some (.cells (dgV Y 0).toArray 30 (0, 0)) := by
   rw [show (dgV Y 0).toArray = D0 by rw [← HD0.out]; rfl]; exact World.alloc_heap_new W _
  go_loopw [21] (ShOfL W w.heap.size D0 Y) (fun i _ => 8 - (intOf i).toNat)
  case atStart => exact ⟨0, by omega, rfl, h0, (below_self W).alloc (Nat.le_refl _) _, by simp⟩
  case round =>
   obtain ⟨k, hk8, rfl, hgd, hBr, hzr⟩ := hrel
   by_cases hlt : k < 8
   ·have ix := index8 Y.l rfl k hlt
    have k8 : (k : Int) < 8 := by omega
    have HS := Lib.hid (dgP_step Y k hlt)
    have ly := H8.l_lt hYo k
    generalize Y.l.getD k 0 = y at *
    obtain ⟨p, hp⟩ : ∃ p, p = 4 * k := ⟨4 * k, rfl⟩
    have p1 : (4 : Int) * (k : Int) = (p : Int) := by omega
    have p2 : (p : Int) ≤ 32 := by omega
    have HP := Lib.hid hp
    have HG := Lib.hid hgd
    clear hp hgd h0
    have w6 := w64n (k := y) (by omega)
    have p3 : ¬ (32 = p) := by have := HP.out; omega
    have p4 : 0 ≤ (p : Int) := by omega
    have w8 : IntKind.i64.wrap (p : Int) = (p : Int) := IntWalk.i64_in _ (by omega)
    go_wp2_with fail
    refine wp_norm ?_
    refine wp_region_last (S := fun w' => Below (W.heap.size) wr w') 6 (brw9 7 63) [(0, true), (1, true), (2, true), (3, true), (4, true), (5, false)] (by kernel_rfl) (by kernel_rfl) (fun _ _ d _ _ h => by cases d <;> exact h) ((Below.refl _ wr).drew) ?_
    iterate 5 (refine seg_take (v := ?_) rfl (Or.inl ⟨by rfl, ?_⟩) ?_; rotate_left; (focus (intro w' hw'; go_simp <;> with_reducible rfl)); try simp only [Act.put, pst3])
    refine seg_run rfl (fun K hK => ?_)
    go_simp
    refine (be_any y 4 _ (by omega)).mono ?_
    rw [show clamp 4 = 4 from rfl]
    rintro e w7 ⟨A7, n7, c7, rfl, ho7, hb7⟩
    refine hK.out _ _ ((Below.refl _ wr).drew.trans (hb7.mono (by simp; omega))) ?_
    clear hK
    try simp only [Act.put, pst3]
    refine seg_done ?_
    refine last_run rfl (fun K hK => ?_)
    have hn7 : n7 = 4 := by rw [← ho7.len, beB_length]
    subst hn7
    have B7 : Below W.heap.size wr w7 := (Below.refl _ wr).drew.trans (hb7.mono (by simp; omega))
    have G7 : w7.heap[W.heap.size]? = some (.cells (dgV Y k).toArray 30 (0, 0)) := ((undrew hb7).block _ hzr).trans HG.out
    have hp32 := HP.out
    refine step_copy_splice rfl _ _ 47 47 rfl 5 Tryz.underlying47 (by kernel_rfl) (some ⟨W.heap.size, p, none⟩) A7 (32 - p) (32 - p) 4 c7 rfl rfl W.heap.size p (dgV Y k) 30 G7 ((beB y 4).map vB) (by rw [List.length_map, beB_length]; exact (Nat.min_eq_left (by omega)).symm) (fun _ => ⟨rfl, rdB_src ho7.rd (by omega)⟩) (by simp [dgV, dgP_len Y k (by omega), beB_length]; omega) (oneCell_vB _) W.heap.size wr B7 (Nat.le_refl _) ?_
    intro w8 hr8 hb8
    refine hK.out _ _ ?_
    clear hK
    try simp only [Act.put, pst3]
    go_wp2_with fail
    go_roundw
    case rel =>
     refine ⟨k + 1, by omega, by go_num, ?_, hBr.trans hb8, by have := hb8.size; omega⟩
     have e := hr8.out
     rw [dgV, HP.out, splice_map, HS.out] at e
     exact e
    case measure => simp [intOf]; omega
   ·obtain rfl : k = 8 := by omega
    obtain ⟨DG, hDG⟩ : ∃ DG, shOf xs = DG := ⟨shOf xs, rfl⟩
    have hDl2 : DG.length = 32 := by rw [← hDG]; exact shOf_len xs
    have eDG : dgP Y 8 = DG := by rw [dgP_all, ← hDG, shOf, HAL.out, ← hM2.out, HX.out, HY.out]
    rw [dgV, eDG] at hgd
    have HDG := Lib.hid hDG
    have HG := Lib.hid (show wr.heap[W.heap.size]? = some (.cells (dgA DG) 30 (0, 0)) from hgd)
    have RG := Lib.hid ((hBr.block w.heap.size (by omega)).trans R6.out)
    have hD0s : D0.size = 32 := by rw [← HD0.out]; rfl
    have HDK := (hBr.block D hDl).trans hDf
    clear hDG eDG hgd h0 hD0
    go_wp2_with (first
     | (refine dig_load rfl _ rfl W.heap.size rfl DG 30 HG.out hDl2 ?_)
     | (refine dig_store rfl _ _ rfl w.heap.size rfl DG D0 rfl 30 RG.out hDl2 hD0s ?_))
    have hDn : D ≠ w.heap.size := by omega
    have hK' : (wr.setRow w.heap.size (dgA DG)).heap[D]? = some (.deferred (some [])) := (setRow_other _ _ _ _ hDn).trans HDK
    have hrow' : ((wr.setRow w.heap.size (dgA DG)).putObj D (.deferred none)).heap[w.heap.size]? = some (.cells (dgA DG) 30 (0, 0)) := (World.putObj_heap_other (fun e => hDn e.symm)).trans (setRow_heap _ _ _ (dgA DG) _ _ RG.out)
    refine ⟨by simp, .inl ⟨_, _, rfl, run_takeDeferred hK', ?_⟩⟩
    refine ⟨_, results_cell_row Tryz.results66 _ _ w.heap.size 30 (dgA DG) (0, 0) _ rfl hrow' Tryz.underlying30 rfl (infoD DG hDl2), ?_⟩
    rw [show shOf xs = DG from HDG.out]
    exact ⟨rfl, (below_setRow (hB.trans (hBr.mono (by omega))) (Nat.le_refl _) _).trans (belowK_b (w := w) (Nat.le_refl _) _ D _ _ (by omega) hK' rfl rfl)⟩
 case stop =>
  rintro D c pre W _ _ h _
  exact h.elim
end Go.Proofs.YtpahicfnhhhifaaGreat
namespace Go.Proofs.YtpahicfnhhhifaaGreat
set_option maxRecDepth 20000
open Go.RowKit Go.Shelf
set_option maxHeartbeats 8000000
attribute [local go_sem] Oper.semAt_some
set_option maxRecDepth 100000 in
theorem shaLink_any (D : List UInt8) (hD : D.length = 32) (A : Option Addr) (n c : Nat) (xs : List UInt8) (w : World) (hr : RdB w A n c xs) (hn : n ≤ 999000) : Calls Tryz.prog 89 #[.agg (dgA D), .slice A n c] w (RetDg w (shLink D xs)) := by
 obtain ⟨D0, hD0⟩ : ∃ D0 : Array Value, #[.int .u8 0, .int .u8 0, .int .u8 0, .int .u8 0, .int .u8 0, .int .u8 0, .int .u8 0, .int .u8 0, .int .u8 0, .int .u8 0, .int .u8 0, .int .u8 0, .int .u8 0, .int .u8 0, .int .u8 0, .int .u8 0, .int .u8 0, .int .u8 0, .int .u8 0, .int .u8 0, .int .u8 0, .int .u8 0, .int .u8 0, .int .u8 0, .int .u8 0, .int .u8 0, .int .u8 0, .int .u8 0, .int .u8 0, .int .u8 0, .int .u8 0, .int .u8 0] = D0 := ⟨#[.int .u8 0, .int .u8 0, .int .u8 0, .int .u8 0, .int .u8 0, .int .u8 0, .int .u8 0, .int .u8 0, .int .u8 0, .int .u8 0, .int .u8 0, .int .u8 0, .int .u8 0, .int .u8 0, .int .u8 0, .int .u8 0, .int .u8 0, .int .u8 0, .int .u8 0, .int .u8 0, .int .u8 0, .int .u8 0, .int .u8 0, .int .u8 0, .int .u8 0, .int .u8 0, .int .u8 0, .int .u8 0, .int .u8 0, .int .u8 0, .int .u8 0, .int .u8 0], rfl⟩
 have HD0 := Lib.hid hD0
 have hsz : (dgA D).size = 32 := by rw [dgA_size, hD]
 go_enter Tryz.func89, Tryz.ntmps89
 go_wp2_with fail
 obtain ⟨W1, hW1⟩ : ∃ W1, W1 = (w.alloc (.cells (dgA D) 30)).alloc (.cells D0 30) := ⟨_, rfl⟩
 have b1 : Below w.heap.size w W1 := by rw [hW1]; exact ((below_self w).alloc (Nat.le_refl _) _).alloc (by simp) _
 have z1 : W1.heap.size = w.heap.size + 1 + 1 := by rw [hW1]; simp
 have d1 : RdB W1 (some ⟨w.heap.size, 0, none⟩) 32 32 D := by
  rw [hW1]
  refine ⟨?_, hD, Nat.le_refl _, by simp [maxLen]⟩
  have := (Rd.new w (dgA D) 30).alloc (.cells D0 30)
  rwa [show (dgA D).toList = D.map vB by simp [dgA]] at this
 have r1 : W1.heap[w.heap.size + 1]? = some (.cells D0 30 (0, 0)) := by rw [hW1]; exact row2b ..
 have R1 := Lib.hid r1
 rw [← hW1, ← z1]
 have Z1 := Lib.hid z1
 clear hW1 r1 z1
 obtain ⟨W3, hW3⟩ : ∃ W3, W3 = W1.alloc (.cells #[.slice (some ⟨w.heap.size, 0, none⟩) 32 32, .slice A n c] 47) := ⟨_, rfl⟩
 have bW3 : Below W1.heap.size W1 W3 := by rw [hW3]; exact (below_self W1).alloc (Nat.le_refl _) _
 have hlen : ([D, xs] : List (List UInt8)).flatten.length ≤ 70368744177664 := by simp [hr.2.1, hD]; omega
 rw [← hW3]
 refine (concat_any (some ⟨W1.heap.size, 0, none⟩) 2 2 [.slice (some ⟨w.heap.size, 0, none⟩) 32 32, .slice A n c] [D, xs] W3 (by rw [hW3]; exact Rd.new W1 #[.slice (some ⟨w.heap.size, 0, none⟩) 32 32, .slice A n c] _) rfl (by omega) ⟨⟨_, _, _, rfl, d1.below bW3⟩, ⟨_, _, _, rfl, (hr.below b1).below bW3⟩, trivial⟩ hlen).mono ?_
 rintro e w4 ⟨A4, n4, c4, rfl, ho4, hb4⟩
 rw [show [D, xs].flatten = D ++ xs by simp] at ho4
 have hn4 : n4 ≤ 1000000 := by rw [← ho4.len, List.length_append, hD, hr.2.1]; omega
 clear hW3 hlen
 go_wp2_with fail
 refine (shaOf_any A4 n4 c4 (D ++ xs) w4 ho4.rd hn4).mono ?_
 rintro e w5 ⟨rfl, hb5⟩
 obtain ⟨DG, hDG⟩ : ∃ DG, shLink D xs = DG := ⟨shLink D xs, rfl⟩
 rw [show shOf (D ++ xs) = DG from hDG, hDG]
 have HDG := Lib.hid hDG
 have hDl : DG.length = 32 := by rw [← hDG]; exact shLink_len D xs
 have zz := Z1.out
 have R5 := Lib.hid ((hb5.block (w.heap.size + 1) (by have := hb4.size; have := bW3.size; omega)).trans ((hb4.block _ (by have := bW3.size; omega)).trans ((bW3.block _ (by omega)).trans R1.out)))
 have B5 : Below w.heap.size w w5 := below_then b1 (below_then bW3 (below_then hb4 hb5))
 have hD0s : D0.size = 32 := by rw [← HD0.out]; rfl
 clear hDG hD0 zz
 go_wp2_with (refine dig_store rfl _ _ rfl (w.heap.size + 1) rfl DG D0 rfl 30 R5.out hDl hD0s ?_)
 refine bodyPost_ret (results_cell_row Tryz.results89 _ _ (w.heap.size + 1) 30 (dgA DG) (0, 0) _ rfl (setRow_heap _ _ _ (dgA DG) _ _ R5.out) Tryz.underlying30 rfl (infoD DG hDl)) rfl ?_
 exact ⟨by rw [HDG.out], below_setRow B5 (by omega) _⟩
end Go.Proofs.YtpahicfnhhhifaaGreat
