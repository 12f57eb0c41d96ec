/-
  slices.Chunk at []byte, cut every 64: its walk as an iterator.
-/
import Derived.RangeFuncNested
import Derived.RangeFuncBound
import Derived.RangeFuncCalls
import Derived.RangeFuncLeaves
import Derived.RangeFuncFrom
import Derived.RangeFuncWrites
import Derived.Shelf.Abstract
import Derived.Shelf.RegionOpen
import Derived.OwnWalkIn
import Derived.TacticsInMore
import Derived.LoopNIn
import Derived.LoopIn
import Derived.Test.YtnfepikgbdeomaaShaF
namespace Go.Proofs.Ytnfepikgbdeomaa
set_option maxRecDepth 20000
open Go.RowKit Go.Shelf
set_option linter.unusedVariables false
set_option linter.unusedSimpArgs false
set_option maxHeartbeats 8000000
attribute [local go_sem] Oper.semAt_some

/-- All that lay ahead of n₁ lies as it lay, but for block g. -/
def KpX (n₁ g : Nat) (A B : World) : Prop := A.heap.size ≤ B.heap.size ∧ ∀ j, j < n₁ → j ≠ g → B.heap[j]? = A.heap[j]?
theorem KpX.refl (n₁ g : Nat) (A : World) : KpX n₁ g A A := ⟨Nat.le_refl _, fun _ _ _ => rfl⟩
theorem KpX.trans {n₁ g : Nat} {A B C : World} (h : KpX n₁ g A B) (k : KpX n₁ g B C) : KpX n₁ g A C := ⟨Nat.le_trans h.1 k.1, fun j hj hg => (k.2 j hj hg).trans (h.2 j hj hg)⟩
theorem KpX.cell {n₁ g : Nat} {A B : World} (h : KpX n₁ g A B) {p : Addr} (h1 : p.block < n₁) (h2 : p.block ≠ g) : B.cell? p = A.cell? p := World.cell?_of_block (h.2 _ h1 h2)
def chOff (k : Nat) : List Nat := (List.range k).map (64 * ·)
theorem chOff_succ (k : Nat) : chOff (k + 1) = chOff k ++ [64 * k] := by simp [chOff, List.range_succ]
theorem chOff_len (k : Nat) : (chOff k).length = k := by simp [chOff]

set_option maxRecDepth 100000 in
theorem chunk1_in (B n l Bs Bn n₁ g b o L M c : Nat) (hn : 1 ≤ n) (hL : L = 64 * M) (hLc : L ≤ c) (hc : c ≤ 9223372036854775807) (hb : b < n₁ ∧ b ≠ g) (hs : Bs < n₁ ∧ Bs ≠ g) (hn2 : Bn < n₁ ∧ Bn ≠ g) (J Jx : List Nat → World → Prop) (hJ : AbidesFrom B J)
    (hY : ∀ pre x W, J pre W → pre.length < M → x = 64 * pre.length → YieldAt Fence.wide (n - 1) Try.prog l #[.slice (some ⟨b, o + x, none⟩) 64 64] W fun e W' =>
      (e = .returned (.bool true) ∧ J (pre ++ [x]) W' ∧ KpX n₁ g W W') ∨ (e = .returned (.bool false) ∧ Jx (pre ++ [x]) W'))
    (W : World) (hBs : W.cell? ⟨Bs, 0, none⟩ = some (.slice (some ⟨b, o, none⟩) L c)) (hBn : W.cell? ⟨Bn, 0, none⟩ = some (.int .i64 64)) (h0 : J [] W) :
    CallsIn Fence.wide n Try.prog 165 #[.func (.yield l) #[] #[], .pointer (some ⟨Bs, 0, none⟩), .pointer (some ⟨Bn, 0, none⟩)] W fun e W' => (∃ v, e = .returned v) ∧
      ((∃ ys, ys = chOff M ∧ J ys W') ∨ (∃ pre, (∃ k, k ≤ M ∧ pre = chOff k) ∧ Jx pre W')) := by
  refine callsIn_of_wp Try.func165 rfl trivial ?_ rfl
  simp only [Try.ntmps165, List.size_toArray, List.length_cons, List.length_nil, Nat.reduceAdd, Nat.reduceSub, Array.replicate_succ, Array.replicate_zero, List.push_toArray, List.append_toArray, List.nil_append, List.cons_append]
  have HL := Lib.hid hL
  clear hL
  gi_wp2
  gi_loopw [4] (fun i wr => ∃ k p : Nat, k ≤ M ∧ p = 64 * k ∧ i = .int .i64 p ∧ J (chOff k) wr ∧ KpX n₁ g W wr)
    (fun i _ => L - (intOf i).toNat)
  case atStart => exact ⟨0, 0, Nat.zero_le _, rfl, rfl, h0, KpX.refl _ _ _⟩
  case round =>
    obtain ⟨k, p, hk, hp, rfl, hJs, hnx⟩ := hrel
    have hBs' := (hnx.cell (p := ⟨Bs, 0, none⟩) hs.1 hs.2).trans hBs
    have hBn' := (hnx.cell (p := ⟨Bn, 0, none⟩) hn2.1 hn2.2).trans hBn
    have HP := Lib.hid hp
    have hLL := HL.out
    by_cases hlt : k < M
    · obtain ⟨fn, tmps, assign, body, hy, hR⟩ := hY _ p wr.drew (hJ _ _ wr.drew none hJs ⟨rfl, rfl, rfl, Nat.le_refl _, fun _ _ _ => rfl⟩ (fun r e => by cases e)) (by rw [chOff_len]; exact hlt) (by rw [chOff_len]; exact hp)
      obtain ⟨q, hq⟩ : ∃ q, q = p + 64 := ⟨_, rfl⟩
      have a1 : (p : Int) + 64 = (q : Int) := by omega
      have a2 : (q : Int) ≤ (c : Int) := by omega
      have a3 : (p : Int) ≤ (q : Int) := by omega
      have a4 : q - p = 64 := by omega
      have a5 : (p : Int) < (L : Int) := by omega
      have a6 : min (64 : Int) ((L - p : Nat) : Int) = 64 := by omega
      have a7 : ¬ (c = p) := by omega
      have a8 : p < L := by omega
      have a9 : (p : Int) ≤ (L : Int) := by omega
      have HQ := Lib.hid hq
      clear hp hLL hq
      gi_wp2
      gi_region
      gi_wp2
      refine hR.mono ?_
      rintro e W3 (⟨rfl, hJ3, hk3⟩ | ⟨rfl, hJx3⟩)
      · have hnx3 : KpX n₁ g W W3 := hnx.trans (KpX.trans ⟨Nat.le_refl _, fun _ _ _ => rfl⟩ hk3)
        have hBn3 := (hnx3.cell (p := ⟨Bn, 0, none⟩) hn2.1 hn2.2).trans hBn
        gi_wp2
        go_roundw
        case rel => exact ⟨k + 1, q, by omega, by have := HP.out; have := HQ.out; omega, by simp [a1], by rw [chOff_succ, ← HP.out]; exact hJ3, hnx3⟩
        case measure => simp [intOf]; omega
      · gi_wp2
        refine bodyPost_ret (results_none rfl _ _ _) rfl ?_
        exact ⟨⟨_, rfl⟩, .inr ⟨_, ⟨k + 1, by omega, by rw [chOff_succ, ← HP.out]⟩, hJx3⟩⟩
    · obtain rfl : k = M := by omega
      have a5 : ¬ ((p : Int) < (L : Int)) := by omega
      clear hp hLL
      gi_wp2
      go_end0
      exact ⟨⟨_, rfl⟩, .inl hJs⟩
end Go.Proofs.Ytnfepikgbdeomaa
