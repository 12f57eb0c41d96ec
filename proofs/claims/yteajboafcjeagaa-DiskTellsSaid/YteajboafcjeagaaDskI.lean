/-
  Layer 5: disks: slices.Backward at writes: its walk as an iterator.
-/
import Derived.RangeFuncNested
import Derived.RangeFuncBound
import Derived.RangeFuncCalls
import Derived.RangeFuncLeaves
import Derived.RangeFuncFrom
import Derived.RangeFuncWrites
import Derived.Shelf.Abstract
import Derived.Shelf.RegionOpen
import Derived.OwnWalkIn
import Derived.TacticsInMore
import Derived.LoopNIn
import Derived.LoopIn
import Derived.Test.YteajboafcjeagaaDskH
namespace Go.Proofs.Yteajboafcjeagaa
set_option maxRecDepth 20000
open Go.RowKit Go.Shelf
set_option linter.unusedVariables false
set_option linter.unusedSimpArgs false
set_option maxHeartbeats 8000000
attribute [local go_sem] Oper.semAt_some

/-- What the x-th round is handed: a write's place, counted from the end, and the write. -/
def bkV (us : List Value) (ls : List (Int × List UInt8)) (kn x : Nat) : Array Value := #[.int .i64 ((kn - 1 - x : Nat) : Int), .agg #[.int .i64 (ls.getD (kn - 1 - x) (0, [])).1, us.getD ((kn - 1 - x) * 2 + 1) (.slice none 0 0)]]
theorem RdWs.atw {w : World} {A : Option Addr} {n c : Nat} {vs : List Value} {l : List (Int × List UInt8)} (h : RdWs w A n c vs l) (k : Nat) (hk : k < n) :
    ∃ b o B m d, A = some ⟨b, o, none⟩ ∧ b < w.heap.size ∧ w.cell? ⟨b, o + k * 2, none⟩ = some (.int .i64 (l.getD k (0, [])).1) ∧ w.cell? ⟨b, o + k * 2 + 1, none⟩ = some (.slice B m d) ∧ RdB w B m d (l.getD k (0, [])).2 ∧ (-9223372036854775808 ≤ (l.getD k (0, [])).1 ∧ (l.getD k (0, [])).1 ≤ 9223372036854775807) ∧ vs.getD (k * 2 + 1) (.slice none 0 0) = .slice B m d := by
  obtain ⟨b, o, B, m, d, h1, h2, h3, h4, h5, h6, h7⟩ := h.atv k hk
  refine ⟨b, o, B, m, d, h1, h2, h3, h4, h5, h6, ?_⟩
  rw [List.getD, List.getElem?_eq_getElem (by have := h.2.1; omega)] at h7 ⊢
  exact h7
/-- Whatever the round, it is handed a number and a slice. -/
theorem us_slice {w : World} {A : Option Addr} {n c : Nat} {vs : List Value} {l : List (Int × List UInt8)} (h : RdWs w A n c vs l) (x : Nat) : ∃ B m d, vs.getD ((n - 1 - x) * 2 + 1) (.slice none 0 0) = .slice B m d := by
  rcases Nat.eq_zero_or_pos n with rfl | hn
  · have : vs = [] := List.eq_nil_of_length_eq_zero (by have := h.2.1; omega)
    subst this
    exact ⟨none, 0, 0, rfl⟩
  · obtain ⟨b, o, B, m, d, _, _, _, _, _, _, e⟩ := h.atw (n - 1 - x) (by omega)
    exact ⟨B, m, d, e⟩
set_option maxRecDepth 100000 in
theorem back1_in (n l Bs : Nat) (Kd : Option Addr) (kn kc : Nat) (us : List Value) (ls : List (Int × List UInt8)) (w0 : World) (hn : 1 ≤ n) (hr : RdWs w0 Kd kn kc us ls) (hkn : kn ≤ 1000000) (J Jx : List Nat → World → Prop) (W : World) (hW : Below w0.heap.size w0 W) (hJ : AbidesFrom W.heap.size J)
    (hY : ∀ pre x W1, J pre W1 → pre.length < kn → x = pre.length → YieldAt Fence.wide (n - 1) Try.prog l (bkV us ls kn x) W1 fun e W' => (e = .returned (.bool true) ∧ J (pre ++ [x]) W' ∧ Below w0.heap.size W1 W') ∨ (e = .returned (.bool false) ∧ Jx (pre ++ [x]) W'))
    (hBs : w0.cell? ⟨Bs, 0, none⟩ = some (.slice Kd kn kc)) (hBl : Bs < w0.heap.size) (h0 : J [] W) :
    CallsIn Fence.wide n Try.prog 58 #[.func (.yield l) #[] #[], .pointer (some ⟨Bs, 0, none⟩)] W fun e W' => (∃ v, e = .returned v) ∧
      ((∃ ys, ys = List.range kn ∧ J ys W') ∨ (∃ pre, (∃ k, k ≤ kn ∧ pre = List.range k) ∧ Jx pre W')) := by
  refine callsIn_of_wp Try.func58 rfl trivial ?_ rfl
  simp only [Try.ntmps58, List.size_toArray, List.length_cons, List.length_nil, Nat.reduceAdd, Nat.reduceSub, Array.replicate_succ, Array.replicate_zero, List.push_toArray, List.append_toArray, List.nil_append, List.cons_append]
  have k0 := (hW.cell (p := ⟨Bs, 0, none⟩) hBl).trans hBs
  have w1 : IntKind.i64.wrap ((kn : Int) - 1) = (kn : Int) - 1 := by rw [IntKind.wrap_i64]; omega
  obtain ⟨z, hz⟩ : ∃ z : Int, z = (kn : Int) - 1 := ⟨_, rfl⟩
  rw [← hz] at w1
  have HZ := Lib.hid hz
  have w2 : (kn : Int) - 1 = z := hz.symm
  clear hz
  gi_wp2
  gi_loopw [3] (fun i wr => ∃ k : Nat, k ≤ kn ∧ i = .int .i64 (z - (k : Int)) ∧ J (List.range k) wr ∧ Below w0.heap.size w0 wr) (fun i _ => (intOf i + 1).toNat)
  case atStart => exact ⟨0, Nat.zero_le _, by simp, h0, hW⟩
  case round =>
    obtain ⟨k, hk, rfl, hJs, hB⟩ := hrel
    have k1 := (hB.cell (p := ⟨Bs, 0, none⟩) hBl).trans hBs
    by_cases hlt : k < kn
    · obtain ⟨j, hj⟩ : ∃ j : Nat, j = kn - 1 - k := ⟨_, rfl⟩
      have hz2 := HZ.out
      have e1 : z - (k : Int) = (j : Int) := by omega
      rw [e1]
      obtain ⟨b, o, B, m, d, rfl, hb, hc0, hc1, hy, hrg, hxv⟩ := (hr.below hB).atw j (by omega)
      have hY2 := hY _ k wr hJs (by rw [List.length_range]; exact hlt) (by rw [List.length_range])
      unfold bkV at hY2
      rw [← hj, hxv] at hY2
      obtain ⟨a, ha⟩ : ∃ a, (ls.getD j (0, [])).1 = a := ⟨_, rfl⟩
      rw [ha] at hY2 hc0
      clear ha hrg hy
      obtain ⟨fn, tmps, assign, body, hy2, hR⟩ := hY2
      have a1 : (0 : Int) ≤ (j : Int) := by omega
      have a2 : (j : Int) < (kn : Int) := by omega
      have a3 : IntKind.i64.wrap ((j : Int) - 1) = (j : Int) - 1 := by rw [IntKind.wrap_i64]; omega
      have HJ2 := Lib.hid hj
      have E1 := Lib.hid e1
      clear hj hxv hz2 e1
      gi_wp2
      refine hR.mono ?_
      rintro e W3 (⟨rfl, hJ3, hk3⟩ | ⟨rfl, hJx3⟩)
      · gi_wp2
        go_roundw
        case rel => exact ⟨k + 1, by omega, by have := E1.out; congr 1; omega, by rw [List.range_succ]; exact hJ3, hB.trans hk3⟩
        case measure => have := E1.out; simp [intOf]
      · gi_wp2
        refine bodyPost_ret (results_none rfl _ _ _) rfl ?_
        exact ⟨⟨_, rfl⟩, .inr ⟨_, ⟨k + 1, by omega, List.range_succ.symm⟩, hJx3⟩⟩
    · obtain rfl : kn = k := by omega
      have hz2 := HZ.out
      have e1 : z - (kn : Int) = -1 := by omega
      rw [e1]
      gi_wp2
      go_end0
      exact ⟨⟨_, rfl⟩, .inl ⟨_, rfl, hJs⟩⟩
theorem back_stops (n Bs : Nat) (Kd : Option Addr) (kn kc : Nat) (us : List Value) (ls : List (Int × List UInt8)) (w0 : World) (hn : 1 ≤ n) (hr : RdWs w0 Kd kn kc us ls) (hkn : kn ≤ 1000000) (hBs : w0.cell? ⟨Bs, 0, none⟩ = some (.slice Kd kn kc)) (hBl : Bs < w0.heap.size) :
    SeqStopsK Fence.wide n Try.prog 58 #[.pointer (some ⟨Bs, 0, none⟩)] (bkV us ls kn) (Below w0.heap.size) (fun ys => ys = List.range kn) (fun pre => ∃ k, k ≤ kn ∧ pre = List.range k) kn w0 := by
  intro l J Jx W hW hJ hJx hY h0
  exact back1_in n l Bs Kd kn kc us ls w0 hn hr hkn J Jx W hW hJ (fun pre x W1 hp hl hx => hY pre x W1 hp hl) hBs hBl h0
theorem back_any (Kd : Option Addr) (kn kc : Nat) (w : World) : Calls Try.prog 36 #[.slice Kd kn kc] w (fun e w' => e = .returned (.func (.func 58) #[] #[.pointer (some ⟨w.heap.size, 0, none⟩)]) ∧ w'.cell? ⟨w.heap.size, 0, none⟩ = some (.slice Kd kn kc) ∧ Below w.heap.size w w' ∧ w.heap.size < w'.heap.size) := by
  go_enter Try.func36, Try.ntmps36
  go_wp2
  go_ret
  exact ⟨rfl, (cell_of_row _ _ 0 _ _ _ (drw_at _ rfl)).trans rfl, (below_self w).alloc (Nat.le_refl _) _, by simp⟩
end Go.Proofs.Yteajboafcjeagaa
