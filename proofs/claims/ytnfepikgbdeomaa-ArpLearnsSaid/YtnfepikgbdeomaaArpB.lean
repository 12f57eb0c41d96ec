/-
  Layer 19: arp: the document's Check.
-/
import Derived.Test.YtnfepikgbdeomaaArp
import Derived.Test.YtnfepikgbdeomaaPlanT
import Derived.Test.YtnfepikgbdeomaaOps
namespace Go.Proofs.Ytnfepikgbdeomaa
set_option maxRecDepth 20000
open Go.RowKit
set_option linter.unusedVariables false
set_option linter.unusedSimpArgs false
set_option maxHeartbeats 4000000

def nb0 : Nb := ⟨0, mcZero, 0⟩
def nbOk1 (l : List Nb) (i : Nat) : Bool := decide ((l.getD i nb0).t ≤ 1099511627776) && (decide (i = 0) || decide ((l.getD (i - 1) nb0).ip < (l.getD i nb0).ip))
def nbOk (l : List Nb) : Bool := decide (l.length ≤ 8) && (List.range l.length).all (nbOk1 l)
theorem nbOk_iff (l : List Nb) : nbOk l = true ↔ l.length ≤ 8 ∧ ∀ i, i < l.length → nbOk1 l i = true := by
  unfold nbOk
  simp only [Bool.and_eq_true, decide_eq_true_eq, List.all_eq_true, List.mem_range]
def ArI (V : World) (n : Nat) (p : Nat → Prop) (v : Value) (wr : World) : Prop := ∃ k : Nat, k ≤ n ∧ v = .int .i64 (k : Int) ∧ (∀ j, j < k → p j) ∧ Below V.heap.size V wr
theorem ar_next {k : Nat} {p : Nat → Prop} (h : ∀ j, j < k → p j) (hk : p k) : ∀ j, j < k + 1 → p j := fun j hj => by
  rcases Nat.lt_or_ge j k with h2 | h2
  · exact h j h2
  · obtain rfl : j = k := by omega
    exact hk
/-- A neighbour's cells, by their places. -/
theorem RdNb.cells {w : World} {A : Option Addr} {n c : Nat} {l : List Nb} (h : RdNb w A n c l) (k : Nat) (hk : k < n) : ∃ b o, A = some ⟨b, o, none⟩ ∧ b < w.heap.size ∧ (l.getD k nb0).ok ∧ w.cell? ⟨b, o + k * 8, none⟩ = some (.int .u32 ((l.getD k nb0).ip : Int)) ∧ w.cell? ⟨b, o + k * 8 + 7, none⟩ = some (.int .u64 ((l.getD k nb0).t : Int)) := by
  obtain ⟨b, o, x, he, hb, hx, hok, hc⟩ := h.at_ k hk
  have e : l.getD k nb0 = x := by rw [List.getD, hx]; rfl
  rw [e]
  exact ⟨b, o, he, hb, hok, hc 0 _ rfl, by rw [Nat.add_assoc]; exact hc 7 _ rfl⟩
theorem refCheck19_any (A : Option Addr) (n c : Nat) (l : List Nb) (w : World) (hr : RdNb w A n c l) :
    Calls Try.prog 51 #[.slice A n c] w (RetV w (.bool (nbOk l))) := by
  have hn63 := hr.n63
  have hl := hr.2.1
  have hI := nbOk_iff l
  rw [hl] at hI
  have HI := Lib.hid hI
  obtain ⟨P, hP⟩ : ∃ P, nbOk l = P := ⟨_, rfl⟩
  rw [hP] at HI ⊢
  have hF : ∀ (Q : Prop), (P = true → Q) → ¬ Q → P = false := fun Q h1 h2 => by
    cases P with
    | false => rfl
    | true => exact absurd (h1 rfl) h2
  have HF := Lib.hid hF
  clear hI hP hF hl
  by_cases h1 : n ≤ 8
  · have d1 : decide ((8 : Int) < (n : Int)) = false := decide_eq_false (by omega)
    go_enter Try.func51, Try.ntmps51
    go_wp2_with fail
    go_loopw [3] (ArI w n (fun j => nbOk1 l j = true)) (fun i _ => n - (intOf i).toNat)
    case atStart => exact ⟨0, by omega, rfl, fun j hj => by omega, Below.refl _ _⟩
    case round =>
    obtain ⟨k, hk, rfl, hp, hB⟩ := hrel
    have HPp := Lib.hid hp
    clear hp
    by_cases hlt : k < n
    · obtain ⟨b, o, rfl, hb, hok, hc0, hc7⟩ := (hr.below hB).cells k hlt
      obtain ⟨x, hx⟩ : ∃ x, l.getD k nb0 = x := ⟨_, rfl⟩
      rw [hx] at hok hc0 hc7
      have lk : (k : Int) < (n : Int) := by omega
      have ht2 := hok.2
      have e1 : nbOk1 l k = (decide (x.t ≤ 1099511627776) && (decide (k = 0) || decide ((l.getD (k - 1) nb0).ip < x.ip))) := by unfold nbOk1; rw [hx]
      have HE := Lib.hid e1
      clear e1 hx
      by_cases ht : x.t ≤ 1099511627776
      · have d2 : decide ((1099511627776 : Int) < (x.t : Int)) = false := decide_eq_false (by omega)
        cases k with
        | zero =>
          have d3 : decide ((0 : Int) < ((0 : Nat) : Int)) = false := by decide
          go_wp2_with fail
          refine wp_region_seg (S := fun w' => Below wr.heap.size wr w') 0 #[true, true, true, true, true, true, true, true, true, true, true, true, true, true, true, true, true, true, true, true, true, true, true, true] [(0, true), (1, true), (2, true), (3, true), (4, true), (5, true), (6, true), (7, true), (8, true), (9, true), (10, true), (11, true), (12, true), (13, true), (14, true), (15, true), (16, true), (17, true), (18, true), (19, true), (20, true), (21, true), (22, true), (23, true)] (by kernel_rfl) (by kernel_rfl) (fun _ _ d _ _ h => by first | (cases d <;> exact h) | cases h.1) ((Below.refl wr.heap.size wr).drew) ?_
          have HB := (Below.refl wr.heap.size wr).drew
          iterate 7 (refine seg_take (v := ?_) rfl (Or.inl ⟨by rfl, ?_⟩) ?_; rotate_left; (focus (intro w' hw'; have j7 := (hw'.cell (p := ⟨b, o + 0 * 8 + 7, none⟩) hb).trans hc7; go_simp <;> with_reducible rfl)); try simp only [Act.put, List.setIfInBounds_toArray, List.set_cons_zero, List.set_cons_succ])
          iterate 16 ((first | refine seg_take (v := undef) rfl (Or.inr ⟨by rfl, rfl⟩) ?_ | (refine seg_take (v := ?_) rfl (Or.inl ⟨by rfl, ?_⟩) ?_; rotate_left; (focus (intro w' hw'; have j7 := (hw'.cell (p := ⟨b, o + 0 * 8 + 7, none⟩) hb).trans hc7; go_simp <;> with_reducible rfl)))); try simp only [Act.put, List.setIfInBounds_toArray, List.set_cons_zero, List.set_cons_succ])
          iterate 1 (refine seg_take (v := ?_) rfl (Or.inl ⟨by rfl, ?_⟩) ?_; rotate_left; (focus (intro w' hw'; have j7 := (hw'.cell (p := ⟨b, o + 0 * 8 + 7, none⟩) hb).trans hc7; go_simp <;> with_reducible rfl)); try simp only [Act.put, List.setIfInBounds_toArray, List.set_cons_zero, List.set_cons_succ])
          refine seg_done (fun _ => ?_)
          refine wpAnyH_done (by kernel_rfl) ?_ _
          go_wp2_with fail
          go_roundw
          case rel => exact ⟨1, by omega, by go_num, ar_next HPp.out (by rw [HE.out]; simp [ht]), below_then hB HB⟩
          case measure => simp [intOf]; omega
        | succ j =>
          obtain ⟨b', o', he, _, hok2, hd0, _⟩ := (hr.below hB).cells j (by omega)
          injection he with he; injection he with e2 e3; subst e2 e3
          obtain ⟨y, hy⟩ : ∃ y, l.getD j nb0 = y := ⟨_, rfl⟩
          rw [hy] at hd0 hok2
          have e4 : nbOk1 l (j + 1) = decide (y.ip < x.ip) := by
            rw [HE.out, Nat.add_sub_cancel, hy]; simp [ht]
          have HE4 := Lib.hid e4
          have d3 : decide ((0 : Int) < ((j + 1 : Nat) : Int)) = true := decide_eq_true (by omega)
          have w1 : IntKind.i64.wrap (((j + 1 : Nat) : Int) - 1) = (j : Int) := by rw [IntKind.wrap_i64]; omega
          have lj : (j : Int) < (n : Int) := by omega
          have hp1 := hok.1
          have hp2 := hok2.1
          obtain ⟨K, hK⟩ : ∃ K : Nat, K = j + 1 := ⟨_, rfl⟩
          rw [← hK] at d3 w1 lk hc0 hc7 HE4 HPp ⊢
          have HK := Lib.hid hK
          have d5 : decide (0 < K) = true := decide_eq_true (by omega)
          have d6 : (0 < K) = True := eq_true (by omega)
          clear e4 HE hy
          by_cases hlt2 : y.ip < x.ip
          · have d4 : decide ((x.ip : Int) ≤ (y.ip : Int)) = false := decide_eq_false (by omega)
            clear hK
            go_wp2_with fail
            refine wp_region_seg (S := fun w' => Below wr.heap.size wr w') 0 #[true, true, true, true, true, true, true, true, true, true, true, true, true, true, true, true, true, true, true, true, true, true, true, true] [(0, true), (1, true), (2, true), (3, true), (4, true), (5, true), (6, true), (7, true), (8, true), (9, true), (10, true), (11, true), (12, true), (13, true), (14, true), (15, true), (16, true), (17, true), (18, true), (19, true), (20, true), (21, true), (22, true), (23, true)] (by kernel_rfl) (by kernel_rfl) (fun _ _ d _ _ h => by first | (cases d <;> exact h) | cases h.1) ((Below.refl wr.heap.size wr).drew) ?_
            have HB := (Below.refl wr.heap.size wr).drew
            iterate 7 (refine seg_take (v := ?_) rfl (Or.inl ⟨by rfl, ?_⟩) ?_; rotate_left; (focus (intro w' hw'; have j7 := (hw'.cell (p := ⟨b, o + K * 8 + 7, none⟩) hb).trans hc7; have j0 := (hw'.cell (p := ⟨b, o + K * 8, none⟩) hb).trans hc0; have i0 := (hw'.cell (p := ⟨b, o + j * 8, none⟩) hb).trans hd0; go_simp <;> with_reducible rfl)); try simp only [Act.put, List.setIfInBounds_toArray, List.set_cons_zero, List.set_cons_succ])
            iterate 16 ((first | refine seg_take (v := undef) rfl (Or.inr ⟨by rfl, rfl⟩) ?_ | (refine seg_take (v := ?_) rfl (Or.inl ⟨by rfl, ?_⟩) ?_; rotate_left; (focus (intro w' hw'; have j7 := (hw'.cell (p := ⟨b, o + K * 8 + 7, none⟩) hb).trans hc7; have j0 := (hw'.cell (p := ⟨b, o + K * 8, none⟩) hb).trans hc0; have i0 := (hw'.cell (p := ⟨b, o + j * 8, none⟩) hb).trans hd0; go_simp <;> with_reducible rfl)))); try simp only [Act.put, List.setIfInBounds_toArray, List.set_cons_zero, List.set_cons_succ])
            iterate 1 (refine seg_take (v := ?_) rfl (Or.inl ⟨by rfl, ?_⟩) ?_; rotate_left; (focus (intro w' hw'; have j7 := (hw'.cell (p := ⟨b, o + K * 8 + 7, none⟩) hb).trans hc7; have j0 := (hw'.cell (p := ⟨b, o + K * 8, none⟩) hb).trans hc0; have i0 := (hw'.cell (p := ⟨b, o + j * 8, none⟩) hb).trans hd0; go_simp <;> with_reducible rfl)); try simp only [Act.put, List.setIfInBounds_toArray, List.set_cons_zero, List.set_cons_succ])
            refine seg_done (fun _ => ?_)
            refine wpAnyH_done (by kernel_rfl) ?_ _
            go_wp2_with fail
            go_roundw
            case rel => exact ⟨K + 1, by have := HK.out; omega, by go_num, ar_next HPp.out (by rw [HE4.out]; simp [hlt2]), below_then hB HB⟩
            case measure => simp [intOf]; omega
          · have d4 : decide ((x.ip : Int) ≤ (y.ip : Int)) = true := decide_eq_true (by omega)
            obtain rfl : P = false := HF.out _ (fun h => (HI.out.1 h).2 K (by omega)) (by rw [HE4.out]; simp [hlt2])
            clear hK
            go_wp2_with fail
            refine wp_region_seg (S := fun w' => Below wr.heap.size wr w') 0 #[true, true, true, true, true, true, true, true, true, true, true, true, true, true, true, true, true, true, true, true, true, true, true, true] [(0, true), (1, true), (2, true), (3, true), (4, true), (5, true), (6, true), (7, true), (8, true), (9, true), (10, true), (11, true), (12, true), (13, true), (14, true), (15, true), (16, true), (17, true), (18, true), (19, true), (20, true), (21, true), (22, true), (23, true)] (by kernel_rfl) (by kernel_rfl) (fun _ _ d _ _ h => by first | (cases d <;> exact h) | cases h.1) ((Below.refl wr.heap.size wr).drew) ?_
            have HB := (Below.refl wr.heap.size wr).drew
            iterate 7 (refine seg_take (v := ?_) rfl (Or.inl ⟨by rfl, ?_⟩) ?_; rotate_left; (focus (intro w' hw'; have j7 := (hw'.cell (p := ⟨b, o + K * 8 + 7, none⟩) hb).trans hc7; have j0 := (hw'.cell (p := ⟨b, o + K * 8, none⟩) hb).trans hc0; have i0 := (hw'.cell (p := ⟨b, o + j * 8, none⟩) hb).trans hd0; go_simp <;> with_reducible rfl)); try simp only [Act.put, List.setIfInBounds_toArray, List.set_cons_zero, List.set_cons_succ])
            iterate 16 ((first | refine seg_take (v := undef) rfl (Or.inr ⟨by rfl, rfl⟩) ?_ | (refine seg_take (v := ?_) rfl (Or.inl ⟨by rfl, ?_⟩) ?_; rotate_left; (focus (intro w' hw'; have j7 := (hw'.cell (p := ⟨b, o + K * 8 + 7, none⟩) hb).trans hc7; have j0 := (hw'.cell (p := ⟨b, o + K * 8, none⟩) hb).trans hc0; have i0 := (hw'.cell (p := ⟨b, o + j * 8, none⟩) hb).trans hd0; go_simp <;> with_reducible rfl)))); try simp only [Act.put, List.setIfInBounds_toArray, List.set_cons_zero, List.set_cons_succ])
            iterate 1 (refine seg_take (v := ?_) rfl (Or.inl ⟨by rfl, ?_⟩) ?_; rotate_left; (focus (intro w' hw'; have j7 := (hw'.cell (p := ⟨b, o + K * 8 + 7, none⟩) hb).trans hc7; have j0 := (hw'.cell (p := ⟨b, o + K * 8, none⟩) hb).trans hc0; have i0 := (hw'.cell (p := ⟨b, o + j * 8, none⟩) hb).trans hd0; go_simp <;> with_reducible rfl)); try simp only [Act.put, List.setIfInBounds_toArray, List.set_cons_zero, List.set_cons_succ])
            refine seg_done (fun _ => ?_)
            refine wpAnyH_done (by kernel_rfl) ?_ _
            go_wp2_with fail
            go_ret
            exact ⟨rfl, below_then hB HB⟩
      · have d2 : decide ((1099511627776 : Int) < (x.t : Int)) = true := decide_eq_true (by omega)
        obtain rfl : P = false := HF.out _ (fun h => (HI.out.1 h).2 k hlt) (by rw [HE.out]; simp [ht])
        go_wp2_with fail
        refine wp_region_seg (S := fun w' => Below wr.heap.size wr w') 0 #[true, true, true, true, true, true, true, true, true, true, true, true, true, true, true, true, true, true, true, true, true, true, true, true] [(0, true), (1, true), (2, true), (3, true), (4, true), (5, true), (6, true), (7, true), (8, true), (9, true), (10, true), (11, true), (12, true), (13, true), (14, true), (15, true), (16, true), (17, true), (18, true), (19, true), (20, true), (21, true), (22, true), (23, true)] (by kernel_rfl) (by kernel_rfl) (fun _ _ d _ _ h => by first | (cases d <;> exact h) | cases h.1) ((Below.refl wr.heap.size wr).drew) ?_
        have HB := (Below.refl wr.heap.size wr).drew
        iterate 7 (refine seg_take (v := ?_) rfl (Or.inl ⟨by rfl, ?_⟩) ?_; rotate_left; (focus (intro w' hw'; have j7 := (hw'.cell (p := ⟨b, o + k * 8 + 7, none⟩) hb).trans hc7; go_simp <;> with_reducible rfl)); try simp only [Act.put, List.setIfInBounds_toArray, List.set_cons_zero, List.set_cons_succ])
        iterate 16 ((first | refine seg_take (v := undef) rfl (Or.inr ⟨by rfl, rfl⟩) ?_ | (refine seg_take (v := ?_) rfl (Or.inl ⟨by rfl, ?_⟩) ?_; rotate_left; (focus (intro w' hw'; have j7 := (hw'.cell (p := ⟨b, o + k * 8 + 7, none⟩) hb).trans hc7; go_simp <;> with_reducible rfl)))); try simp only [Act.put, List.setIfInBounds_toArray, List.set_cons_zero, List.set_cons_succ])
        iterate 1 (refine seg_take (v := ?_) rfl (Or.inl ⟨by rfl, ?_⟩) ?_; rotate_left; (focus (intro w' hw'; have j7 := (hw'.cell (p := ⟨b, o + k * 8 + 7, none⟩) hb).trans hc7; go_simp <;> with_reducible rfl)); try simp only [Act.put, List.setIfInBounds_toArray, List.set_cons_zero, List.set_cons_succ])
        refine seg_done (fun _ => ?_)
        refine wpAnyH_done (by kernel_rfl) ?_ _
        go_wp2_with fail
        go_ret
        exact ⟨rfl, below_then hB HB⟩
    · obtain rfl : n = k := by omega
      obtain rfl : P = true := HI.out.2 ⟨h1, HPp.out⟩
      go_wp2_with fail
      go_ret
      exact ⟨rfl, hB⟩
  · have d1 : decide ((8 : Int) < (n : Int)) = true := decide_eq_true (by omega)
    rw [HF.out _ (fun h => (HI.out.1 h).1) h1]
    go_enter Try.func51, Try.ntmps51
    go_wp2_with fail
    go_ret
    exact ⟨rfl, Below.refl _ _⟩
end Go.Proofs.Ytnfepikgbdeomaa
