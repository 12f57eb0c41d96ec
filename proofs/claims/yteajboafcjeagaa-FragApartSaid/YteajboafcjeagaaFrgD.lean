/-
  Layer 21: frag: Check of datagrams that may be.
-/
import Derived.Test.YteajboafcjeagaaFrgC
namespace Go.Proofs.Yteajboafcjeagaa
set_option maxRecDepth 20000
open Go.RowKit
set_option linter.unusedVariables false
set_option linter.unusedSimpArgs false
set_option maxHeartbeats 8000000

theorem run_alloc_fr (w : World) : (execOp (fun _ => undef) ⟨none, .alloc 85, 0, "", #[], none⟩).run Try.prog w = .ok (.value (.pointer (some ⟨w.heap.size, 0, none⟩))) (w.alloc (.cells (frA fr0) 85)) := by
  kernel_rfl
section
variable {ops : Array Oper} {rest : List Oper} {o : Oper} {a : Act} {w : World} {Q : Exit → Act → World → Prop} {h : Nat} {x : Fr}
/-- A variable that is made. -/
theorem fr_new (hgd : o.guard = none) (ho : o.op = .alloc 85) (hK : ∀ X, X.heap.size = w.heap.size + 1 → FrgAt X w.heap.size fr0 → Below w.heap.size w X → wpList Try.prog ops Q rest (a.put o.dst (.pointer (some ⟨w.heap.size, 0, none⟩))) X) : wpList Try.prog ops Q (o :: rest) a w := by
  refine wpList_plain hgd fun K hK' => ?_
  have hr : (execOp a.eval o).run Try.prog w = .ok (.value (.pointer (some ⟨w.heap.size, 0, none⟩))) (w.alloc (.cells (frA fr0) 85)) := by
    have := run_alloc_fr w
    unfold execOp at this ⊢
    rw [ho]
    exact this
  unfold Oper.wp
  rw [hr]
  exact hK' _ _ (hK _ (by simp) (frw_at _ rfl) ((below_self w).alloc (Nat.le_refl _) _))
theorem fr_store (hok : x.ok) {y : Fr} (hoy : y.ok) (hgd : o.guard = none) (u z : Operand) (ho : o.op = .store 85 u z) (hu : a.eval u = .pointer (some ⟨h, 0, none⟩)) (hz : a.eval z = .agg (frA x)) (v : FrgAt w h y)
    (hK : ∀ X, X.heap.size = w.heap.size → FrgAt X h x → (∀ B, B ≤ h → Below B w X) → (∀ j, j ≠ h → X.heap[j]? = w.heap[j]?) → wpList Try.prog ops Q rest (a.put o.dst undef) X) : wpList Try.prog ops Q (o :: rest) a w :=
  wpList_store_row hgd 85 u z ho h _ hu hz 85 _ v (fr_info hok) (by rw [frA_size hoy, frA_size hok]) (frA_one x) (hK _ (by simp) (setRow_heap _ _ _ _ _ _ v) (fun B hB => below_setRow (Below.refl _ _) hB _) (fun j hj => setRow_other _ _ _ _ hj))
end
/-- Datagrams that may be. -/
structure FrS (l : List Fr) : Prop where
  n : l.length ≤ 4
  r : ∀ x ∈ l, FrR x
  d : l.Pairwise (fun x y => x.ow ≠ y.ow)
theorem FrS.fresh {l : List Fr} (h : FrS l) {k : Nat} (hk : k < l.length) : (l.getD k fr0).ow ∉ (l.take k).map Fr.ow := by
  have e : l.getD k fr0 = l[k] := by simp [List.getD, hk]
  rw [e]
  intro hm
  obtain ⟨y, hy, he⟩ := List.mem_map.1 hm
  obtain ⟨i, hi, rfl⟩ := List.getElem_of_mem hy
  rw [List.getElem_take] at he
  have hik : i < k := by rw [List.length_take] at hi; omega
  exact List.pairwise_iff_getElem.1 h.d i k (by omega) hk hik he
def ChkI (V : World) (mb : Nat) (l : List Fr) (n : Nat) (v : Value) (wr : World) : Prop := ∃ k : Nat, k ≤ n ∧ v = .int .i64 (k : Int) ∧ OMap wr mb ((l.take k).map Fr.ow) ∧ Below mb V wr
theorem frgCheck_yes (A : Option Addr) (n c : Nat) (l : List Fr) (w : World) (hr : RdFr w A n c l) (hS : FrS l) :
    Calls Try.prog 30 #[.slice A n c] w (RetV w (.bool true)) := by
  have hn63 := hr.n63
  have hl := hr.2.1
  have hn4 : n ≤ 4 := by have := hS.n; omega
  obtain ⟨V, hV⟩ : ∃ V, V = w.alloc (.map #[] 0) := ⟨_, rfl⟩
  have bV : Below w.heap.size w V := by rw [hV]; exact (below_self w).alloc (Nat.le_refl _) _
  have zV : V.heap.size = w.heap.size + 1 := by rw [hV]; simp
  have mV : OMap V w.heap.size [] := ⟨#[], 0, by rw [hV]; exact frw_at _ rfl, rfl, fun e he => by cases he⟩
  have HV := Lib.hid hV
  have ZV := Lib.hid zV
  have HM := Lib.hid mV
  have HR := Lib.hid hr
  have HL := Lib.hid hl
  have HS := Lib.hid hS
  have hmm := @run_makeMap Try.prog
  clear hV zV mV hr hl hS
  go_enter Try.func30, Try.ntmps30
  go_wp2_with fail
  rw [← HV.out]
  clear hmm
  go_loopw [9] (ChkI V w.heap.size l n) (fun i _ => n - (intOf i).toNat)
  case atStart => exact ⟨0, by omega, rfl, by simpa using HM.out, Below.refl _ _⟩
  case round =>
  obtain ⟨k, hk, rfl, hmap, hB⟩ := hrel
  have HMP := Lib.hid hmap
  clear hmap
  by_cases hlt : k < n
  · obtain ⟨b, o, rfl, hb, hok, hin⟩ := (HR.out.below (bV.trans hB)).fr k hlt
    have hfresh := HS.out.fresh (k := k) (by rw [HL.out]; exact hlt)
    have hm : l.getD k fr0 ∈ l := by
      have : k < l.length := by rw [HL.out]; exact hlt
      rw [List.getD, List.getElem?_eq_getElem this]; exact List.getElem_mem _
    have htk : (l.take (k + 1)).map Fr.ow = (l.take k).map Fr.ow ++ [(l.getD k fr0).ow] := by
      have : k < l.length := by rw [HL.out]; exact hlt
      rw [take_snoc l k this, List.map_append]
      simp [List.getD, this]
    obtain ⟨x, hx⟩ : ∃ x, l.getD k fr0 = x := ⟨_, rfl⟩
    rw [hx] at hok hin hfresh hm htk
    have HRX := Lib.hid (HS.out.r x hm)
    have HTK := Lib.hid htk
    have HF := Lib.hid hfresh
    have HOK := Lib.hid hok
    have HIN := Lib.hid hin
    have hqs := Lib.hid (show ∀ q ∈ (l.take k).map Fr.ow, OwOk q from fun q hq => by
      obtain ⟨y, hy, rfl⟩ := List.mem_map.1 hq
      exact (HS.out.r y (List.mem_of_mem_take hy)).ok.ow)
    have lk : (k : Int) < (n : Int) := by omega
    have C1 := Lib.hid (fun W => frgRight_yes x HRX.out W)
    have C2 : Hid (∀ W, Calls Try.prog 57 #[.agg (frA x)] W (RetV W (owK x.ow))) := Lib.hid (fun W => frgOf_any x hok W)
    have hmb : w.heap.size < wr.heap.size := by obtain ⟨es, clock, h1, _⟩ := HMP.out; exact frw_lt h1
    clear hx hin hfresh hm htk
    go_wp2_with (first | (refine fr_mid HOK.out rfl _ rfl b (o + k * 262) rfl HIN.out ?_) | (refine fr_new rfl rfl ?_; intro X hXz qX bX) | (refine fr_store HOK.out fr0_ok rfl _ _ rfl rfl rfl qX ?_; intro Y hYz qY bY eY) | (refine fr_load HOK.out rfl _ rfl rfl qY ?_))
    refine (C1.out Y).mono ?_
    rintro e w1 ⟨rfl, hb1⟩
    have BX : Below w.heap.size V w1 := (hB.trans (bX.mono (Nat.le_of_lt hmb))).trans ((bY _ (Nat.le_of_lt hmb)).trans (hb1.mono (by have := hYz; omega)))
    have HMP1 : Hid (OMap w1 w.heap.size ((l.take k).map Fr.ow)) := Lib.hid (by
      have m1 := HMP.out.up bX
      obtain ⟨es, clock, h1, h2⟩ := m1
      exact OMap.up ⟨es, clock, (eY _ (by omega)).trans h1, h2⟩ hb1)
    have Q1 := Lib.hid (qY.up hb1)
    go_wp2_with (refine wpList_unguard (by rfl) ?_; refine fr_load HOK.out rfl _ rfl rfl Q1.out ?_)
    refine (C2.out w1).mono ?_
    rintro e w2 ⟨rfl, hb2⟩
    have Q2 := Lib.hid (Q1.out.up hb2)
    have HMP2 := Lib.hid (HMP1.out.up hb2)
    have hlook := HMP2.out.look x.ow HOK.out.ow hqs.out HF.out
    go_wp2_with (refine fr_load HOK.out rfl _ rfl rfl Q2.out ?_)
    refine (C2.out w2).mono ?_
    rintro e w3 ⟨rfl, hb3⟩
    obtain ⟨w4, hput, hm4, hb4⟩ := (HMP2.out.up hb3).put x.ow HOK.out.ow hqs.out HF.out
    rw [← HTK.out] at hm4
    have hz3 : w.heap.size ≤ w1.heap.size := by have := hb1.size; have := bX.size; omega
    have B4 := Lib.hid (((BX.trans (hb2.mono hz3)).trans (hb3.mono (Nat.le_trans hz3 hb2.size))).trans hb4)
    have HM4 := Lib.hid hm4
    clear hlook hm4
    go_wp2_with fail
    go_roundw
    case rel => exact ⟨k + 1, by omega, by go_num, HM4.out, B4.out⟩
    case measure => simp [intOf]; omega
  · have hl4 : decide ((n : Int) ≤ 4) = true := decide_eq_true (by omega)
    obtain rfl : n = k := by omega
    go_wp2_with fail
    go_ret
    exact ⟨rfl, bV.trans hB⟩
end Go.Proofs.Yteajboafcjeagaa
