/-
  Layer 21: frag: right, of.
-/
import Derived.Test.YteajboafcjeagaaFrg
namespace Go.Proofs.Yteajboafcjeagaa
set_option maxRecDepth 20000
open Go.RowKit
set_option linter.unusedVariables false
set_option linter.unusedSimpArgs false
set_option maxHeartbeats 8000000

/-- One that may be. -/
structure FrR (x : Fr) : Prop where
  ok : x.ok
  p : 0 ≤ x.proto ∧ x.proto ≤ 255
  l : -1 ≤ x.ln ∧ x.ln ≤ 128
  t : x.till ≤ 1099511627776
  none : ∀ i, i < 128 → x.H.getD i false = false → x.D.getD i 0 = 0
  some : ∀ i, i < 128 → x.H.getD i false = true → x.ln ≠ -1 → (i : Int) < x.ln
/-- Whose it is, as a value. -/
def owV (s d i : Nat) (p : Int) : Array Value := #[.int .u32 (s : Int), .int .u32 (d : Int), .int .u16 (i : Int), .int .i64 p]
theorem FrgAt.in_ {w : World} {g : Nat} {x : Fr} (h : FrgAt w g x) : FrIn w g 0 x := ⟨h.lt, fun j v hv => by rw [Nat.zero_add, h.cell]; exact hv⟩
theorem fres_cell1 {P : Program} {fn : Func} {p : Tmp} {ty : TypeId} (h : fn.results = #[.cell p ty]) (tmps : Array Value) (w : World) (g : Nat) (t : TypeId) (cs : Array Value) (fr : Nat × Nat) (d : TypeDesc)
    (hp : tmps.getD p undef = .pointer (some ⟨g, 0, none⟩)) (hg : w.heap[g]? = some (.cells cs t fr))
    (hu : P.underlying ty = some d) (hd : (match d with | .struct _ | .array _ _ => true | _ => false) = true) (hi : (P.info? ty).map (·.size) = some cs.size) :
    (results fn tmps).run P w = .ok (.agg cs) w := by
  have hp' : tmps[p]?.getD undef = .pointer (some ⟨g, 0, none⟩) := by simpa using hp
  simp [results, h, hp', asAddr, run_loadVar_row w g t ty cs fr d hg hu hd hi]
theorem frgOf_any (x : Fr) (hok : x.ok) (w : World) : Calls Try.prog 57 #[.agg (frA x)] w (RetV w (.agg (owV x.src x.dst x.id x.proto))) := by
  obtain ⟨V, hV⟩ : ∃ V, V = (w.alloc (.cells (frA x) 85)).alloc (.cells #[.int .u32 0, .int .u32 0, .int .u16 0, .int .i64 0] 98) := ⟨_, rfl⟩
  have bV : Below w.heap.size w V := by rw [hV]; exact ((below_self w).alloc (Nat.le_refl _) _).alloc (by simp) _
  have q : FrgAt V w.heap.size x := by rw [hV]; exact frw_old _ (frw_at _ rfl)
  have q2 : V.heap[w.heap.size + 1]? = some (.cells #[.int .u32 0, .int .u32 0, .int .u16 0, .int .i64 0] 98 (0, 0)) := by rw [hV]; exact frw_at _ (by simp)
  have c0 : V.cell? ⟨w.heap.size, 0, none⟩ = some (.int .u32 (x.src : Int)) := (q.cell 0).trans rfl
  have c1 : V.cell? ⟨w.heap.size, 1, none⟩ = some (.int .u32 (x.dst : Int)) := (q.cell 1).trans rfl
  have c2 : V.cell? ⟨w.heap.size, 2, none⟩ = some (.int .u16 (x.id : Int)) := (q.cell 2).trans rfl
  have c3 : V.cell? ⟨w.heap.size, 3, none⟩ = some (.int .i64 x.proto) := (q.cell 3).trans rfl
  have k0 : V.cell? ⟨w.heap.size + 1, 0, none⟩ = some (.int .u32 0) := (cell_of_row V _ 0 _ _ _ q2).trans rfl
  have k1 : V.cell? ⟨w.heap.size + 1, 1, none⟩ = some (.int .u32 0) := (cell_of_row V _ 1 _ _ _ q2).trans rfl
  have k2 : V.cell? ⟨w.heap.size + 1, 2, none⟩ = some (.int .u16 0) := (cell_of_row V _ 2 _ _ _ q2).trans rfl
  have k3 : V.cell? ⟨w.heap.size + 1, 3, none⟩ = some (.int .i64 0) := (cell_of_row V _ 3 _ _ _ q2).trans rfl
  have kf : ∀ i, V.frozen? ⟨w.heap.size + 1, i, none⟩ = false := fun i => frozen_of_row V _ i _ _ q2
  have HV := Lib.hid hV
  have HQ2 := Lib.hid q2
  clear hV q q2
  go_enter Try.func57, Try.ntmps57
  go_wp2_with (rw [← HV.out])
  have hrow := setc_rowT (i := 3) (v := .int .i64 x.proto) (setc_rowT (i := 2) (v := .int .u16 (x.id : Int)) (setc_rowT (i := 1) (v := .int .u32 (x.dst : Int)) (setc_rowT (i := 0) (v := .int .u32 (x.src : Int)) HQ2.out)))
  refine bodyPost_ret (v := .agg (owV x.src x.dst x.id x.proto)) (fres_cell1 Try.results57 _ _ _ _ _ _ _ rfl hrow Try.underlying98 rfl (by kernel_rfl)) rfl ⟨rfl, ?_⟩
  exact (((bV.setCell (p := ⟨w.heap.size + 1, 0, none⟩) (Nat.le_succ _) _).setCell (p := ⟨w.heap.size + 1, 1, none⟩) (Nat.le_succ _) _).setCell (p := ⟨w.heap.size + 1, 2, none⟩) (Nat.le_succ _) _).setCell (p := ⟨w.heap.size + 1, 3, none⟩) (Nat.le_succ _) _
/-- The row of what is had, as a value. -/
def hvA (x : Fr) : Array Value := (x.H.map vBo).toArray
theorem hv_mid {w : World} {b o : Nat} {x : Fr} (h : FrIn w b o x) (hok : x.ok) : w.rangeAt b (o + 132) (x.H.map vBo) := fun j v hv => by
  have hj : j < 128 := by have := (List.getElem?_eq_some_iff.1 hv).1; simpa [hok.H] using this
  have h1 := h.2 (132 + j) v (by
    rw [frV_H hok j hj, ← hv]
    have : j < x.H.length := by rw [hok.H]; exact hj
    simp [List.getD, this, vBo])
  rw [← h1, Nat.add_assoc]
theorem idx_have (l : List Value) (k : Nat) (v : Value) (hk : k < 128) (h : l[k]? = some v) (w : World) : (Instr.index 83 (.agg l.toArray) (.int .i64 (k : Int))).run Try.prog w = .ok v w := by
  have hz : ∀ w : World, (sizeOf 4).run Try.prog w = .ok 1 w := fun w => by kernel_rfl
  have ha : ∀ w : World, (isAgg 4).run Try.prog w = .ok false w := fun w => by kernel_rfl
  have hk0 : (0 : Int) ≤ (k : Int) ∧ (k : Int) < 128 := by omega
  have hlt : k < l.length := (List.getElem?_eq_some_iff.1 h).1
  have hv : l[k] = v := (List.getElem?_eq_some_iff.1 h).2
  simp [Instr.index, asIntOf, run_underlying Try.underlying83, hk0, part, hz, ha, hlt, hv, hk]
theorem frgRight_yes (x : Fr) (hR : FrR x) (w : World) : Calls Try.prog 56 #[.agg (frA x)] w (RetV w (.bool true)) := by
  have hok := hR.ok
  obtain ⟨V, hV⟩ : ∃ V, V = w.alloc (.cells (frA x) 85) := ⟨_, rfl⟩
  have bV : Below w.heap.size w V := by rw [hV]; exact (below_self w).alloc (Nat.le_refl _) _
  have q : FrgAt V w.heap.size x := by rw [hV]; exact frw_at _ rfl
  have c3 : V.cell? ⟨w.heap.size, 3, none⟩ = some (.int .i64 x.proto) := (q.cell 3).trans rfl
  have c260 : V.cell? ⟨w.heap.size, 260, none⟩ = some (.int .i64 x.ln) := (q.cell 260).trans (frV_ln hok)
  have c261 : V.cell? ⟨w.heap.size, 261, none⟩ = some (.int .u64 (x.till : Int)) := (q.cell 261).trans (frV_till hok)
  have d1 : decide (x.proto < 0) = false := decide_eq_false (by have := hR.p; omega)
  have d2 : decide ((255 : Int) < x.proto) = false := decide_eq_false (by have := hR.p; omega)
  have d3 : decide (x.ln < -1) = false := decide_eq_false (by have := hR.l; omega)
  have d4 : decide ((128 : Int) < x.ln) = false := decide_eq_false (by have := hR.l; omega)
  have d5 : decide ((1099511627776 : Int) < (x.till : Int)) = false := decide_eq_false (by have := hR.t; omega)
  have hmid := hv_mid q.in_ hok
  have hinf : (Try.prog.info? 83).map (·.size) = some (x.H.map vBo).length := by rw [List.length_map, hok.H]; kernel_rfl
  have hql := q.lt
  have HMID := Lib.hid hmid
  have HINF := Lib.hid hinf
  have HV := Lib.hid hV
  have HQ := Lib.hid q
  have HOK := Lib.hid hok
  clear hV q hmid hinf hok
  go_enter Try.func56, Try.ntmps56
  go_wp2_with (first | (rw [← HV.out]) | (refine wpList_load_mid rfl 83 _ rfl w.heap.size 132 rfl (x.H.map vBo) _ (by simpa using HMID.out) Try.underlying83 rfl HINF.out ?_))
  go_loopw [30] (fun i wr => ∃ k : Nat, k ≤ 128 ∧ i = .int .i64 (k : Int) ∧ wr = V) (fun i _ => 128 - (intOf i).toNat)
  case atStart => exact ⟨0, by omega, rfl, rfl⟩
  case round =>
  obtain ⟨k, hk, rfl, rfl⟩ := hrel
  by_cases hlt : k < 128
  · have cD := (HQ.out.cell (4 + k)).trans (frV_D HOK.out k hlt)
    have lk : (k : Int) < 128 := by omega
    have ll : decide ((k : Int) < 128) = true := decide_eq_true lk
    have hno := hR.none k hlt
    have hso := hR.some k hlt
    have hgk : (x.H.map vBo)[k]? = some (.bool (x.H.getD k false)) := by
      have : k < x.H.length := by rw [HOK.out.H]; exact hlt
      simp [List.getD, this, vBo]
    obtain ⟨b, hb⟩ : ∃ b, x.H.getD k false = b := ⟨_, rfl⟩
    obtain ⟨u, hu⟩ : ∃ u, x.D.getD k 0 = u := ⟨_, rfl⟩
    rw [hb] at hno hso hgk
    rw [hu] at cD hno
    have HNO := Lib.hid hno
    have HSO := Lib.hid hso
    have HGK := Lib.hid hgk
    have hix := fun (W : World) => idx_have (x.H.map vBo) k _ hlt hgk W
    clear hno hso hgk hb hu
    cases b with
    | false =>
      obtain rfl : u = 0 := HNO.out rfl
      go_wp2_with fail
      go_roundw
      case rel => exact ⟨k + 1, by omega, by go_num, trivial⟩
      case measure => simp [intOf]; omega
    | true =>
      by_cases hln : x.ln = -1
      · have e1 : (x.ln != -1) = false := by simp [hln]
        clear hln
        go_wp2_with fail
        go_roundw
        case rel => exact ⟨k + 1, by omega, by go_num, trivial⟩
        case measure => simp [intOf]; omega
      · have e1 : (x.ln != -1) = true := by simpa using hln
        have hs := HSO.out rfl hln
        have e2 : decide (x.ln ≤ (k : Int)) = false := decide_eq_false (by omega)
        clear hln
        go_wp2_with fail
        go_roundw
        case rel => exact ⟨k + 1, by omega, by go_num, trivial⟩
        case measure => simp [intOf]; omega
  · obtain rfl : k = 128 := by omega
    go_wp2_with fail
    go_ret
    exact ⟨rfl, bV⟩
end Go.Proofs.Yteajboafcjeagaa
