/-
  Layer 21: frag: Take.
-/
import Derived.Test.YteajboafcjeagaaFrgI
namespace Go.Proofs.Yteajboafcjeagaa
set_option maxRecDepth 20000
open Go.RowKit
set_option linter.unusedVariables false
set_option linter.unusedSimpArgs false
set_option maxHeartbeats 8000000

theorem pk_open {w : World} {g : Nat} {x0 x1 x2 x3 x4 x5 x6 : Value} {T : TypeId} (hrow : w.heap[g]? = some (.cells #[x0, x1, x2, x3, x4, x5, x6] T (0, 0))) :
    (w.cell? ⟨g, 0, none⟩ = some x0 ∧ w.cell? ⟨g, 1, none⟩ = some x1 ∧ w.cell? ⟨g, 2, none⟩ = some x2 ∧ w.cell? ⟨g, 3, none⟩ = some x3 ∧ w.cell? ⟨g, 4, none⟩ = some x4 ∧ w.cell? ⟨g, 5, none⟩ = some x5 ∧ w.cell? ⟨g, 6, none⟩ = some x6) ∧ ∀ i, w.frozen? ⟨g, i, none⟩ = false :=
  ⟨⟨(cell_of_row w g 0 _ _ _ hrow).trans rfl, (cell_of_row w g 1 _ _ _ hrow).trans rfl, (cell_of_row w g 2 _ _ _ hrow).trans rfl, (cell_of_row w g 3 _ _ _ hrow).trans rfl, (cell_of_row w g 4 _ _ _ hrow).trans rfl, (cell_of_row w g 5 _ _ _ hrow).trans rfl, (cell_of_row w g 6 _ _ _ hrow).trans rfl⟩, fun i => frozen_of_row w g i _ _ hrow⟩
theorem pk_set7 {w : World} {g : Nat} {x0 x1 x2 x3 x4 x5 x6 : Value} {T : TypeId} (hrow : w.heap[g]? = some (.cells #[x0, x1, x2, x3, x4, x5, x6] T (0, 0))) (v0 v1 v2 v3 v4 v5 v6 : Value) :
    (((((((w.setCell ⟨g, 0, none⟩ v0).setCell ⟨g, 1, none⟩ v1).setCell ⟨g, 2, none⟩ v2).setCell ⟨g, 3, none⟩ v3).setCell ⟨g, 4, none⟩ v4).setCell ⟨g, 5, none⟩ v5).setCell ⟨g, 6, none⟩ v6).heap[g]? = some (.cells #[v0, v1, v2, v3, v4, v5, v6] T (0, 0)) :=
  setc_rowT (setc_rowT (setc_rowT (setc_rowT (setc_rowT (setc_rowT (setc_rowT hrow))))))
theorem pk_but7 {w0 w : World} {g : Nat} (h : ButG g w0 w) (v0 v1 v2 v3 v4 v5 v6 : Value) : ButG g w0 (((((((w.setCell ⟨g, 0, none⟩ v0).setCell ⟨g, 1, none⟩ v1).setCell ⟨g, 2, none⟩ v2).setCell ⟨g, 3, none⟩ v3).setCell ⟨g, 4, none⟩ v4).setCell ⟨g, 5, none⟩ v5).setCell ⟨g, 6, none⟩ v6) :=
  ((((((h.set 0 v0).set 1 v1).set 2 v2).set 3 v3).set 4 v4).set 5 v5).set 6 v6
/-- An empty packet. -/
def pk0 : Array Value := #[.int .u16 0, .bool false, .int .i64 0, .int .i64 0, .int .u32 0, .int .u32 0, .slice none 0 0]
theorem fres4 {P : Program} {fn : Func} {p q r s : Tmp} {ty : TypeId} (h : fn.results = #[.tmp p, .cell q ty, .tmp r, .tmp s]) (tmps : Array Value) (w : World) (g : Nat) (t : TypeId) (cs : Array Value) (fr : Nat × Nat) (d : TypeDesc)
    (hp : tmps.getD q undef = .pointer (some ⟨g, 0, none⟩)) (hg : w.heap[g]? = some (.cells cs t fr))
    (hu : P.underlying ty = some d) (hd : (match d with | .struct _ | .array _ _ => true | _ => false) = true) (hi : (P.info? ty).map (·.size) = some cs.size) :
    (results fn tmps).run P w = .ok (.tuple #[tmps.getD p undef, .agg cs, tmps.getD r undef, tmps.getD s undef]) w := by
  have hp' : tmps[q]?.getD undef = .pointer (some ⟨g, 0, none⟩) := by simpa using hp
  simp [results, h, hp', asAddr, run_loadVar_row w g t ty cs fr d hg hu hd hi]
theorem pk_info : (Try.prog.info? 61).map (·.size) = some 7 := by kernel_rfl
/-- Where a packet's datagram stands: in which list, and where. -/
def Placed (l : List Fr) (po : OwT) (now : Nat) (lp : List Fr) (j : Nat) : Prop := (lp = l ∧ j < l.length ∧ (l.getD j fr0).ow = po) ∨ (lp = l ++ [frN po.1 po.2.1 po.2.2.1 po.2.2.2 (now + 30)] ∧ j = l.length ∧ ∀ x ∈ l, x.ow ≠ po)
theorem retPl_of {w : World} {l : List Fr} {po : OwT} {now : Nat} {e : Ending} {w' : World} (h : RetPl w l po now e w') : ∃ A n c lp j, e = .returned (.tuple #[.slice A n c, .int .i64 ((j : Nat) : Int)]) ∧ OwFr w' w.heap.size A n c lp ∧ j < n ∧ Placed l po now lp j ∧ Below w.heap.size w w' := by
  rcases h with ⟨A, n, c, j, rfl, h1, h2, h3, h4⟩ | ⟨A, n, c, rfl, h1, h2, h3⟩
  · exact ⟨A, n, c, l, j, rfl, h1, by rw [← h1.lent]; exact h2, .inl ⟨rfl, h2, h3⟩, h4⟩
  · exact ⟨A, n, c, _, l.length, rfl, h1, by have := h1.lent; simp at this; omega, .inr ⟨rfl, rfl, h2⟩, h3⟩
def frWhole (y : Fr) : Bool := !(decide (y.ln = -1) || decide ((fHad y.H 0 false : Int) < y.ln))
/-- What taking a piece comes to. -/
def RetTa (w : World) (l : List Fr) (id pl : Nat) (more : Bool) (proto : Int) (src dst : Nat) (xs : List UInt8) (now : Nat) (e : Ending) (w' : World) : Prop := ∃ lp j, Placed l (src, dst, id, proto) now lp j ∧
  ((frWhole (fAdd (lp.getD j fr0) pl more xs) = false ∧ ∃ A n c, e = .returned (.tuple #[.slice A n c, .agg pk0, .bool false, .int .i64 0]) ∧ OwFr w' w.heap.size A n c (lp.set j (fAdd (lp.getD j fr0) pl more xs)) ∧ Below w.heap.size w w') ∨
   (frWhole (fAdd (lp.getD j fr0) pl more xs) = true ∧ ∃ A n c B k d, e = .returned (.tuple #[.slice A n c, .agg #[.int .u16 (id : Int), .bool false, .int .i64 0, .int .i64 proto, .int .u32 (src : Int), .int .u32 (dst : Int), .slice B k d], .bool true, .int .i64 0]) ∧ OwFr w' w.heap.size A n c (lp.take j ++ lp.drop (j + 1)) ∧ OwnB w' w.heap.size B k d ((fAdd (lp.getD j fr0) pl more xs).D.take (fAdd (lp.getD j fr0) pl more xs).ln.toNat) ∧ Below w.heap.size w w'))
/-- A row of datagrams, opened at one. -/
theorem OwFr.at_ {w : World} {base : Nat} {A : Option Addr} {n c : Nat} {l : List Fr} (h : OwFr w base A n c l) (j : Nat) (hj : j < n) :
    ∃ g pre post, A = some ⟨g, 0, none⟩ ∧ base ≤ g ∧ pre.length = j * 262 ∧ FrRow w g pre (l.getD j fr0) post ∧ ∀ (W : World) (y : Fr), y.ok → FrRow W g pre y post → OwFr W base A n c (l.set j y) := by
  obtain ⟨g, zs, rfl, hb, hrow, hz, hnc, hcm, ht, hl⟩ := h.row (by omega)
  have hjl : j < l.length := by omega
  have e : l.getD j fr0 = l[j] := by simp [List.getD, hjl]
  have hx := frV_len (h.2 _ (List.getElem_mem hjl))
  have hpl : (zs.take (j * 262)).length = j * 262 := by rw [List.length_take, hz]; omega
  have hseg : zs.drop (j * 262) = frV l[j] ++ zs.drop (j * 262 + 262) := by
    have h1 : (zs.drop (j * 262)).take 262 = frV l[j] := by
      have h2 : (zs.take (n * 262)).drop (j * 262) = (l.drop j).flatMap frV := by rw [ht, frs_drop _ _ h.2]
      rw [List.drop_take] at h2
      have h3 := congrArg (List.take 262) h2
      rw [List.take_take, Nat.min_eq_left (by omega), List.drop_eq_getElem_cons hjl, List.flatMap_cons, List.take_left' hx] at h3
      exact h3
    have h5 : zs.drop (j * 262 + 262) = (zs.drop (j * 262)).drop 262 := by rw [List.drop_drop]
    rw [← h1, h5, List.take_append_drop]
  refine ⟨g, zs.take (j * 262), zs.drop (j * 262 + 262), rfl, hb, hpl, ?_, fun W y hy hW => ?_⟩
  · rw [e]; unfold FrRow; rw [← hseg, List.take_append_drop]; exact hrow
  · have hy2 := frV_len hy
    refine ofr_of_row hb hW (by simp only [List.length_append, List.length_take, List.length_drop, hy2, hz]; omega) hnc hcm ?_ (by simpa using hl) (fun x hx => by
      rcases List.mem_or_eq_of_mem_set hx with h1 | rfl
      · exact h.2 x h1
      · exact hy)
    have e1 : (l.set j y) = l.take j ++ y :: l.drop (j + 1) := List.set_eq_take_append_cons_drop.trans (if_pos hjl)
    have e2 : zs.take (j * 262) = (l.take j).flatMap frV := by rw [← frs_take _ _ h.2, ← ht, List.take_take]; congr 1; omega
    have e3 : (zs.drop (j * 262 + 262)).take ((n - (j + 1)) * 262) = (l.drop (j + 1)).flatMap frV := by
      rw [← frs_drop _ _ h.2, ← ht, List.drop_take, show (j + 1) * 262 = j * 262 + 262 by omega, show n * 262 - (j * 262 + 262) = (n - (j + 1)) * 262 by omega]
    rw [e1, List.flatMap_append, List.flatMap_cons, ← e3, ← e2]
    generalize zs.drop (j * 262 + 262) = T at *
    have e4 : n * 262 = (zs.take (j * 262)).length + ((frV y).length + (n - (j + 1)) * 262) := by rw [hpl, hy2]; omega
    rw [e4, List.take_length_add_append, List.take_length_add_append]
theorem OwFr.but {w w' : World} {h base : Nat} {A : Option Addr} {n c : Nat} {l : List Fr} (o : OwFr w base A n c l) (k : ButG h w w') (hne : ∀ a, A = some a → a.block ≠ h) : OwFr w' base A n c l := by
  refine ⟨⟨o.1.1, ?_⟩, o.2⟩
  rcases o.1.2 with h1 | ⟨g, cap, cur, hv, hbb, hg, r⟩
  · exact .inl h1
  · have hA : A = some ⟨g, 0, none⟩ := by injection hv
    exact .inr ⟨g, cap, cur, hv, hbb, (k.other g (hne _ hA) (frw_lt hg)).trans hg, r⟩
end Go.Proofs.Yteajboafcjeagaa
