/-
  Layer 21: frag: place.
-/
import Derived.Test.YteajboafcjeagaaFrgG
import Derived.Great.BuildSlice
namespace Go.Proofs.Yteajboafcjeagaa
set_option maxRecDepth 20000
open Go.RowKit
set_option linter.unusedVariables false
set_option linter.unusedSimpArgs false
set_option maxHeartbeats 8000000

/-- A packet in a variable. -/
def PkAt (w : World) (g : Nat) (id : Nat) (more : Bool) (pl proto : Int) (src dst : Nat) (B : Option Addr) (m d : Nat) : Prop := w.heap[g]? = some (.cells #[.int .u16 (id : Int), .bool more, .int .i64 pl, .int .i64 proto, .int .u32 (src : Int), .int .u32 (dst : Int), .slice B m d] 61 (0, 0))
section
variable {w w' : World} {g id : Nat} {more : Bool} {pl proto : Int} {src dst : Nat} {B : Option Addr} {m d : Nat}
theorem PkAt.up (h : PkAt w g id more pl proto src dst B m d) (hb : Below w.heap.size w w') : PkAt w' g id more pl proto src dst B m d := frw_up h hb
theorem PkAt.lt (h : PkAt w g id more pl proto src dst B m d) : g < w.heap.size := frw_lt h
theorem PkAt.cells (h : PkAt w g id more pl proto src dst B m d) : w.cell? ⟨g, 0, none⟩ = some (.int .u16 (id : Int)) ∧ w.cell? ⟨g, 1, none⟩ = some (.bool more) ∧ w.cell? ⟨g, 2, none⟩ = some (.int .i64 pl) ∧ w.cell? ⟨g, 3, none⟩ = some (.int .i64 proto) ∧ w.cell? ⟨g, 4, none⟩ = some (.int .u32 (src : Int)) ∧ w.cell? ⟨g, 5, none⟩ = some (.int .u32 (dst : Int)) ∧ w.cell? ⟨g, 6, none⟩ = some (.slice B m d) :=
  ⟨(cell_of_row w g 0 _ _ _ h).trans rfl, (cell_of_row w g 1 _ _ _ h).trans rfl, (cell_of_row w g 2 _ _ _ h).trans rfl, (cell_of_row w g 3 _ _ _ h).trans rfl, (cell_of_row w g 4 _ _ _ h).trans rfl, (cell_of_row w g 5 _ _ _ h).trans rfl, (cell_of_row w g 6 _ _ _ h).trans rfl⟩
end
theorem fex_load {P : Program} {o : Oper} {a : Act} {w : World} {ty : TypeId} {x : Operand} {p : Addr} {v : Value} (ho : o.op = .load ty x) (hx : a.eval x = .pointer (some p)) (hl : (loadVar ty p).run P w = .ok v w) : (execOp a.eval o).run P w = .ok (.value v) w := by
  unfold execOp
  simp only [ho, hx, Instr.loadAt, Instr.sureAddr, Sem.run_bind, Sem.run_pure, Result.andThen_ok, hl]
theorem fr_run {w w' : World} {h : Nat} {x : Fr} (hok : x.ok) (v : FrgAt w h x) (hb : Below w.heap.size w w') : (loadVar 85 ⟨h, 0, none⟩).run Try.prog w' = .ok (.agg (frA x)) w' :=
  run_loadVar_row w' h 85 85 (frA x) (0, 0) _ (v.up hb) Try.underlying85 rfl (fr_info hok)
theorem fex_eql {P : Program} {o : Oper} {a : Act} {w : World} {ty : TypeId} {x y : Operand} {xs ys : Array Value} {r : Bool} (ho : o.op = .binOp .eql ty x y ty) (hx : a.eval x = .agg xs) (hy : a.eval y = .agg ys) (hm : P.eqGuardType P.depth ty = false)
    (h : (Op.equal ty (.agg xs) (.agg ys)).run P w = .ok r w) : (execOp a.eval o).run P w = .ok (.value (.bool r)) w := by
  unfold execOp
  have hb : (binOp .eql ty (.agg xs) (.agg ys)).run P w = .ok (.bool r) w := by
    rw [run_eql_struct]
    have h' : (Op.equalIn 10000 ty (.agg xs) (.agg ys)).run P w = .ok r w := h
    rw [h']; rfl
  simp only [ho, hx, hy, Sem.run_bind, run_eqGuard_agg (hm := hm), Result.andThen_ok, hb, Sem.run_pure]
theorem frgPlace1_any (x : Fr) (hok : x.ok) (g id : Nat) (more : Bool) (pl proto : Int) (src dst : Nat) (B : Option Addr) (m d : Nat) (w : World) (hp : PkAt w g id more pl proto src dst B m d) (ho : OwOk (src, dst, id, proto)) :
    Calls Try.prog 65 #[.agg (frA x), .pointer (some ⟨g, 0, none⟩)] w (RetV w (.bool (decide (x.ow = (src, dst, id, proto))))) := by
  obtain ⟨V, hV⟩ : ∃ V, V = w.alloc (.cells (frA x) 85) := ⟨_, rfl⟩
  have bV : Below w.heap.size w V := by rw [hV]; exact (below_self w).alloc (Nat.le_refl _) _
  have q : FrgAt V w.heap.size x := by rw [hV]; exact frw_at _ rfl
  have qp := hp.up bV
  obtain ⟨c0, _, _, c3, c4, c5, _⟩ := qp.cells
  have lg := qp.lt
  have HV := Lib.hid hV
  have HQ := Lib.hid q
  have C : Hid (∀ W, Calls Try.prog 57 #[.agg (frA x)] W (RetV W (.agg (owV x.src x.dst x.id x.proto)))) := Lib.hid (fun W => frgOf_any x hok W)
  have HE := Lib.hid (fun W => run_equal_ow x.ow (src, dst, id, proto) hok.ow ho W)
  obtain ⟨F, hF⟩ : ∃ F, decide (x.ow = (src, dst, id, proto)) = F := ⟨_, rfl⟩
  rw [hF] at HE ⊢
  clear hV q hp qp hF
  go_enter Try.func65, Try.ntmps65
  go_wp2_with (rw [← HV.out])
  refine wp_region_seg (S := fun w' => Below V.heap.size V w') 0 #[true, true, true, true, true, true, true, true, true, true, true, true, true] [(0, true), (2, true), (3, true), (4, true), (5, true), (6, true), (7, true), (8, true), (9, true), (10, true), (1, false), (11, true), (12, true)] (by kernel_rfl) (by kernel_rfl) (fun _ _ d _ _ h => by first | (cases d <;> exact h) | cases h.1) ((Below.refl V.heap.size V).drew) ?_
  have HB := (Below.refl V.heap.size V).drew
  refine seg_take (v := .agg (frA x)) rfl (Or.inl ⟨by rfl, fun w' hw' => ?_⟩) ?_
  focus (exact fex_load rfl rfl (fr_run hok HQ.out hw'))
  try simp only [Act.put, List.setIfInBounds_toArray, List.set_cons_zero, List.set_cons_succ]
  iterate 9 (refine seg_take (v := ?_) rfl (Or.inl ⟨by rfl, ?_⟩) ?_; rotate_left; (focus (intro w' hw'; have j0 := (hw'.cell (p := ⟨g, 0, none⟩) lg).trans c0; have j3 := (hw'.cell (p := ⟨g, 3, none⟩) lg).trans c3; have j4 := (hw'.cell (p := ⟨g, 4, none⟩) lg).trans c4; have j5 := (hw'.cell (p := ⟨g, 5, none⟩) lg).trans c5; go_simp <;> with_reducible rfl)); try simp only [Act.put, List.setIfInBounds_toArray, List.set_cons_zero, List.set_cons_succ])
  refine seg_run rfl (fun K hK => ?_)
  go_simp
  refine (C.out _).mono ?_
  rintro e_ wA ⟨rfl, hbA⟩
  have HB := below_then HB hbA
  refine hK.out _ _ (HB) ?_
  clear hK
  try simp only [Act.put, List.setIfInBounds_toArray, List.set_cons_zero, List.set_cons_succ]
  refine seg_take (v := .bool F) rfl (Or.inl ⟨by rfl, fun w' hw' => ?_⟩) ?_
  focus (exact fex_eql rfl rfl rfl (by kernel_rfl) (HE.out w'))
  try simp only [Act.put, List.setIfInBounds_toArray, List.set_cons_zero, List.set_cons_succ]
  iterate 1 (refine seg_take (v := ?_) rfl (Or.inl ⟨by rfl, ?_⟩) ?_; rotate_left; (focus (intro w' hw'; have j0 := (hw'.cell (p := ⟨g, 0, none⟩) lg).trans c0; have j3 := (hw'.cell (p := ⟨g, 3, none⟩) lg).trans c3; have j4 := (hw'.cell (p := ⟨g, 4, none⟩) lg).trans c4; have j5 := (hw'.cell (p := ⟨g, 5, none⟩) lg).trans c5; go_simp <;> with_reducible rfl)); try simp only [Act.put, List.setIfInBounds_toArray, List.set_cons_zero, List.set_cons_succ])
  refine seg_done (fun _ => ?_)
  refine wpAnyH_done (by kernel_rfl) ?_ _
  go_wp2_with fail
  go_ret
  exact ⟨rfl, below_then bV HB⟩
def RetFi (w : World) (n : Nat) (p : Nat → Bool) (e : Ending) (w' : World) : Prop := ((∃ j : Nat, e = .returned (.int .i64 (j : Int)) ∧ j < n ∧ p j = true ∧ ∀ i, i < j → p i = false) ∨ (e = .returned (.int .i64 (-1)) ∧ ∀ j, j < n → p j = false)) ∧ Below w.heap.size w w'
def FiI (V : World) (n : Nat) (p : Nat → Bool) (v : Value) (wr : World) : Prop := ∃ k : Nat, k ≤ n ∧ v = .int .i64 (k : Int) ∧ (∀ j, j < k → p j = false) ∧ Below V.heap.size V wr
theorem fi_next {k : Nat} {p : Nat → Bool} (h : ∀ j, j < k → p j = false) (hk : p k = false) : ∀ j, j < k + 1 → p j = false := fun j hj => by
  rcases Nat.lt_or_ge j k with h2 | h2
  · exact h j h2
  · obtain rfl : j = k := by omega
    exact hk
theorem idxFr_any (g id : Nat) (more : Bool) (pl proto : Int) (src dst : Nat) (B : Option Addr) (m d : Nat) (A : Option Addr) (n c : Nat) (l : List Fr) (w : World) (hr : RdFr w A n c l) (hp : PkAt w g id more pl proto src dst B m d) (ho : OwOk (src, dst, id, proto)) :
    Calls Try.prog 64 #[.slice A n c, .func (.func 65) #[] #[.pointer (some ⟨g, 0, none⟩)]] w (RetFi w n (fun j => decide ((l.getD j fr0).ow = (src, dst, id, proto)))) := by
  have hn63 := hr.n63
  go_enter Try.func64, Try.ntmps64
  go_wp2_with fail
  go_loopw [8] (FiI w n (fun j => decide ((l.getD j fr0).ow = (src, dst, id, proto)))) (fun i _ => n - (intOf i).toNat)
  case atStart => exact ⟨0, by omega, rfl, fun j hj => by omega, Below.refl _ _⟩
  case round =>
  obtain ⟨k, hk, rfl, hq, hB⟩ := hrel
  have HPp := Lib.hid hq
  clear hq
  by_cases hlt : k < n
  · obtain ⟨b, o, rfl, hb, hok, hin⟩ := (hr.below hB).fr k hlt
    obtain ⟨x, hx⟩ : ∃ x, l.getD k fr0 = x := ⟨_, rfl⟩
    rw [hx] at hok hin
    have lk : (k : Int) < (n : Int) := by omega
    have HX := Lib.hid hx
    have HIN := Lib.hid hin
    have HOK := Lib.hid hok
    have H := Lib.hid (frgPlace1_any x hok g id more pl proto src dst B m d wr (hp.up hB) ho)
    obtain ⟨T, hT⟩ : ∃ T, decide (x.ow = (src, dst, id, proto)) = T := ⟨_, rfl⟩
    rw [hT] at H
    have HT := Lib.hid hT
    have HP := Lib.hid hp
    clear hx hin hT hp
    go_wp2_with (refine fr_mid HOK.out rfl _ rfl b (o + k * 262) rfl HIN.out ?_)
    refine H.out.mono ?_
    rintro e w2 ⟨rfl, hb2⟩
    cases T with
    | false =>
      go_wp2_with fail
      go_roundw
      case rel => exact ⟨k + 1, by omega, by go_num, fi_next HPp.out (by show decide ((l.getD k fr0).ow = _) = false; rw [HX.out]; exact HT.out), below_then hB hb2⟩
      case measure => simp [intOf]; omega
    | true =>
      go_wp2_with fail
      go_ret
      exact ⟨.inl ⟨k, rfl, hlt, by show decide ((l.getD k fr0).ow = _) = true; rw [HX.out]; exact HT.out, HPp.out⟩, below_then hB hb2⟩
  · obtain rfl : n = k := by omega
    go_wp2_with fail
    go_ret
    exact ⟨.inr ⟨rfl, HPp.out⟩, hB⟩
end Go.Proofs.Yteajboafcjeagaa
