/-
  Digests, and heads, compared.
-/
import Derived.Test.YtmbdfanaegadjaaSup
import Derived.DeepKeys
namespace Go.Proofs.Ytmbdfanaegadjaa
set_option maxRecDepth 20000
open Go.RowKit
set_option linter.unusedVariables false
set_option linter.unusedSimpArgs false
set_option maxHeartbeats 2000000

theorem mapM_some {β : Type} (f : Nat → Option β) (g : Nat → β) : ∀ (is : List Nat), (∀ i ∈ is, f i = some (g i)) → is.mapM f = some (is.map g)
  | [], _ => rfl
  | i :: is, h => by rw [List.mapM_cons, h i (by simp), mapM_some f g is (fun j hj => h j (by simp [hj]))]; rfl
def litB (u : UInt8) : Lit := .int .u8 (u.toNat : Int)
theorem litB_inj (D E : List UInt8) : D.map litB = E.map litB ↔ D = E :=
  List.map_inj_right (fun a b hab => by
    unfold litB at hab
    injection hab with _ h2
    exact UInt8.toNat_inj.1 (by omega))
theorem keyLits_u8 (d : Nat) (u : UInt8) : Try.prog.keyLits (d + 1) 5 [vB u] = some [litB u] := by
  have := u.toNat_lt
  unfold Program.keyLits vB litB
  rw [Try.underlying5]
  simp [Lit.wf, IntKind.min, IntKind.max, IntKind.signed, IntKind.bits]
  omega
theorem flat_single (D : List UInt8) (f : UInt8 → Lit) : ((List.range D.length).map fun i => [f (D.getD i 0)]).flatten = D.map f := by
  rw [← List.flatMap_def, ← List.map_eq_flatMap]
  apply List.ext_getElem
  · simp
  · intro i h1 h2
    have : i < D.length := by simpa using h2
    simp [List.getD, this]
theorem keyLits_digest (d : Nat) (D : List UInt8) (h : D.length = 32) : Try.prog.keyLits (d + 2) 24 (D.map vB) = some (D.map litB) := by
  have c1 : Try.prog.cellsOf 5 = 1 := by kernel_rfl
  have c2 : Try.prog.cellsOf 24 = 32 := by kernel_rfl
  unfold Program.keyLits
  rw [Try.underlying24]
  simp only []
  rw [if_pos (by rw [c2, List.length_map, h])]
  rw [mapM_some _ (fun i => [litB (D.getD i 0)]) (List.range 32) (fun i hi => ?_)]
  · have e := flat_single D litB
    rw [h] at e
    rw [Option.map_some, e]
  · have hi' : i < D.length := by rw [h]; simpa using hi
    rw [c1, Nat.mul_one, List.drop_eq_getElem_cons (by simpa using hi')]
    simp only [List.getElem_map, List.take_succ_cons, List.take_zero]
    rw [keyLits_u8]
    simp [List.getD, hi']
theorem formed_digest (D : List UInt8) (h : D.length = 32) : (Value.agg (D.map vB).toArray).formed Try.prog 24 = true := by
  have c2 : Try.prog.cellsOf 24 = 32 := by kernel_rfl
  unfold Value.formed; rw [Try.underlying24]
  simp [c2, h]
theorem run_eqIn_digest (d : Nat) (w : World) (D E : List UInt8) (hD : D.length = 32) (hE : E.length = 32) : (Op.equalIn (d + 4) 24 (.agg (D.map vB).toArray) (.agg (E.map vB).toArray)).run Try.prog w = .ok (decide (D = E)) w := by
  obtain ⟨r, hr, hiff⟩ := run_equalIn_deep (P := Try.prog) d 4 24 (by kernel_rfl) w 2 2 _ _ _ _ (formed_digest D hD) (formed_digest E hE) (keyLits_digest 0 D hD) (keyLits_digest 0 E hE)
  rw [hr]
  rw [litB_inj] at hiff
  congr 1
  rw [Bool.eq_iff_iff, hiff]; simp
theorem run_eql_digest (w : World) (D E : List UInt8) (hD : D.length = 32) (hE : E.length = 32) : (binOp .eql 24 (.agg (D.map vB).toArray) (.agg (E.map vB).toArray)).run Try.prog w = .ok (.bool (decide (D = E))) w := by
  rw [run_eql_struct, show (10000 : Nat) = 9996 + 4 from rfl, run_eqIn_digest _ w D E hD hE]; rfl
theorem run_neq_digest (w : World) (D E : List UInt8) (hD : D.length = 32) (hE : E.length = 32) : (binOp .neq 24 (.agg (D.map vB).toArray) (.agg (E.map vB).toArray)).run Try.prog w = .ok (.bool (!decide (D = E))) w := by
  rw [run_neq_struct, show (10000 : Nat) = 9996 + 4 from rfl, run_eqIn_digest _ w D E hD hE]; rfl

def Su.v (x : Su) : Array Value := suV x.g x.s x.l x.D
def Su.ok (x : Su) : Prop := x.g < 4294967296 ∧ (-9223372036854775808 ≤ x.s ∧ x.s ≤ 9223372036854775807) ∧ (-9223372036854775808 ≤ x.l ∧ x.l ≤ 9223372036854775807) ∧ x.D.length = 32
def Su.lits (x : Su) : List Lit := [[.int .u32 (x.g : Int)], [.int .i64 x.s], [.int .i64 x.l], x.D.map litB].flatten
theorem Su.lits_inj (x y : Su) : x.lits = y.lits ↔ x = y := by
  constructor
  · intro h
    obtain ⟨g, s, l, D⟩ := x
    obtain ⟨g', s', l', D'⟩ := y
    simp only [Su.lits, List.flatten_cons, List.flatten_nil, List.cons_append, List.nil_append, List.append_nil, List.cons.injEq, Lit.int.injEq, true_and, litB_inj] at h
    obtain ⟨h1, h2, h3, h4⟩ := h
    rw [h2, h3, h4, show g = g' by omega]
  · rintro rfl; rfl
theorem keyLits_su (x : Su) (h : x.ok) : Try.prog.keyLits 4 26 x.v.toList = some x.lits := by
  obtain ⟨g, s, l, D⟩ := x
  obtain ⟨h1, h2, h3, h4⟩ := h
  simp only at h1 h2 h3 h4
  have c0 : Try.prog.cellsOf 26 = 35 := by kernel_rfl
  have c1 : Try.prog.cellsOf 22 = 1 := by kernel_rfl
  have c2 : Try.prog.cellsOf 3 = 1 := by kernel_rfl
  have c3 : Try.prog.cellsOf 24 = 32 := by kernel_rfl
  have hv : (Su.v ⟨g, s, l, D⟩).toList = [.int .u32 g, .int .i64 s, .int .i64 l] ++ D.map vB := by simp [Su.v, suV]
  rw [hv]
  have k0 : Try.prog.keyLits 3 22 [.int .u32 (g : Int)] = some [.int .u32 (g : Int)] := by
    unfold Program.keyLits; rw [Try.underlying22]; simp [Lit.wf, IntKind.min, IntKind.max, IntKind.signed, IntKind.bits]; omega
  have k1 : ∀ z : Int, (-9223372036854775808 ≤ z ∧ z ≤ 9223372036854775807) → Try.prog.keyLits 3 3 [.int .i64 z] = some [.int .i64 z] := by
    intro z hz
    unfold Program.keyLits; rw [Try.underlying3]; simp [Lit.wf, IntKind.min, IntKind.max, IntKind.signed, IntKind.bits]; omega
  have k3 := keyLits_digest 1 D h4
  have t1 : ∀ L : List Value, L.length = 32 → L.take 32 = L := fun L hL => List.take_of_length_le (by omega)
  unfold Program.keyLits
  rw [Try.underlying26]
  simp only []
  rw [if_pos ⟨by rw [c0]; simp [h4], by decide +kernel⟩]
  simp [c1, c2, c3, k0, k1 s h2, k1 l h3, t1 (D.map vB) (by simp [h4]), k3, Su.lits]
theorem formed_su (x : Su) (h : x.ok) : (Value.agg x.v).formed Try.prog 26 = true := by
  have c2 : Try.prog.cellsOf 26 = 35 := by kernel_rfl
  have hs : x.v.size = 35 := by unfold Su.v; rw [suVn, h.2.2.2]
  unfold Value.formed; rw [Try.underlying26]
  simp [c2, hs]
theorem run_eqIn_su (d : Nat) (w : World) (x y : Su) (hx : x.ok) (hy : y.ok) : (Op.equalIn (d + 4) 26 (.agg x.v) (.agg y.v)).run Try.prog w = .ok (decide (x = y)) w := by
  obtain ⟨r, hr, hiff⟩ := run_equalIn_deep (P := Try.prog) d 4 26 (by kernel_rfl) w 4 4 _ _ _ _ (formed_su x hx) (formed_su y hy) (keyLits_su x hx) (keyLits_su y hy)
  rw [hr]
  rw [Su.lits_inj] at hiff
  congr 1
  rw [Bool.eq_iff_iff, hiff]; simp
theorem run_eql_su (w : World) (x y : Su) (hx : x.ok) (hy : y.ok) : (binOp .eql 26 (.agg x.v) (.agg y.v)).run Try.prog w = .ok (.bool (decide (x = y))) w := by
  rw [run_eql_struct, show (10000 : Nat) = 9996 + 4 from rfl, run_eqIn_su _ w x y hx hy]; rfl
theorem run_neq_su (w : World) (x y : Su) (hx : x.ok) (hy : y.ok) : (binOp .neq 26 (.agg x.v) (.agg y.v)).run Try.prog w = .ok (.bool (!decide (x = y))) w := by
  rw [run_neq_struct, show (10000 : Nat) = 9996 + 4 from rfl, run_eqIn_su _ w x y hx hy]; rfl
end Go.Proofs.Ytmbdfanaegadjaa
