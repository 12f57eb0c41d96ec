/-
  Digests, and heads, compared.
-/
import Derived.Test.YtnfepikgbdeomaaSup
import Derived.DeepKeys
namespace Go.Proofs.Ytnfepikgbdeomaa
set_option maxRecDepth 20000
open Go.RowKit
set_option linter.unusedVariables false
set_option linter.unusedSimpArgs false
set_option maxHeartbeats 2000000

theorem mapM_some {β : Type} (f : Nat → Option β) (g : Nat → β) : ∀ (is : List Nat), (∀ i ∈ is, f i = some (g i)) → is.mapM f = some (is.map g)
  | [], _ => rfl
  | i :: is, h => by rw [List.mapM_cons, h i (by simp), mapM_some f g is (fun j hj => h j (by simp [hj]))]; rfl
def litB (u : UInt8) : Lit := .int .u8 (u.toNat : Int)
theorem litB_inj (D E : List UInt8) : D.map litB = E.map litB ↔ D = E :=
  List.map_inj_right (fun a b hab => by
    unfold litB at hab
    injection hab with _ h2
    exact UInt8.toNat_inj.1 (by omega))
theorem keyLits_u8 (d : Nat) (u : UInt8) : Try.prog.keyLits (d + 1) 5 [vB u] = some [litB u] := by
  have := u.toNat_lt
  unfold Program.keyLits vB litB
  rw [Try.underlying5]
  simp [Lit.wf, IntKind.min, IntKind.max, IntKind.signed, IntKind.bits]
  omega
theorem flat_single (D : List UInt8) (f : UInt8 → Lit) : ((List.range D.length).map fun i => [f (D.getD i 0)]).flatten = D.map f := by
  rw [← List.flatMap_def, ← List.map_eq_flatMap]
  apply List.ext_getElem
  · simp
  · intro i h1 h2
    have : i < D.length := by simpa using h2
    simp [List.getD, this]
theorem keyLits_digest (d : Nat) (D : List UInt8) (h : D.length = 32) : Try.prog.keyLits (d + 2) 67 (D.map vB) = some (D.map litB) := by
  have c1 : Try.prog.cellsOf 5 = 1 := by kernel_rfl
  have c2 : Try.prog.cellsOf 67 = 32 := by kernel_rfl
  unfold Program.keyLits
  rw [Try.underlying67]
  simp only []
  rw [if_pos (by rw [c2, List.length_map, h])]
  rw [mapM_some _ (fun i => [litB (D.getD i 0)]) (List.range 32) (fun i hi => ?_)]
  · have e := flat_single D litB
    rw [h] at e
    rw [Option.map_some, e]
  · have hi' : i < D.length := by rw [h]; simpa using hi
    rw [c1, Nat.mul_one, List.drop_eq_getElem_cons (by simpa using hi')]
    simp only [List.getElem_map, List.take_succ_cons, List.take_zero]
    rw [keyLits_u8]
    simp [List.getD, hi']
theorem formed_digest (D : List UInt8) (h : D.length = 32) : (Value.agg (D.map vB).toArray).formed Try.prog 67 = true := by
  have c2 : Try.prog.cellsOf 67 = 32 := by kernel_rfl
  unfold Value.formed; rw [Try.underlying67]
  simp [c2, h]
theorem run_eqIn_digest (d : Nat) (w : World) (D E : List UInt8) (hD : D.length = 32) (hE : E.length = 32) : (Op.equalIn (d + 4) 67 (.agg (D.map vB).toArray) (.agg (E.map vB).toArray)).run Try.prog w = .ok (decide (D = E)) w := by
  obtain ⟨r, hr, hiff⟩ := run_equalIn_deep (P := Try.prog) d 4 67 (by kernel_rfl) w 2 2 _ _ _ _ (formed_digest D hD) (formed_digest E hE) (keyLits_digest 0 D hD) (keyLits_digest 0 E hE)
  rw [hr]
  rw [litB_inj] at hiff
  congr 1
  rw [Bool.eq_iff_iff, hiff]; simp
theorem run_eql_digest (w : World) (D E : List UInt8) (hD : D.length = 32) (hE : E.length = 32) : (binOp .eql 67 (.agg (D.map vB).toArray) (.agg (E.map vB).toArray)).run Try.prog w = .ok (.bool (decide (D = E))) w := by
  rw [run_eql_struct, show (10000 : Nat) = 9996 + 4 from rfl, run_eqIn_digest _ w D E hD hE]; rfl
theorem run_neq_digest (w : World) (D E : List UInt8) (hD : D.length = 32) (hE : E.length = 32) : (binOp .neq 67 (.agg (D.map vB).toArray) (.agg (E.map vB).toArray)).run Try.prog w = .ok (.bool (!decide (D = E))) w := by
  rw [run_neq_struct, show (10000 : Nat) = 9996 + 4 from rfl, run_eqIn_digest _ w D E hD hE]; rfl

def Su.v (x : Su) : Array Value := suV x.g x.s x.l x.D
def Su.ok (x : Su) : Prop := x.g < 4294967296 ∧ (-9223372036854775808 ≤ x.s ∧ x.s ≤ 9223372036854775807) ∧ (-9223372036854775808 ≤ x.l ∧ x.l ≤ 9223372036854775807) ∧ x.D.length = 32
def Su.lits (x : Su) : List Lit := [[.int .u32 (x.g : Int)], [.int .i64 x.s], [.int .i64 x.l], x.D.map litB].flatten
theorem Su.lits_inj (x y : Su) : x.lits = y.lits ↔ x = y := by
  constructor
  · intro h
    obtain ⟨g, s, l, D⟩ := x
    obtain ⟨g', s', l', D'⟩ := y
    simp only [Su.lits, List.flatten_cons, List.flatten_nil, List.cons_append, List.nil_append, List.append_nil, List.cons.injEq, Lit.int.injEq, true_and, litB_inj] at h
    obtain ⟨h1, h2, h3, h4⟩ := h
    rw [h2, h3, h4, show g = g' by omega]
  · rintro rfl; rfl
end Go.Proofs.Ytnfepikgbdeomaa
