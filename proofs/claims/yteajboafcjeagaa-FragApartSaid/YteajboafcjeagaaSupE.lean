/-
  Digests, and heads, compared.
-/
import Derived.Test.YteajboafcjeagaaSup
import Derived.DeepKeys
namespace Go.Proofs.Yteajboafcjeagaa
set_option maxRecDepth 20000
open Go.RowKit
set_option linter.unusedVariables false
set_option linter.unusedSimpArgs false
set_option maxHeartbeats 2000000

theorem mapM_some {β : Type} (f : Nat → Option β) (g : Nat → β) : ∀ (is : List Nat), (∀ i ∈ is, f i = some (g i)) → is.mapM f = some (is.map g)
  | [], _ => rfl
  | i :: is, h => by rw [List.mapM_cons, h i (by simp), mapM_some f g is (fun j hj => h j (by simp [hj]))]; rfl
def litB (u : UInt8) : Lit := .int .u8 (u.toNat : Int)
theorem litB_inj (D E : List UInt8) : D.map litB = E.map litB ↔ D = E :=
  List.map_inj_right (fun a b hab => by
    unfold litB at hab
    injection hab with _ h2
    exact UInt8.toNat_inj.1 (by omega))
theorem keyLits_u8 (d : Nat) (u : UInt8) : Try.prog.keyLits (d + 1) 5 [vB u] = some [litB u] := by
  have := u.toNat_lt
  unfold Program.keyLits vB litB
  rw [Try.underlying5]
  simp [Lit.wf, IntKind.min, IntKind.max, IntKind.signed, IntKind.bits]
  omega
theorem flat_single (D : List UInt8) (f : UInt8 → Lit) : ((List.range D.length).map fun i => [f (D.getD i 0)]).flatten = D.map f := by
  rw [← List.flatMap_def, ← List.map_eq_flatMap]
  apply List.ext_getElem
  · simp
  · intro i h1 h2
    have : i < D.length := by simpa using h2
    simp [List.getD, this]
def Su.v (x : Su) : Array Value := suV x.g x.s x.l x.D
def Su.ok (x : Su) : Prop := x.g < 4294967296 ∧ (-9223372036854775808 ≤ x.s ∧ x.s ≤ 9223372036854775807) ∧ (-9223372036854775808 ≤ x.l ∧ x.l ≤ 9223372036854775807) ∧ x.D.length = 32
def Su.lits (x : Su) : List Lit := [[.int .u32 (x.g : Int)], [.int .i64 x.s], [.int .i64 x.l], x.D.map litB].flatten
theorem Su.lits_inj (x y : Su) : x.lits = y.lits ↔ x = y := by
  constructor
  · intro h
    obtain ⟨g, s, l, D⟩ := x
    obtain ⟨g', s', l', D'⟩ := y
    simp only [Su.lits, List.flatten_cons, List.flatten_nil, List.cons_append, List.nil_append, List.append_nil, List.cons.injEq, Lit.int.injEq, true_and, litB_inj] at h
    obtain ⟨h1, h2, h3, h4⟩ := h
    rw [h2, h3, h4, show g = g' by omega]
  · rintro rfl; rfl
end Go.Proofs.Yteajboafcjeagaa
