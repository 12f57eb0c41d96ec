/-
  'append(s, make([]byte, k)...)' where s is owned.
-/
import Derived.Test.YteajboafcjeagaaOps
namespace Go.Proofs.Yteajboafcjeagaa
set_option maxRecDepth 20000
open Go.RowKit
set_option linter.unusedVariables false
set_option linter.unusedSimpArgs false

theorem zeros_u8 (k : Nat) : (Builtin.zeroCells (Value.int .u8 0).cells k).toList = (List.replicate k (0 : UInt8)).map vB := by
  rw [show (Value.int .u8 0).cells = #[Value.int .u8 0] from rfl]
  apply List.ext_getElem
  · simp [Builtin.zeroCells]
  · intro i h1 h2
    simp [Builtin.zeroCells, vB, Nat.mod_one]
theorem run_appZ {w : World} {base n c : Nat} {A : Option Addr} {xs : List UInt8} (hown : OwnB w base A n c xs) (ty tn : TypeId) (kn kq : IntKind) (htn : Try.prog.underlying tn = some (.int kn)) (k : Nat) (hm : n + k ≤ 70368744177664) (hbase : base ≤ w.heap.size) :
    ∃ A' c' w', (Builtin.append_ #[35, tn] ty #[.slice A n c, .int kq k]).run Try.prog w = .ok (.slice A' (n + k) c') w' ∧ OwnB w' base A' (n + k) c' (xs ++ List.replicate k 0) ∧ w.grownBy w' (Value.slice A n c).ownBlock := by
  obtain ⟨i, hi, hz, hsz, hby⟩ := info_parts elemB.info
  have ht := elemB.slice
  have hlen := hown.len
  have hw : IntKind.i64.wrap (k : Int) = k := by rw [IntKind.wrap_i64]; omega
  have hneg : ¬ ((k : Int) < 0) := by omega
  have h48i : ¬ (281474976710656 < (k : Int) * (i.bytes : Int)) := by rw [hby]; omega
  rcases Nat.eq_zero_or_pos k with rfl | hk
  · refine ⟨A, c, w, ?_, by simpa using hown, World.grownBy.refl _ _⟩
    have hnc : n ≤ c := hown.rd.2.2.1
    have hw0 : IntKind.i64.wrap 0 = 0 := by decide
    cases A with
    | none => simp [Builtin.append_, run_underlying ht, run_underlying htn, sizeOf, typeInfo, zeroValue, hi, hz, asInt, asIntOf, hnc, Builtin.lenOf, hw0]
    | some a => simp [Builtin.append_, run_underlying ht, run_underlying htn, sizeOf, typeInfo, zeroValue, hi, hz, asInt, asIntOf, hnc, Builtin.lenOf, hw0, storeCells]
  · have grown : ∀ (old : Nat), old < n + k → ∀ (row : Option Nat),
        OwnB (w.drew.alloc (.cells ((xs.map vB).toArray ++ Builtin.zeroCells (Value.int .u8 0).cells k ++ Builtin.zeroCells (Value.int .u8 0).cells (grownCap w (n + k) old 5 - (n + k))) 5)) base (some ⟨w.heap.size, 0, none⟩) (n + k) (grownCap w (n + k) old 5) (xs ++ List.replicate k 0) ∧
        w.grownBy (w.drew.alloc (.cells ((xs.map vB).toArray ++ Builtin.zeroCells (Value.int .u8 0).cells k ++ Builtin.zeroCells (Value.int .u8 0).cells (grownCap w (n + k) old 5 - (n + k))) 5)) row := by
      intro old ho row
      have hge := grownCap_ge w (n + k) old 5
      have hcm : grownCap w (n + k) old 5 ≤ maxLen := grownCap_le_maxLen w (n + k) old 5 (by unfold maxLen; omega)
      refine ⟨⟨by simp [hlen], .inr ⟨w.heap.size, _, _, rfl, hbase, heap_alloc_new w.drew _, hge, hcm, ?_, ?_⟩⟩, ⟨rfl, rfl, rfl, by simp, fun j hj _ => Below.heap_alloc w.drew _ j hj⟩⟩
      · simp only [Array.size_append, List.size_toArray, size_zeroCells, List.length_map, hlen, show (Value.int .u8 0).cells.size = 1 from rfl]
        omega
      · simp only [Array.toList_append, zeros_u8, List.append_assoc, Nat.mul_one]
        rw [← List.append_assoc, ← List.map_append]
        rw [List.take_left' (by simp [hlen])]
    rcases hown.2 with ⟨he, h0⟩ | ⟨g, cap, cur, he, hbg, hg, hnc, hcm, hcs, htake⟩
    · injection he with e1 e2 e3
      subst e1 e2 e3
      have hx : xs = [] := List.eq_nil_of_length_eq_zero hlen
      subst hx
      have hr := Lib.run_append_nil_zeros (P := Try.prog) w 35 tn ty 5 i _ kq kn ht htn hi hz k hk (by omega) (by omega) (by rw [hby]; omega)
      have hgr := grown 0 (by omega) (Value.ownBlock (.slice none 0 0))
      simp only [Nat.zero_add, List.nil_append, List.map_nil, Array.empty_append] at hgr ⊢
      exact ⟨_, _, _, hr, hgr.1, hgr.2⟩
    · injection he with e1 e2 e3
      subst e1 e3
      by_cases hroom : n + k ≤ c
      · rw [Nat.mul_one] at hcs htake
        have hst := run_storeCells_at Try.prog g n 5 (Builtin.zeroCells (Value.int .u8 0).cells k).toList 0 cur w hg (by rw [zeros_u8]; simp; omega) (by rw [zeros_u8]; exact oneCell_vB _)
        simp only [Nat.add_zero] at hst
        refine ⟨some ⟨g, 0, none⟩, c, w.setRow g (cur.toList.take n ++ (Builtin.zeroCells (Value.int .u8 0).cells k).toList ++ cur.toList.drop (n + (Builtin.zeroCells (Value.int .u8 0).cells k).toList.length)).toArray, ?_, ⟨by simp [hlen], .inr ⟨g, c, _, rfl, hbg, setRow_heap w g cur _ 5 _ hg, hroom, hcm, ?_, ?_⟩⟩, ⟨rfl, rfl, rfl, by simp, fun j _ hj => setRow_other w g j _ (fun e => hj (by simp [Value.ownBlock, e]))⟩⟩
        · have hk0 : ¬ k = 0 := by omega
          have hks : ¬ (k * i.size = 0) := Nat.mul_ne_zero hk0 (by omega)
          simp [Builtin.append_, run_underlying ht, run_underlying htn, sizeOf, typeInfo, zeroValue, hi, hz, asInt, asIntOf, hw, hneg, h48i, hks, hroom, Addr.add_lit, hsz, hk0]
          simp at hst
          rw [hst]
          simp
        · rw [zeros_u8]; simp; omega
        · rw [htake, Nat.mul_one, zeros_u8, ← List.map_append, List.take_left' (by simp [hlen])]
      · have hrd := hown.rd.1
        have hold : (Builtin.firstCells i.size n (.slice (some ⟨g, 0, none⟩) n c)).run Try.prog w.drew = .ok (xs.map vB).toArray w.drew := by
          refine run_firstCells_some (P := Try.prog) w.drew i.size n ⟨g, 0, none⟩ n c (xs.map vB) (by simp [hlen, hsz]) ?_
          intro j u hj
          exact World.ownsRow.cells (g := g) hown rfl j u hj
        have hr := Lib.run_append_grow_zeros (P := Try.prog) w 35 tn ty 5 i _ kq kn ht htn hi hz (some ⟨g, 0, none⟩) n c (xs.map vB) hold k hk (by omega) (by omega) (by omega) (by rw [hby]; omega) (growslice_fits (by omega) (by rw [hby]; omega))
        have hgr := grown c (by omega) (Value.ownBlock (.slice (some ⟨g, 0, none⟩) n c))
        exact ⟨_, _, _, hr, hgr.1, hgr.2⟩

/-- 'append(s, make([]byte, k)...)'. -/
theorem wp_appZ {ops : Array Oper} {rest : List Oper} {o : Oper} {a : Act} {w0 w : World} {Q : Exit → Act → World → Prop} (hgd : o.guard = none) (s x : Operand)
    (ho : o.op = .call { callee := .builtin .append, args := #[s, x], argTypes := #[35, 3] })
    (hb : Below w0.heap.size w0 w) {base : Nat} (hbase : w0.heap.size ≤ base) (hbw : base ≤ w.heap.size) (A : Option Addr) (n c : Nat) (xs : List UInt8) (hs : a.eval s = .slice A n c) (hown : OwnB w base A n c xs)
    (k : Nat) (kq : IntKind) (z : Int) (hx : a.eval x = .int kq z) (hzk : z = (k : Int)) (hm : n + k ≤ 70368744177664) (m : Nat) (zs : List UInt8) (hk : n + k = m) (hz : xs ++ List.replicate k 0 = zs)
    (h : ∀ A' c' w', OwnB w' base A' m c' zs → Below w0.heap.size w0 w' → w.grownBy w' (Value.slice A n c).ownBlock → wpList Try.prog ops Q rest (a.put o.dst (.slice A' m c')) w') : wpList Try.prog ops Q (o :: rest) a w := by
  subst hk hz hzk
  refine wpList_plain hgd fun K hK => ?_
  obtain ⟨A', c', w', hr, h2, h3⟩ := run_appZ hown o.type 3 .i64 kq Try.underlying3 k hm hbw
  unfold Oper.wp execOp
  simp only [ho, resolve, invoke, builtin, Sem.run_bind, Sem.run_pure, Result.andThen_ok, List.map_toArray, List.map_cons, List.map_nil, hs, hx, hr]
  exact hK _ _ (h A' c' w' h2 (hb.grown h3 hb.size (fun q hq => Nat.le_trans hbase (hown.lt q hq).1)) h3)
theorem op_appZ {o : Oper} {a : Act} {w0 w : World} {K : Act → World → Prop} {Q : Exit → Act → World → Prop} (s x : Operand)
    (ho : o.op = .call { callee := .builtin .append, args := #[s, x], argTypes := #[35, 3] })
    (hb : Below w0.heap.size w0 w) {base : Nat} (hbase : w0.heap.size ≤ base) (hbw : base ≤ w.heap.size) (A : Option Addr) (n c : Nat) (xs : List UInt8) (hs : a.eval s = .slice A n c) (hown : OwnB w base A n c xs)
    (k : Nat) (kq : IntKind) (z : Int) (hx : a.eval x = .int kq z) (hzk : z = (k : Int)) (hm : n + k ≤ 70368744177664) (m : Nat) (zs : List UInt8) (hk : n + k = m) (hz : xs ++ List.replicate k 0 = zs)
    (h : ∀ A' c' w', OwnB w' base A' m c' zs → Below w0.heap.size w0 w' → w.grownBy w' (Value.slice A n c).ownBlock → K (a.put o.dst (.slice A' m c')) w') : o.wp Try.prog a w K Q := by
  subst hk hz hzk
  obtain ⟨A', c', w', hr, h2, h3⟩ := run_appZ hown o.type 3 .i64 kq Try.underlying3 k hm hbw
  unfold Oper.wp execOp
  simp only [ho, resolve, invoke, builtin, Sem.run_bind, Sem.run_pure, Result.andThen_ok, List.map_toArray, List.map_cons, List.map_nil, hs, hx, hr]
  exact h A' c' w' h2 (hb.grown h3 hb.size (fun q hq => Nat.le_trans hbase (hown.lt q hq).1)) h3
end Go.Proofs.Yteajboafcjeagaa
