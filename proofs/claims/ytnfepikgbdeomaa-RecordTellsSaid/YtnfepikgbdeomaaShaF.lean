/-
  Layer 3: what stands behind bytes.
-/
import Derived.Test.YtnfepikgbdeomaaShaE
namespace Go.Proofs.Ytnfepikgbdeomaa
set_option maxRecDepth 20000
open Go.RowKit
set_option linter.unusedVariables false
set_option linter.unusedSimpArgs false
set_option maxHeartbeats 8000000

/-- 'make([]byte, l, c)'. -/
theorem wp_makeLC {ops : Array Oper} {rest : List Oper} {o : Oper} {a : Act} {w : World} {Q : Exit → Act → World → Prop} (hgd : o.guard = none) (ll cc : Operand) (ho : o.op = Op.makeSlice 26 ll cc)
    (kl kc : IntKind) (L C : Int) (l c : Nat) (hL : L = (l : Int)) (hC : C = (c : Int)) (hl : a.eval ll = .int kl L) (hc : a.eval cc = .int kc C) (hlc : l ≤ c) (hn : c ≤ 70368744177664)
    (h : ∀ w', OwnB w' w.heap.size (some ⟨w.heap.size, 0, none⟩) l c (List.replicate l 0) → Below w.heap.size w w' → wpList Try.prog ops Q rest (a.put o.dst (.slice (some ⟨w.heap.size, 0, none⟩) l c)) w') : wpList Try.prog ops Q (o :: rest) a w := by
  subst hL hC
  obtain ⟨i, hi, hz, hsz, hby⟩ := info_parts elemB.info
  have hr := run_make (P := Try.prog) w 26 5 i _ elemB.slice hi hz kl kc l c (by omega) (by omega) (by rw [hby]; omega) (by omega)
  simp only [Int.toNat_natCast, hsz, Nat.mul_one, show (Value.int .u8 0).cells = #[Value.int .u8 0] from rfl] at hr
  refine wpList_plain hgd fun K hK => ?_
  unfold Oper.wp
  simp [execOp, ho, hl, hc, hr, Result.andThen]
  refine hK _ _ (h _ ⟨by simp, .inr ⟨w.heap.size, c, _, rfl, Nat.le_refl _, heap_alloc_new w _, hlc, by unfold maxLen; omega, by rw [size_madeCells]; omega, ?_⟩⟩ ((below_self w).alloc (Nat.le_refl _) _))
  have e := toList_madeCells_one (Value.int .u8 0) c
  rw [e, Nat.mul_one, List.take_replicate, Nat.min_eq_left hlc, List.map_replicate]; rfl
theorem shaPad_neg (n : Int) (w : World) (h : n < 0) : Calls Try.prog 154 #[.int .i64 n] w (RetB w []) := by
  have d1 : decide (n < 0) = true := decide_eq_true h
  go_enter Try.func154, Try.ntmps154
  go_wp2
  go_ret
  exact ⟨none, 0, 0, rfl, OwnB.nilB _ _, below_self w⟩
theorem shaPad_any (n : Nat) (w : World) (h : n ≤ 1000000) : Calls Try.prog 154 #[.int .i64 (n : Int)] w (RetB w (shPad n)) := by
  obtain ⟨r, hr⟩ : ∃ r, r = n % 64 := ⟨_, rfl⟩
  obtain ⟨q, hq⟩ : ∃ q, q = 119 - r := ⟨_, rfl⟩
  obtain ⟨z, hz⟩ : ∃ z, z = q % 64 := ⟨_, rfl⟩
  have a1 : (n : Int) % 64 = (r : Int) := by omega
  have a2 : (119 : Int) - (r : Int) = (q : Int) := by omega
  have a3 : (q : Int) % 64 = (z : Int) := by omega
  have a4 : 8 * n < 18446744073709551616 := by omega
  have d1 : decide ((n : Int) < 0) = false := decide_eq_false (by omega)
  obtain ⟨m, hm⟩ : ∃ m, m = 8 * n := ⟨_, rfl⟩
  have hP : shPad n = [128] ++ List.replicate z 0 ++ beB (8 * n) 8 := by unfold shPad; rw [← hr, ← hq, ← hz]; simp
  rw [← hm] at hP
  have HP := Lib.hid hP
  have hm64 : m < 18446744073709551616 := by omega
  have hz64 : z < 64 := by omega
  have wn := w64n (k := n) (by omega)
  have w8 : IntKind.u64.wrap ((n : Int) * 8) = (m : Int) := by rw [IntWalk.u64_in _ (by omega)]; omega
  have w9 : (n : Int) * 8 % 18446744073709551616 = (m : Int) := by omega
  clear hP hr hq hz hm a4
  go_enter Try.func154, Try.ntmps154
  go_wp2_with (first
    | (at_builtin; refine wp_appZ rfl _ _ rfl (hb1.setCell (p := ⟨w.heap.size, 0, none⟩) (Nat.le_refl _) _) (Nat.le_refl _) (by have := hb1.size; simpa [World.setCell] using this) (some ⟨w.heap.size, 0, none⟩) 1 (1 + z + 8) [128] rfl (ho1.set_ 0 128) z .i64 _ rfl rfl (by omega) (1 + z) ([128] ++ List.replicate z 0) rfl rfl ?_; intro A4 c4 w4 ho4 hb4 hg4)
    | (refine wp_makeLC rfl _ _ rfl .i64 .i64 1 _ 1 (1 + z + 8) rfl ?_ rfl rfl (by omega) (by omega) ?_; (omega); intro w1 ho1 hb1; have f1 := ho1.free 0; have c1 := ho1.rd.cellS 0 (by omega)))
  refine (be_any m 8 w4 hm64).mono ?_
  rw [show clamp 8 = 8 from rfl]
  rintro e w5 ⟨A5, n5, c5, rfl, ho5, hb5⟩
  obtain rfl : n5 = 8 := by rw [← ho5.len, beB_length]
  have B5 := below_then hb4 hb5
  go_wp2_with (at_builtin; refine wp_appB rfl _ _ rfl B5 (Nat.le_refl _) B5.size A4 (1 + z) c4 ([128] ++ List.replicate z 0) rfl (ho4.below hb5) A5 8 c5 (beB m 8) rfl ho5.rd (by omega) (1 + z + 8) (shPad n) rfl (by rw [HP.out]) ?_; intro A6 c6 w6 ho6 hb6 hg6)
  go_ret
  exact ⟨_, _, _, rfl, ho6, hb6⟩
end Go.Proofs.Ytnfepikgbdeomaa
