/-
  How an argument that came in is read: a disk; truth values.
-/
import Derived.Deep.SlicePairs
import Derived.Deep.Grids
import Derived.Test.YteajboafcjeagaaFrameS
import Derived.Test.YteajboafcjeagaaDskF
namespace Go.Proofs.Yteajboafcjeagaa
set_option maxRecDepth 20000
open Go.ChangeShapes Go.WideShapes Go.ChangeAt Go.RowKit Go.Deep
set_option linter.unusedVariables false
set_option linter.unusedSimpArgs false
set_option maxHeartbeats 2000000

theorem dparts_of {W : World} (V : Nat → Value) (Y : Nat → List UInt8) : ∀ (is : List Nat), (∀ i ∈ is, ∃ A n c, V i = .slice A n c ∧ RdB W A n c (Y i)) → Parts W (is.map V) (is.map Y)
  | [], _ => trivial
  | i :: is, h => ⟨h i (by simp), dparts_of V Y is (fun j hj => h j (by simp [hj]))⟩
theorem rows_cell {H : Type} {enc : TypeId × Value → H} {W : World} {fuel : Nat} {v : Value} {y : DataW H × List MemPlace} (hf : DataW.trod enc Try.prog W 0 (fun _ => true) true fuel 22 [v] = some y) :
    ∃ A n c vs yss, v = .slice A n c ∧ RdSS W A n c vs yss := by
  rcases open_slice1 Try.underlying22 (by kernel_rfl) hf with ⟨hcs, _⟩ | ⟨x, l, c, m, n, V, D, Pl, hcs, _, hl, hm, hmm, _, hcell⟩
  · injection hcs with hcs
    exact ⟨_, _, _, [], [], hcs, .inl rfl, rfl, Nat.le_refl _, by simp [maxLen], trivial⟩
  · injection hcs with hcs
    have hmc : m = c := by simpa using hmm
    obtain ⟨Y, hY⟩ := choose_lt (α := List UInt8) (n := m) (p := fun i ys => ∃ A n c, V i = .slice A n c ∧ RdB W A n c ys) (fun i hi => by
      obtain ⟨A, n, c, xs, h1, h2⟩ := bytes_cell (hcell i hi).2
      exact ⟨xs, A, n, c, h1, h2⟩)
    refine ⟨_, _, _, (List.range l).map V, (List.range l).map Y, hcs, ?_, by simp, hl, hm, dparts_of V Y _ (fun i hi => hY i (by have := List.mem_range.1 hi; omega))⟩
    rcases Nat.eq_zero_or_pos l with rfl | hpos
    · left; simp
    · right
      obtain ⟨b, o, spot⟩ := x
      have hc0 := (hcell 0 (by omega)).1
      have hspot : spot = none := by simpa [Addr.add] using World.cell?_spot hc0
      subst hspot
      refine ⟨b, o, rfl, by have := World.block_lt_of_cell? W _ hc0; simpa [Addr.add] using this, fun i v hv => ?_⟩
      have hi : i < l := by have := (List.getElem?_eq_some_iff.1 hv).1; simpa using this
      have hc := (hcell i (by omega)).1
      rw [Addr.add_lit] at hc
      rw [hc, ← hv]
      simp [hi]
theorem pairs_get (V0 V1 : Nat → Value) : ∀ (is : List Nat) (k : Nat), (is.flatMap (fun i => [V0 i, V1 i]))[2 * k]? = is[k]?.map V0 ∧ (is.flatMap (fun i => [V0 i, V1 i]))[2 * k + 1]? = is[k]?.map V1
  | [], k => by simp
  | i :: is, 0 => by simp
  | i :: is, k + 1 => by
    have := pairs_get V0 V1 is k
    rw [show 2 * (k + 1) = 2 * k + 1 + 1 by omega]
    simpa using this
theorem pairs_len (V0 V1 : Nat → Value) : ∀ (is : List Nat), (is.flatMap (fun i => [V0 i, V1 i])).length = 2 * is.length
  | [] => rfl
  | i :: is => by simp [pairs_len V0 V1 is]; omega
theorem wparts_of {W : World} (V0 V1 : Nat → Value) (Y : Nat → Int × List UInt8) : ∀ (is : List Nat), (∀ i ∈ is, V0 i = .int .i64 (Y i).1 ∧ (-9223372036854775808 ≤ (Y i).1 ∧ (Y i).1 ≤ 9223372036854775807) ∧ ∃ A n c, V1 i = .slice A n c ∧ RdB W A n c (Y i).2) → WParts W (is.flatMap (fun i => [V0 i, V1 i])) (is.map Y)
  | [], _ => trivial
  | i :: is, h => by
    obtain ⟨h1, h2, h3⟩ := h i (by simp)
    exact ⟨h1, h2, h3, wparts_of V0 V1 Y is (fun j hj => h j (by simp [hj]))⟩
theorem writes_cell {H : Type} {enc : TypeId × Value → H} {W : World} {fuel : Nat} {v : Value} {y : DataW H × List MemPlace} (hf : DataW.trod enc Try.prog W 0 (fun _ => true) true fuel 23 [v] = some y) :
    ∃ A n c vs l, v = .slice A n c ∧ RdWs W A n c vs l := by
  rcases open_slice_pairs Try.underlying23 Try.underlying55 (by kernel_rfl) rfl rfl (by kernel_rfl) (by kernel_rfl) hf with ⟨hcs, _⟩ | ⟨x, l, c, m, n, V0, V1, D0, D1, P0, P1, hcs, _, hl, hm, hmm, _, hcell⟩
  · injection hcs with hcs
    exact ⟨_, _, _, [], [], hcs, .inl rfl, rfl, Nat.le_refl _, by simp [maxLen], trivial⟩
  · injection hcs with hcs
    have hmc : m = c := by simpa using hmm
    obtain ⟨Y, hY⟩ := choose_lt (α := Int × List UInt8) (n := m) (p := fun i y => V0 i = .int .i64 y.1 ∧ (-9223372036854775808 ≤ y.1 ∧ y.1 ≤ 9223372036854775807) ∧ ∃ A n c, V1 i = .slice A n c ∧ RdB W A n c y.2) (fun i hi => by
      obtain ⟨_, _, h3, h4⟩ := hcell i hi
      obtain ⟨j1, f1, _, hv1⟩ := DataW.trod_int Try.underlying3 h3
      obtain ⟨A, n, c, xs, h1, h2⟩ := bytes_cell h4
      exact ⟨(j1, xs), by simpa using f1, int_i64 hv1, A, n, c, h1, h2⟩)
    refine ⟨_, _, _, (List.range l).flatMap (fun i => [V0 i, V1 i]), (List.range l).map Y, hcs, ?_, by rw [pairs_len]; simp, hl, hm, wparts_of V0 V1 Y _ (fun i hi => hY i (by have := List.mem_range.1 hi; omega))⟩
    rcases Nat.eq_zero_or_pos l with rfl | hpos
    · left; simp
    · right
      obtain ⟨b, o, spot⟩ := x
      have hc0 := (hcell 0 (by omega)).1
      have hspot : spot = none := by simpa [Addr.add] using World.cell?_spot hc0
      subst hspot
      refine ⟨b, o, rfl, by have := World.block_lt_of_cell? W _ hc0; simpa [Addr.add] using this, fun i v hv => ?_⟩
      have hi : i < 2 * l := by have := (List.getElem?_eq_some_iff.1 hv).1; rw [pairs_len] at this; simpa using this
      obtain ⟨g0, g1⟩ := pairs_get V0 V1 (List.range l) (i / 2)
      have hk : (List.range l)[i / 2]? = some (i / 2) := by rw [List.getElem?_range (by omega)]
      rw [hk] at g0 g1
      obtain ⟨c0, c1, _⟩ := hcell (i / 2) (by omega)
      rw [Addr.add_lit] at c0 c1
      rcases Nat.mod_two_eq_zero_or_one i with h2 | h2
      · rw [show 2 * (i / 2) = i by omega, hv] at g0
        rw [show i / 2 * 2 = i by omega] at c0
        rw [c0]; simpa using g0.symm
      · rw [show 2 * (i / 2) + 1 = i by omega, hv] at g1
        rw [show i / 2 * 2 + 1 = i by omega] at c1
        rw [c1]; simpa using g1.symm
theorem open_disk {H : Type} {enc : TypeId × Value → H} {W : World} {base : Nat} {v : Value} {d0 : DataW H} {p : List MemPlace} (hv : Value.okWide Try.prog W .any base 25 v)
    (h : ∃ fuel, DataW.trod enc Try.prog W 0 (fun _ => true) true fuel 25 v.cells.toList = some (d0, p)) :
    ∃ S sn sc K kn kc D, v = .agg #[.slice S sn sc, .slice K kn kc] ∧ RdDk W S sn sc K kn kc D := by
  obtain ⟨cs, rfl, hsz⟩ := okWide_struct Try.underlying25 hv
  obtain ⟨fuel, hf⟩ := h
  have hN : Try.prog.cellsOf 25 = 2 := by kernel_rfl
  rw [hN] at hsz
  obtain ⟨ls⟩ := cs
  have hls : ls.length = 2 := by simpa using hsz
  match ls, hls with
  | [c0, c1], _ =>
    obtain ⟨ys, m, _, _, _, hl, hg⟩ := DataW.trod_struct Try.underlying25 hf
    match ys, hl with
    | [y0, y1], _ =>
      have z_s : Try.prog.cellsOf 22 = 1 := by kernel_rfl
      have z_w : Try.prog.cellsOf 23 = 1 := by kernel_rfl
      have h0 : DataW.trod enc Try.prog W 0 (fun _ => true) true m 22 [c0] = some y0 := by
        have q : DataW.trod enc Try.prog W 0 (fun _ => true) true m 22 ((([c0, c1] : List Value).drop 0).take (Try.prog.cellsOf 22)) = [y0, y1][0]? := hg 0 _ rfl
        rw [z_s] at q
        exact q
      have h1 : DataW.trod enc Try.prog W 0 (fun _ => true) true m 23 [c1] = some y1 := by
        have q : DataW.trod enc Try.prog W 0 (fun _ => true) true m 23 ((([c0, c1] : List Value).drop 1).take (Try.prog.cellsOf 23)) = [y0, y1][1]? := hg 1 _ rfl
        rw [z_w] at q
        exact q
      obtain ⟨S, sn, sc, vs, yss, rfl, hs⟩ := rows_cell h0
      obtain ⟨K, kn, kc, us, l, rfl, hk⟩ := writes_cell h1
      exact ⟨S, sn, sc, K, kn, kc, ⟨yss, l⟩, rfl, ⟨vs, hs⟩, us, hk⟩
theorem open_bos {H : Type} {enc : TypeId × Value → H} {W : World} {base : Nat} {v : Value} {d0 : DataW H} {p : List MemPlace} (hv : Value.okWide Try.prog W .any base 26 v)
    (h : ∃ fuel, DataW.trod enc Try.prog W 0 (fun _ => true) true fuel 26 v.cells.toList = some (d0, p)) :
    ∃ A n c bs, v = .slice A n c ∧ RdBo W A n c bs := by
  obtain ⟨a0, len0, cap0, rfl⟩ := okWide_slice Try.underlying26 hv
  obtain ⟨fuel, hf⟩ := h
  rcases open_bools Try.underlying26 Try.underlying4 (by kernel_rfl) hf with ⟨hcs, _⟩ | ⟨x, l, c, Bf, hcs, _, hl, hm, _, hcell⟩
  · simp [Value.cells] at hcs
    obtain ⟨rfl, rfl, rfl⟩ := hcs
    exact ⟨_, _, _, [], rfl, rdBo_nil W⟩
  · simp [Value.cells] at hcs
    obtain ⟨rfl, rfl, rfl⟩ := hcs
    refine ⟨_, _, _, (List.range len0).map Bf, rfl, ?_, by simp, hl, hm⟩
    rcases Nat.eq_zero_or_pos len0 with rfl | hpos
    · left; simp
    · right
      obtain ⟨b, o, spot⟩ := x
      have hc0 := hcell 0 (by omega)
      have hspot : spot = none := by simpa [Addr.add] using World.cell?_spot hc0
      subst hspot
      refine ⟨b, o, rfl, by have := World.block_lt_of_cell? W _ hc0; simpa [Addr.add] using this, fun i v hv => ?_⟩
      have hi : i < len0 := by have := (List.getElem?_eq_some_iff.1 hv).1; simpa using this
      have hc := hcell i (by omega)
      rw [Addr.add_lit] at hc
      rw [hc, ← hv]
      simp [hi]
end Go.Proofs.Yteajboafcjeagaa
