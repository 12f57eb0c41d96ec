/-
  How neighbours that came in are read; a card's address.
-/
import Derived.Deep.Slices
import Derived.Deep.SlicePairs
import Derived.Test.YtnfepikgbdeomaaOpenS
import Derived.Test.YtnfepikgbdeomaaArpC
namespace Go.Proofs.Ytnfepikgbdeomaa
set_option maxRecDepth 20000
open Go.ChangeShapes Go.WideShapes Go.ChangeAt Go.RowKit Go.Deep
set_option linter.unusedVariables false
set_option linter.unusedSimpArgs false
set_option maxHeartbeats 2000000

theorem okWide_arrN {P : Program} {w : World} {r : Reach} {base : Nat} {t : TypeId} {v : Value} {n : Nat} {e : TypeId} (ht : P.underlying t = some (.array n e)) (h : Value.okWide P w r base t v) : ∃ cs, v = .agg cs ∧ cs.size = P.cellsOf t := by
  simp only [Value.okWide, ht] at h
  obtain ⟨cs, h1, h2, _⟩ := h
  exact ⟨cs, h1, h2⟩
instance nbInh : Inhabited Nb := ⟨nb0⟩
theorem open_mc {H : Type} {enc : TypeId × Value → H} {W : World} {base : Nat} {v : Value} {d0 : DataW H} {p : List MemPlace} (hv : Value.okWide Try.prog W .any base 96 v)
    (h : ∃ fuel, DataW.trod enc Try.prog W 0 (fun _ => true) true fuel 96 v.cells.toList = some (d0, p)) :
    ∃ m : Mc, v = .agg #[.int .u8 (m.a0.toNat : Int), .int .u8 (m.a1.toNat : Int), .int .u8 (m.a2.toNat : Int), .int .u8 (m.a3.toNat : Int), .int .u8 (m.a4.toNat : Int), .int .u8 (m.a5.toNat : Int)] := by
  obtain ⟨cs, rfl, hsz⟩ := okWide_arrN Try.underlying96 hv
  obtain ⟨fuel, hf⟩ := h
  have hN : Try.prog.cellsOf 96 = 6 := by kernel_rfl
  rw [hN] at hsz
  obtain ⟨l⟩ := cs
  have hls : l.length = 6 := by simpa using hsz
  match l, hls with
  | [c0, c1, c2, c3, c4, c5], _ =>
    obtain ⟨m, rfl, rfl, rfl, rfl, rfl, rfl⟩ := open_mac6 hf
    exact ⟨m, rfl⟩
theorem nb_of_cells {H : Type} {enc : TypeId × Value → H} {W : World} {fuel : Nat} {cs : List Value} {y : DataW H × List MemPlace} (hl : cs.length = 8)
    (hf : DataW.trod enc Try.prog W 0 (fun _ => true) true fuel 109 cs = some y) : ∃ x : Nb, x.ok ∧ cs = nbV x := by
  match cs, hl with
  | [c0, c1, c2, c3, c4, c5, c6, c7], _ =>
    obtain ⟨ys, m, _, _, _, hyl, hg⟩ := DataW.trod_struct Try.underlying109 hf
    match ys, hyl with
    | [y0, y1, y2], _ =>
      have z_u : Try.prog.cellsOf 23 = 1 := by kernel_rfl
      have z_m : Try.prog.cellsOf 96 = 6 := by kernel_rfl
      have z_t : Try.prog.cellsOf 42 = 1 := by kernel_rfl
      have h0 : DataW.trod enc Try.prog W 0 (fun _ => true) true m 23 [c0] = some y0 := by
        have q : DataW.trod enc Try.prog W 0 (fun _ => true) true m 23 ((([c0, c1, c2, c3, c4, c5, c6, c7] : List Value).drop 0).take (Try.prog.cellsOf 23)) = [y0, y1, y2][0]? := hg 0 _ rfl
        rw [z_u] at q; exact q
      have h1 : DataW.trod enc Try.prog W 0 (fun _ => true) true m 96 [c1, c2, c3, c4, c5, c6] = some y1 := by
        have q : DataW.trod enc Try.prog W 0 (fun _ => true) true m 96 ((([c0, c1, c2, c3, c4, c5, c6, c7] : List Value).drop 1).take (Try.prog.cellsOf 96)) = [y0, y1, y2][1]? := hg 1 _ rfl
        rw [z_m] at q; exact q
      have h2 : DataW.trod enc Try.prog W 0 (fun _ => true) true m 42 [c7] = some y2 := by
        have q : DataW.trod enc Try.prog W 0 (fun _ => true) true m 42 ((([c0, c1, c2, c3, c4, c5, c6, c7] : List Value).drop 7).take (Try.prog.cellsOf 42)) = [y0, y1, y2][2]? := hg 2 _ rfl
        rw [z_t] at q; exact q
      obtain ⟨i0, e0, _, hw0⟩ := DataW.trod_int Try.underlying23 h0
      obtain rfl : c0 = .int .u32 i0 := by simpa using e0
      obtain ⟨n0, rfl, hn0⟩ := nat_u32 hw0
      obtain ⟨mm, rfl, rfl, rfl, rfl, rfl, rfl⟩ := open_mac6 h1
      obtain ⟨i2, e2, _, hw2⟩ := DataW.trod_int Try.underlying42 h2
      obtain rfl : c7 = .int .u64 i2 := by simpa using e2
      obtain ⟨n2, rfl, hn2⟩ := nat_u64 hw2
      exact ⟨⟨n0, mm, n2⟩, ⟨hn0, hn2⟩, rfl⟩
theorem open_nbs {H : Type} {enc : TypeId × Value → H} {W : World} {base : Nat} {v : Value} {d0 : DataW H} {p : List MemPlace} (hv : Value.okWide Try.prog W .any base 94 v)
    (h : ∃ fuel, DataW.trod enc Try.prog W 0 (fun _ => true) true fuel 94 v.cells.toList = some (d0, p)) :
    ∃ A n c l, v = .slice A n c ∧ RdNb W A n c l := by
  obtain ⟨a0, len0, cap0, rfl⟩ := okWide_slice Try.underlying94 hv
  obtain ⟨fuel, hf⟩ := h
  have ce : Try.prog.cellsOf 109 = 8 := by kernel_rfl
  rcases open_slice Try.underlying94 hf with ⟨hcs, _⟩ | ⟨x, l, c, m, n, D, Pl, hcs, _, hl, hm, hmm, _, hx⟩
  · simp [Value.cells] at hcs
    obtain ⟨rfl, rfl, rfl⟩ := hcs
    exact ⟨_, _, _, [], rfl, .inl rfl, rfl, Nat.le_refl _, by simp [maxLen], fun x hx => by cases hx⟩
  · simp [Value.cells] at hcs
    obtain ⟨rfl, rfl, rfl⟩ := hcs
    have hmc : m = cap0 := by simpa using hmm
    obtain ⟨Y, hY⟩ := choose_lt (α := Nb) (n := m) (p := fun i y => y.ok ∧ ∀ j v, (nbV y)[j]? = some v → W.cell? ((x.add (i * 8)).add j) = some v) (fun i hi => by
      obtain ⟨cs', h1, h2⟩ := hx i hi
      rw [ce] at h1
      obtain ⟨_, hlen, hcell⟩ := World.cells?_some h1
      obtain ⟨y, hy, rfl⟩ := nb_of_cells hlen h2
      refine ⟨y, hy, fun j v hj => ?_⟩
      have hj8 : j < 8 := by have := (List.getElem?_eq_some_iff.1 hj).1; rwa [nbV_len] at this
      rw [hcell j hj8, hj])
    refine ⟨_, _, _, (List.range len0).map Y, rfl, ?_, by simp, hl, hm, fun y hy => ?_⟩
    · rcases Nat.eq_zero_or_pos len0 with rfl | hpos
      · left; simp
      · right
        obtain ⟨b, o, spot⟩ := x
        have hc0 := (hY 0 (by omega)).2 0 _ rfl
        have hspot : spot = none := by simpa [Addr.add] using World.cell?_spot hc0
        subst hspot
        refine ⟨b, o, rfl, by have := World.block_lt_of_cell? W _ hc0; simpa [Addr.add] using this, fun i v hv => ?_⟩
        have hi : i < 8 * len0 := by have := (List.getElem?_eq_some_iff.1 hv).1; rw [nbs_len] at this; simpa using this
        have hk : i / 8 < len0 := by omega
        have hg := nbs_get (i % 8) (by omega) ((List.range len0).map Y) (i / 8)
        rw [show i / 8 * 8 + i % 8 = i by omega, hv] at hg
        have hgk : ((List.range len0).map Y)[i / 8]? = some (Y (i / 8)) := by simp [hk]
        rw [hgk] at hg
        have hc := (hY (i / 8) (by omega)).2 (i % 8) v hg.symm
        rw [Addr.add_lit, Addr.add_lit] at hc
        rw [show o + i / 8 * 8 + i % 8 = o + i by omega] at hc
        exact hc
    · obtain ⟨i, hi, rfl⟩ := List.mem_map.1 hy
      exact (hY i (by have := List.mem_range.1 hi; omega)).1
end Go.Proofs.Ytnfepikgbdeomaa
