/-
  Layer 19: arp: Find.
-/
import Derived.Test.YtnfepikgbdeomaaArpG
namespace Go.Proofs.Ytnfepikgbdeomaa
set_option maxRecDepth 20000
open Go.RowKit
set_option linter.unusedVariables false
set_option linter.unusedSimpArgs false
set_option maxHeartbeats 8000000

theorem dresults_cell_tmp {P : Program} {fn : Func} {p q : Tmp} {ty : TypeId} (h : fn.results = #[.cell p ty, .tmp q]) (tmps : Array Value) (w : World) (g : Nat) (t : TypeId) (cs : Array Value) (fr : Nat × Nat) (d : TypeDesc)
    (hp : tmps.getD p undef = .pointer (some ⟨g, 0, none⟩)) (hg : w.heap[g]? = some (.cells cs t fr))
    (hu : P.underlying ty = some d) (hd : (match d with | .struct _ | .array _ _ => true | _ => false) = true) (hi : (P.info? ty).map (·.size) = some cs.size) :
    (results fn tmps).run P w = .ok (.tuple #[.agg cs, tmps.getD q undef]) w := by
  have hp' : tmps[p]?.getD undef = .pointer (some ⟨g, 0, none⟩) := by simpa using hp
  simp [results, h, hp', asAddr, run_loadVar_row w g t ty cs fr d hg hu hd hi]
def nbFind (l : List Nb) (ip now : Nat) : Option Nb := if nbOk l = true then l.find? (arIs ip now) else none
def RetFd (w : World) (f : Option Nb) (e : Ending) (w' : World) : Prop := ∃ m : Mc, m = (f.map Nb.m).getD mcZero ∧ e = .returned (.tuple #[.agg #[.int .u8 (m.a0.toNat : Int), .int .u8 (m.a1.toNat : Int), .int .u8 (m.a2.toNat : Int), .int .u8 (m.a3.toNat : Int), .int .u8 (m.a4.toNat : Int), .int .u8 (m.a5.toNat : Int)], .bool f.isSome]) ∧ Below w.heap.size w w'
theorem find_at {l : List Nb} {p : Nb → Bool} {j : Nat} (hj : j < l.length) (h1 : p (l.getD j nb0) = true) (h2 : ∀ i, i < j → p (l.getD i nb0) = false) : l.find? p = some (l.getD j nb0) := by
  induction l generalizing j with
  | nil => simp at hj
  | cons x l ih =>
    cases j with
    | zero => rw [List.find?_cons_of_pos (by simpa using h1)]; rfl
    | succ j =>
      have h0 := h2 0 (by omega)
      rw [List.find?_cons_of_neg (by simpa using h0)]
      exact ih (by simpa using hj) (by simpa using h1) (fun i hi => by simpa using h2 (i + 1) (by omega))
theorem find_no {l : List Nb} {p : Nb → Bool} (h : ∀ j, j < l.length → p (l.getD j nb0) = false) : l.find? p = none := by
  rw [List.find?_eq_none]
  intro x hx
  obtain ⟨i, hi, rfl⟩ := List.getElem_of_mem hx
  have := h i hi
  simpa [List.getD, hi] using this
theorem mac_set6 {w : World} {g : Nat} {x0 x1 x2 x3 x4 x5 : Value} (hrow : w.heap[g]? = some (.cells #[x0, x1, x2, x3, x4, x5] 96 (0, 0))) (v0 v1 v2 v3 v4 v5 : Value) :
    ((((((w.setCell ⟨g, 0, none⟩ v0).setCell ⟨g, 1, none⟩ v1).setCell ⟨g, 2, none⟩ v2).setCell ⟨g, 3, none⟩ v3).setCell ⟨g, 4, none⟩ v4).setCell ⟨g, 5, none⟩ v5).heap[g]? = some (.cells #[v0, v1, v2, v3, v4, v5] 96 (0, 0)) :=
  setc_rowT (setc_rowT (setc_rowT (setc_rowT (setc_rowT (setc_rowT hrow)))))
theorem mac_below6 {w0 w : World} {g B : Nat} (h : Below B w0 w) (hg : B ≤ g) (v0 v1 v2 v3 v4 v5 : Value) : Below B w0 ((((((w.setCell ⟨g, 0, none⟩ v0).setCell ⟨g, 1, none⟩ v1).setCell ⟨g, 2, none⟩ v2).setCell ⟨g, 3, none⟩ v3).setCell ⟨g, 4, none⟩ v4).setCell ⟨g, 5, none⟩ v5) :=
  (((((h.setCell (p := ⟨g, 0, none⟩) hg _).setCell (p := ⟨g, 1, none⟩) hg _).setCell (p := ⟨g, 2, none⟩) hg _).setCell (p := ⟨g, 3, none⟩) hg _).setCell (p := ⟨g, 4, none⟩) hg _).setCell (p := ⟨g, 5, none⟩) hg _
/-- What a walk wants to know of a card's box that it writes. -/
theorem mac_open {w : World} {g : Nat} {x0 x1 x2 x3 x4 x5 : Value} (hrow : w.heap[g]? = some (.cells #[x0, x1, x2, x3, x4, x5] 96 (0, 0))) :
    (w.cell? ⟨g, 0, none⟩ = some x0 ∧ w.cell? ⟨g, 1, none⟩ = some x1 ∧ w.cell? ⟨g, 2, none⟩ = some x2 ∧ w.cell? ⟨g, 3, none⟩ = some x3 ∧ w.cell? ⟨g, 4, none⟩ = some x4 ∧ w.cell? ⟨g, 5, none⟩ = some x5) ∧ ∀ i, w.frozen? ⟨g, i, none⟩ = false :=
  ⟨⟨(cell_of_row w g 0 _ _ _ hrow).trans rfl, (cell_of_row w g 1 _ _ _ hrow).trans rfl, (cell_of_row w g 2 _ _ _ hrow).trans rfl, (cell_of_row w g 3 _ _ _ hrow).trans rfl, (cell_of_row w g 4 _ _ _ hrow).trans rfl, (cell_of_row w g 5 _ _ _ hrow).trans rfl⟩, fun i => frozen_of_row w g i _ _ hrow⟩
theorem mac_info : (Try.prog.info? 96).map (·.size) = some 6 := by kernel_rfl
theorem arpFind_any (ip now : Nat) (A : Option Addr) (n c : Nat) (l : List Nb) (w : World) (hr : RdNb w A n c l) :
    Calls Try.prog 56 #[.slice A n c, .int .u32 (ip : Int), .int .u64 (now : Int)] w (RetFd w (nbFind l ip now)) := by
  have hl := hr.2.1
  obtain ⟨V, hV⟩ : ∃ V, V = ((w.alloc (.cells #[.int .u32 (ip : Int)] 23)).alloc (.cells #[.int .u64 (now : Int)] 42)).alloc (.cells #[.int .u8 0, .int .u8 0, .int .u8 0, .int .u8 0, .int .u8 0, .int .u8 0] 96) := ⟨_, rfl⟩
  have bV : Below w.heap.size w V := by rw [hV]; exact (((below_self w).alloc (Nat.le_refl _) _).alloc (by simp) _).alloc (by simp; omega) _
  have gV : V.heap[w.heap.size]? = some (.cells #[.int .u32 (ip : Int)] 23 (0, 0)) := by rw [hV]; exact drw_old _ (drw_old _ (drw_at _ rfl))
  have kV : V.heap[w.heap.size + 1]? = some (.cells #[.int .u64 (now : Int)] 42 (0, 0)) := by rw [hV]; exact drw_old _ (drw_at _ (by simp))
  have mV : V.heap[w.heap.size + 1 + 1]? = some (.cells #[.int .u8 0, .int .u8 0, .int .u8 0, .int .u8 0, .int .u8 0, .int .u8 0] 96 (0, 0)) := by rw [hV]; exact drw_at _ (by simp)
  have HV := Lib.hid hV
  have HG := Lib.hid gV
  have HK := Lib.hid kV
  have HM := Lib.hid mV
  have C1 := Lib.hid (arpCheck_any A n c l V (hr.below bV))
  have HR := Lib.hid hr
  unfold nbFind
  clear hV gV kV mV hr
  cases hok : nbOk l with
  | false =>
    rw [hok] at C1
    rw [if_neg (by simp)]
    clear hok hl
    go_enter Try.func56, Try.ntmps56
    go_wp2_with fail
    rw [← HV.out]
    refine C1.out.mono ?_
    rintro e w1 ⟨rfl, hb1⟩
    have mr := drw_up HM.out hb1
    have mo := mac_open mr
    obtain ⟨⟨k0, k1, k2, k3, k4, k5⟩, kf⟩ := mo
    have MR := Lib.hid mr
    clear mr
    go_wp2_with fail
    refine bodyPost_ret (v := .tuple #[.agg #[.int .u8 0, .int .u8 0, .int .u8 0, .int .u8 0, .int .u8 0, .int .u8 0], .bool false]) (dresults_cell_tmp Try.results56 _ _ _ _ _ _ _ rfl (mac_set6 MR.out _ _ _ _ _ _) Try.underlying96 rfl mac_info) rfl ⟨mcZero, rfl, rfl, mac_below6 (below_then bV hb1) (by omega) _ _ _ _ _ _⟩
  | true =>
    rw [hok] at C1
    rw [if_pos rfl]
    have hfa : ∀ j, _ := fun j => @find_at l (arIs ip now) j
    have hfn := @find_no l (arIs ip now)
    have HFA := Lib.hid hfa
    have HFN := Lib.hid hfn
    have HL := Lib.hid hl
    clear hok hl hfa hfn
    go_enter Try.func56, Try.ntmps56
    go_wp2_with fail
    rw [← HV.out]
    refine C1.out.mono ?_
    rintro e w1 ⟨rfl, hb1⟩
    have B1 := below_then bV hb1
    go_wp2_with fail
    refine (idxNb_any ip now w.heap.size (w.heap.size + 1) A n c l w1 (HR.out.below B1) (drw_up HG.out hb1) (drw_up HK.out hb1)).mono ?_
    rintro e w2 ⟨hx, hb2⟩
    have B2 := below_then B1 hb2
    have mr := drw_up (drw_up HM.out hb1) hb2
    rcases hx with ⟨j, rfl, hj, hp, hq⟩ | ⟨rfl, hq⟩
    · have hF := Lib.hid (HFA.out j (by rw [HL.out]; exact hj) hp hq)
      obtain ⟨b, o, rfl, hb, hok, hin⟩ := (HR.out.below B2).nb j hj
      obtain ⟨x, hx⟩ : ∃ x, l.getD j nb0 = x := ⟨_, rfl⟩
      rw [hx] at hin hF
      have d1 : decide ((j : Int) < 0) = false := decide_eq_false (by omega)
      have c1 := (hin.2 1 _ rfl)
      have c2 := (hin.2 2 _ rfl)
      have c3 := (hin.2 3 _ rfl)
      have c4 := (hin.2 4 _ rfl)
      have c5 := (hin.2 5 _ rfl)
      have c6 := (hin.2 6 _ rfl)
      have mo := mac_open mr
      obtain ⟨⟨k0, k1, k2, k3, k4, k5⟩, kf⟩ := mo
      have MR := Lib.hid mr
      clear mr hp hq hx
      go_wp2_with fail
      refine bodyPost_ret (v := .tuple #[.agg #[.int .u8 (x.m.a0.toNat : Int), .int .u8 (x.m.a1.toNat : Int), .int .u8 (x.m.a2.toNat : Int), .int .u8 (x.m.a3.toNat : Int), .int .u8 (x.m.a4.toNat : Int), .int .u8 (x.m.a5.toNat : Int)], .bool true]) (dresults_cell_tmp Try.results56 _ _ _ _ _ _ _ rfl (mac_set6 MR.out _ _ _ _ _ _) Try.underlying96 rfl mac_info) rfl ⟨x.m, by rw [hF.out]; rfl, by rw [hF.out]; rfl, mac_below6 B2 (by omega) _ _ _ _ _ _⟩
    · have hF := Lib.hid (HFN.out (by rw [HL.out]; exact hq))
      have mo := mac_open mr
      obtain ⟨⟨k0, k1, k2, k3, k4, k5⟩, kf⟩ := mo
      have MR := Lib.hid mr
      clear mr hq
      go_wp2_with fail
      refine bodyPost_ret (v := .tuple #[.agg #[.int .u8 0, .int .u8 0, .int .u8 0, .int .u8 0, .int .u8 0, .int .u8 0], .bool false]) (dresults_cell_tmp Try.results56 _ _ _ _ _ _ _ rfl (mac_set6 MR.out _ _ _ _ _ _) Try.underlying96 rfl mac_info) rfl ⟨mcZero, by rw [hF.out]; rfl, by rw [hF.out]; rfl, mac_below6 B2 (by omega) _ _ _ _ _ _⟩
end Go.Proofs.Ytnfepikgbdeomaa
