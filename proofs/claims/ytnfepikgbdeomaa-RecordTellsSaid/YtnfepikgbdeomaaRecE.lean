/-
  Layer 12: records: what reads a sector.
-/
import Derived.Test.YtnfepikgbdeomaaRecD
namespace Go.Proofs.Ytnfepikgbdeomaa
set_option maxRecDepth 20000
open Go.RowKit
set_option linter.unusedVariables false
set_option linter.unusedSimpArgs false
set_option maxHeartbeats 4000000

/-- A sector that is read, and where. -/
def RrAt (w : World) (g : Nat) (A : Option Addr) (c : Nat) (at_ : Nat) : Prop := w.heap[g]? = some (.cells #[.slice A 256 c, .int .i64 (at_ : Int)] 169 (0, 0))
theorem RrAt.c0 {w : World} {g : Nat} {A : Option Addr} {c at_ : Nat} (h : RrAt w g A c at_) : w.cell? ⟨g, 0, none⟩ = some (.slice A 256 c) := (cell_of_row w g 0 _ _ _ h).trans rfl
theorem RrAt.c1 {w : World} {g : Nat} {A : Option Addr} {c at_ : Nat} (h : RrAt w g A c at_) : w.cell? ⟨g, 1, none⟩ = some (.int .i64 (at_ : Int)) := (cell_of_row w g 1 _ _ _ h).trans rfl
theorem RrAt.fr {w : World} {g : Nat} {A : Option Addr} {c at_ : Nat} (h : RrAt w g A c at_) (i : Nat) : w.frozen? ⟨g, i, none⟩ = false := frozen_of_row _ _ i _ _ h
theorem RrAt.lt {w : World} {g : Nat} {A : Option Addr} {c at_ : Nat} (h : RrAt w g A c at_) : g < w.heap.size := (Array.getElem?_eq_some_iff.1 h).1
theorem RrAt.up {w w' : World} {g : Nat} {A : Option Addr} {c at_ : Nat} (h : RrAt w g A c at_) (hb : Below w.heap.size w w') : RrAt w' g A c at_ := rw_up h hb
theorem recPart_any (g bb oo c : Nat) (xs : List UInt8) (at_ s : Nat) (w : World) (hg : RrAt w g (some ⟨bb, oo, none⟩) c at_) (hr : RdB w (some ⟨bb, oo, none⟩) 256 c xs) (ho : bb < g) (ha : at_ + s ≤ 256) :
    Calls Try.prog 133 #[.pointer (some ⟨g, 0, none⟩), .int .i64 (s : Int)] w fun e w' => ∃ B, e = .returned (.slice B s s) ∧ RdB w' B s s ((xs.drop at_).take s) ∧ RrAt w' g (some ⟨bb, oo, none⟩) c (at_ + s) ∧ Below g w w' ∧ Beside g w w' := by
  obtain ⟨t, ht⟩ : ∃ t, t = at_ + s := ⟨_, rfl⟩
  have hc := hr.2.2.1
  have hc63 := hr.c63
  have k0 := hg.c0
  have k1 := hg.c1
  have f1 := hg.fr 1
  have lg := hg.lt
  have ws : (at_ : Int) + (s : Int) = (t : Int) := by omega
  have wt := wi64n (k := t) (by omega)
  obtain ⟨V, hV⟩ : ∃ V, V = w.setCell ⟨g, 1, none⟩ (.int .i64 (t : Int)) := ⟨_, rfl⟩
  have gV : RrAt V g (some ⟨bb, oo, none⟩) c t := by rw [hV]; exact (setc_rowT hg).trans rfl
  have bV : Below g w V := by rw [hV]; exact (Below.refl g w).setCell (p := ⟨g, 1, none⟩) (Nat.le_refl _) _
  have rV : RdB V (some ⟨bb, oo, none⟩) 256 c xs := by rw [hV]; exact rd_far hr _ _ (fun _ a e => by cases e; show bb ≠ g; omega)
  have zV : V.heap.size = w.heap.size := by rw [hV]; simp
  have p0 := gV.c0
  have p1 := gV.c1
  have sV : Beside g w V := by rw [hV]; exact (beside_of (Below.refl _ w)).setCell _
  have HV := Lib.hid hV
  have HT := Lib.hid ht
  have GV := Lib.hid gV
  have t1 : (at_ : Int) ≤ (t : Int) := by omega
  have t2 : (t : Int) ≤ (c : Int) := by omega
  have lgV : g < V.heap.size := by omega
  clear hV ht gV hg
  go_enter Try.func133, Try.ntmps133
  go_wp2_with fail
  rw [← HV.out]
  refine wp_region_plan (S := fun w' => Below V.heap.size V w') [(0, true), (1, true), (2, true), (3, true), (4, true), (5, true), (6, true), (7, true), (8, true), (9, true), (10, true), (11, true), (12, true), (13, true), (14, true)] (by kernel_rfl) (by kernel_rfl) (fun _ _ d _ _ h => by cases d <;> exact h) ((Below.refl _ V).drew) ?_
  iterate 15 (refine plan_take (v := ?_) rfl (Or.inl ⟨by rfl, ?_⟩) ?_; rotate_left; (focus (intro w' hw'; have ja := (hw'.cell (p := ⟨g, 0, none⟩) lgV).trans p0; have jb := (hw'.cell (p := ⟨g, 1, none⟩) lgV).trans p1; go_simp <;> with_reducible rfl)); try simp only [Act.put, List.setIfInBounds_toArray, List.set_cons_zero, List.set_cons_succ])
  refine plan_done ?_
  go_wp2_with fail
  · have hs0 : s = 0 := by have := HT.out; omega
    subst hs0
    go_ret
    have gv := GV.out
    rw [HT.out] at gv
    exact ⟨_, rfl, ⟨.inl (by simp), by simp, Nat.le_refl _, by simp [maxLen]⟩, gv, bV.trans ((Below.refl g V).drew), sV.trans (beside_of (Below.refl _ V).drew)⟩
  · have hts : t - at_ = s := by have := HT.out; omega
    rw [hts]
    go_ret
    have gv := GV.out
    rw [HT.out] at gv
    have r1 := ((rV.drew).cutS at_ (256 - at_) (by have := HT.out; omega) (by have := HT.out; omega)).take s (by have := HT.out; omega)
    exact ⟨_, rfl, r1.cap s (Nat.le_refl _) (by unfold maxLen; omega), gv, bV.trans ((Below.refl g V).drew), sV.trans (beside_of (Below.refl _ V).drew)⟩
theorem recRNumber_any (g bb oo c : Nat) (xs : List UInt8) (at_ s : Nat) (w : World) (hg : RrAt w g (some ⟨bb, oo, none⟩) c at_) (hr : RdB w (some ⟨bb, oo, none⟩) 256 c xs) (ho : bb < g) (ha : at_ + s ≤ 256) (hs : s ≤ 8) :
    Calls Try.prog 132 #[.pointer (some ⟨g, 0, none⟩), .int .i64 (s : Int)] w fun e w' => e = .returned (.int .u64 (lev ((xs.drop at_).take s) : Nat)) ∧ RrAt w' g (some ⟨bb, oo, none⟩) c (at_ + s) ∧ Below g w w' ∧ Beside g w w' := by
  have H1 := Lib.hid (recPart_any g bb oo c xs at_ s w hg hr ho ha)
  have HF := Lib.hid (show fromLe ((xs.drop at_).take s) = lev ((xs.drop at_).take s) by unfold fromLe; rw [List.take_take, Nat.min_eq_right hs])
  obtain ⟨v, hv⟩ : ∃ v, lev ((xs.drop at_).take s) = v := ⟨_, rfl⟩
  rw [hv] at HF ⊢
  clear hg hv
  go_enter Try.func132, Try.ntmps132
  go_wp2_with fail
  refine H1.out.mono ?_
  rintro e w2 ⟨B, rfl, rB, g2, b2, s2⟩
  go_wp2_with fail
  refine (fromLe_any B s s _ w2 rB).mono ?_
  rintro e w3 ⟨rfl, rfl⟩
  rw [HF.out]
  go_wp2_with fail
  go_ret
  exact ⟨rfl, g2, b2, s2⟩
end Go.Proofs.Ytnfepikgbdeomaa
