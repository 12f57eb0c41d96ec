/-
  The walks of crc.Holds, of the reference's Closed and Holds, and of the page's Bytes.
-/
import Derived.Test.YtnfepikgbdeomaaBox
import Derived.Test.YtnfepikgbdeomaaCrc
import Derived.RegionTactic
import Derived.ChangeAlike
import Derived.Test.YtnfepikgbdeomaaPlan
import Derived.Deep.RegionHeld3
namespace Go.Proofs.Ytnfepikgbdeomaa
set_option maxRecDepth 20000
open Go.RowKit
set_option linter.unusedVariables false
set_option linter.unusedSimpArgs false

theorem holds_short (A : Option Addr) (n c : Nat) (w : World) (h : n < 4) :
    Calls Try.prog 94 #[.slice A n c] w (RetV w (.bool false)) := by
  have hd : decide ((4 : Int) ≤ (n : Int)) = false := by simp; omega
  go_enter Try.func94, Try.ntmps94
  go_wp2_with fail
  go_quiet (fail)
  go_wp2
  go_ret
  exact ⟨rfl, by simpa using below_drewN (Below.refl _ w) _⟩

theorem holds_long (A : Option Addr) (n c : Nat) (xs : List UInt8) (w : World) (hr : RdB w A n c xs) (hm : n ≤ 35184372088832) (h : 4 ≤ n) :
    Calls Try.prog 94 #[.slice A n c] w (RetV w (.bool (crcHolds xs))) := by
  have hres : crcHolds xs = decide (le4 (crcOf (xs.take (n - 4))) = xs.drop (n - 4)) := by
    unfold crcHolds
    rw [hr.2.1, decide_eq_true h, Bool.true_and]
    congr 1
    exact propext ⟨Eq.symm, Eq.symm⟩
  obtain ⟨m, rfl⟩ : ∃ m, n = m + 4 := ⟨n - 4, by omega⟩
  rw [show m + 4 - 4 = m by omega] at hres
  have hd : decide ((0 : Int) ≤ ((m + 4 : Nat) : Int) - 4) = true := by simp
  have hc := hr.2.2.1
  have hr1 := hr.take m (by omega)
  have hr2 := hr.cut m 4 rfl (by omega)
  have hlt := crcOf_lt (xs.take m)
  have k0 : (0 : Int) ≤ (m : Int) := by omega
  have k1 : (m : Int) ≤ (c : Int) := by omega
  have k2 : (m : Int) ≤ (m : Int) + 4 := by omega
  have k3 : (m : Int) + 4 ≤ (c : Int) := by omega
  have k4 : ¬ (c = m) := by omega
  have HR := Lib.hid hres
  clear hres
  go_enter Try.func94, Try.ntmps94
  go_wp2_with fail
  go_region_held3 (fun _ => True) (trivial) (first
    | (go_at_call 125; refine (crcOf_any A m c _ _ (by exact hr1)).mono ?_; rintro e w1 ⟨rfl, hb1⟩)
    | (go_at_call 124; refine (laid_any _ _ hlt).mono ?_; rintro e w2 ⟨A2, n2, c2, rfl, ho2, hb2⟩)
    | (go_at_call 131; refine (equal_any _ _ _ _ _ _ _ _ _ (by exact ho2.rd) (by exact (hr2.drew.below hb1).below hb2)).mono ?_; rintro e w3 ⟨rfl, q, rfl⟩))
  go_wp2
  go_ret
  rw [HR.out]
  exact ⟨rfl, below_drewN (undrew (below_then hb1 hb2)) _⟩

theorem holds_any (A : Option Addr) (n c : Nat) (xs : List UInt8) (w : World) (hr : RdB w A n c xs) (hm : n ≤ 35184372088832) :
    Calls Try.prog 94 #[.slice A n c] w (RetV w (.bool (crcHolds xs))) := by
  by_cases h : 4 ≤ n
  · exact holds_long A n c xs w hr hm h
  · have e : crcHolds xs = false := by unfold crcHolds; rw [hr.2.1, decide_eq_false h, Bool.false_and]
    rw [e]
    exact holds_short A n c w (by omega)

theorem refClosed_any (A : Option Addr) (n c : Nat) (xs : List UInt8) (w : World) (hr : RdB w A n c xs) (hm : n ≤ 35184372088832) :
    Calls Try.prog 46 #[.slice A n c] w (RetB w (crcClosed xs)) := by
  have hlt := crcOf_lt xs
  have hlen := hr.2.1
  have HL := Lib.hid hlen
  clear hlen
  have hown := World.ownsRow_lit (size := 1) (e := 5) w #[] 0 (Nat.le_refl _) (by simp [maxLen]) rfl
  go_enter Try.func46, Try.ntmps46
  have arm : ∀ (w4 : World) (A4 : Option Addr) (c4 : Nat), w4.ownsRow w.heap.size 5 1 (.slice A4 (0 + n) c4) (0 + n) ([] ++ xs.map vB) → (w4.alloc (.cells #[.int .u8 ((crcOf xs : Int) % 256), .int .u8 ((crcOf xs : Int) / 256 % 256), .int .u8 ((crcOf xs : Int) / 65536 % 256), .int .u8 ((crcOf xs : Int) / 16777216)] 5)).ownsRow w.heap.size 5 1 (.slice A4 n c4) n (xs.map vB) :=
    fun w4 A4 c4 h => by simpa using h.alloc _
  have hl4 : ∀ (w4 : World), Rd (w4.alloc (.cells #[.int .u8 ((crcOf xs : Int) % 256), .int .u8 ((crcOf xs : Int) / 256 % 256), .int .u8 ((crcOf xs : Int) / 65536 % 256), .int .u8 ((crcOf xs : Int) / 16777216)] 5)) (some ⟨w4.heap.size, 0, none⟩) ((le4 (crcOf xs)).map vB) := fun w4 => by
    have h := Rd.new w4 #[.int .u8 ((crcOf xs : Int) % 256), .int .u8 ((crcOf xs : Int) / 256 % 256), .int .u8 ((crcOf xs : Int) / 65536 % 256), .int .u8 ((crcOf xs : Int) / 16777216)] 5
    have e : ((le4 (crcOf xs)).map vB) = [.int .u8 ((crcOf xs : Int) % 256), .int .u8 ((crcOf xs : Int) / 256 % 256), .int .u8 ((crcOf xs : Int) / 65536 % 256), .int .u8 ((crcOf xs : Int) / 16777216)] := by
      simp [le4, vB]; omega
    rw [e]
    exact h
  have hbs : ∀ (w4 : World), (w.alloc (.cells #[] 5)).grownBy w4 (some w.heap.size) → w.heap.size ≤ w4.heap.size := fun w4 h => by have := h.size; simp at this; omega
  go_wp2_with (first
    | (go_at_call 93; refine (refOf_any A n c xs _ hr).mono ?_; rintro e w1 ⟨rfl, rfl⟩)
    | (at_builtin; refine wp_app rfl _ _ 26 5 rfl elemB _ _ n _ rfl (arm _ _ _ ho4) _ 4 4 _ rfl (hl4 _) rfl (oneCell_vB _) (by unfold maxLen; omega) (by omega) (by have := hbs _ hg4; simp; omega) ?_; intro A5 c5 w5 ho5 hg5)
    | (at_builtin; refine wp_app rfl _ _ 26 5 rfl elemB _ _ 0 _ rfl hown _ n c _ rfl (hr.1.alloc _) (by simpa using HL.out) (oneCell_vB _) (by unfold maxLen; omega) (by omega) (by simp) ?_; intro A4 c4 w4 ho4 hg4))
  have hb4 : Below w.heap.size w w4 := ((Below.refl _ _).alloc (Nat.le_refl _) _).grown hg4 (by simp) (fun q hq => (hown.lt q hq).1)
  have hb5 : Below w.heap.size w w5 := (hb4.alloc hb4.size _).grown hg5 (by have := hb4.size; simp; omega) (fun q hq => ((arm _ _ _ ho4).lt q hq).1)
  go_wp2
  go_ret
  exact ⟨_, _, _, rfl, by unfold OwnB; rw [crcClosed, List.map_append]; exact ho5, hb5⟩

theorem refHolds_long (A : Option Addr) (n c : Nat) (xs : List UInt8) (w : World) (hr : RdB w A n c xs) (hm : n ≤ 35184372088832) (h : 4 ≤ n) :
    Calls Try.prog 97 #[.slice A n c] w (RetV w (.bool (crcHolds xs))) := by
  have hres : crcHolds xs = decide (crcClosed (xs.take (n - 4)) = xs) := by
    rw [crcHolds_as _ (by rw [hr.2.1]; exact h), hr.2.1]
  obtain ⟨m, rfl⟩ : ∃ m, n = m + 4 := ⟨n - 4, by omega⟩
  rw [show m + 4 - 4 = m by omega] at hres
  have hd : decide ((4 : Int) ≤ ((m + 4 : Nat) : Int)) = true := by simp; omega
  have hd' : decide ((4 : Int) ≤ (m : Int) + 4) = true := by simp; omega
  have hc := hr.2.2.1
  have hr1 := hr.take m (by omega)
  have k0 : (0 : Int) ≤ (m : Int) := by omega
  have k1 : (m : Int) ≤ (c : Int) := by omega
  have k3 : (m : Int) + 4 ≤ (c : Int) := by omega
  have k5 : IntKind.i64.wrap (m : Int) = (m : Int) := IntWalk.i64_in _ (by omega)
  have ks := strOf_eq (crcClosed (xs.take m)) xs
  have HR := Lib.hid hres
  clear hres
  go_enter Try.func97, Try.ntmps97
  go_wp2_with fail
  refine wp_region_plan (S := fun w' => Below w.heap.size w w') [(0, true), (1, true), (2, true), (3, true), (4, true), (5, true), (6, true), (7, true), (8, true), (11, true), (12, true), (9, false), (10, false), (13, true), (14, true), (15, true)] (by kernel_rfl) (by kernel_rfl) (fun _ _ d _ _ h => by cases d <;> exact h) ((Below.refl _ w).drew) ?_
  iterate 11 (refine plan_take (v := ?_) rfl (Or.inl ⟨by rfl, ?_⟩) ?_; rotate_left; (focus (intro w' hw'; have ks' := (hr.below hw').str; go_simp <;> with_reducible rfl)); try simp only [Act.put, List.setIfInBounds_toArray, List.set_cons_zero, List.set_cons_succ])
  refine plan_run rfl (fun K hK => ?_)
  go_simp
  refine (refClosed_any A m c _ _ (by exact hr1) (by omega)).mono ?_
  rintro e w1 ⟨A1, n1, c1, rfl, ho1, hb1⟩
  refine hK.out _ _ (undrew hb1) ?_
  clear hK
  have ks1 := ho1.rd.str
  try simp only [Act.put, List.setIfInBounds_toArray, List.set_cons_zero, List.set_cons_succ]
  refine plan_run rfl (fun K hK => ?_)
  go_simp
  refine hK.out _ _ (undrew hb1) ?_
  clear hK
  try simp only [Act.put, List.setIfInBounds_toArray, List.set_cons_zero, List.set_cons_succ]
  iterate 3 (refine plan_take (v := ?_) rfl (Or.inl ⟨by rfl, ?_⟩) ?_; rotate_left; (focus (intro w' hw'; go_simp <;> with_reducible rfl)); try simp only [Act.put, List.setIfInBounds_toArray, List.set_cons_zero, List.set_cons_succ])
  refine plan_done ?_
  go_wp2
  go_ret
  rw [HR.out]
  exact ⟨rfl, undrew hb1⟩
end Go.Proofs.Ytnfepikgbdeomaa
