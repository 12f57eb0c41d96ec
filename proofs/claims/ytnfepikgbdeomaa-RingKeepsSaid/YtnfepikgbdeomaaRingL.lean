/-
  Layer 7: rings (the document): a number got.
-/
import Derived.Test.YtnfepikgbdeomaaRingK
import Derived.Test.YtnfepikgbdeomaaMemR
import Derived.Test.YtnfepikgbdeomaaRingG
namespace Go.Proofs.Ytnfepikgbdeomaa
set_option maxRecDepth 20000
open Go.RowKit
set_option linter.unusedVariables false
set_option linter.unusedSimpArgs false
set_option maxHeartbeats 4000000

theorem refGet7_any (A : Option Addr) (n c : Nat) (xs : List UInt8) (at_ s : Int) (w : World) (hr : RdB w A n c xs) (ha : -9223372036854775808 ≤ at_ ∧ at_ ≤ 9223372036854775807) (hs : -9223372036854775808 ≤ s ∧ s ≤ 9223372036854775807) :
    Calls Try.prog 74 #[.agg #[.slice A n c], .int .i64 at_, .int .i64 s] w (RetV w (.int .u64 (memNum xs at_ s))) := by
  obtain ⟨V, hV⟩ : ∃ V, V = w.alloc (.cells #[.slice A n c] 28) := ⟨_, rfl⟩
  have bV : Below w.heap.size w V := by rw [hV]; exact (below_self w).alloc (Nat.le_refl _) _
  have HH := Lib.hid (refMemNum_any A n c xs at_ s V (hr.below bV) ha hs)
  have HV := Lib.hid hV
  clear hV
  go_enter Try.func74, Try.ntmps74
  go_wp2_with fail
  rw [← HV.out]
  refine HH.out.mono ?_
  rintro e w2 ⟨rfl, hb2⟩
  go_wp2_with fail
  go_ret
  exact ⟨rfl, below_then bV hb2⟩
/-- Memory handed back. -/
def RetMm (w : World) (A : Option Addr) (n : Nat) (ys : List UInt8) (e : Ending) (w' : World) : Prop := ∃ A' c', e = .returned (.agg #[.slice A' n c']) ∧ RdB w' A' n c' ys ∧ (A' = A ∨ ∀ a, A' = some a → w.heap.size ≤ a.block) ∧ Below w.heap.size w w'
theorem refPut7_any (A : Option Addr) (n c : Nat) (xs : List UInt8) (at_ s : Int) (x : Nat) (w : World) (hr : RdB w A n c xs) (hn : 0 < n) (ha : -9223372036854775808 ≤ at_ ∧ at_ ≤ 9223372036854775807) (hs : -9223372036854775808 ≤ s ∧ s ≤ 9223372036854775807) (hx : x < 18446744073709551616) :
    Calls Try.prog 76 #[.agg #[.slice A n c], .int .i64 at_, .int .i64 s, .int .u64 x] w (RetMm w A n (memPutN xs at_ s x)) := by
  obtain ⟨V, hV⟩ : ∃ V, V = (w.alloc (.cells #[.slice A n c] 28)).alloc (.cells #[.slice none 0 0] 28) := ⟨_, rfl⟩
  have bV : Below w.heap.size w V := by rw [hV]; exact ((below_self w).alloc (Nat.le_refl _) _).alloc (by simp) _
  have zV : V.heap.size = w.heap.size + 1 + 1 := by rw [hV]; simp
  have rM : V.heap[w.heap.size]? = some (.cells #[.slice A n c] 28 (0, 0)) := by rw [hV]; exact row2a ..
  have rO : V.heap[w.heap.size + 1]? = some (.cells #[.slice none 0 0] 28 (0, 0)) := by rw [hV]; exact row2b ..
  have hold := hr.old hn
  have HL := Lib.hid (show (memPutN xs at_ s x).length = n by rw [memPutN_len, hr.2.1])
  have HH := Lib.hid (refMemPutNum_any A n c xs at_ s x V (hr.below bV) ha hs hx)
  obtain ⟨ys, hys⟩ : ∃ ys, memPutN xs at_ s x = ys := ⟨_, rfl⟩
  rw [hys] at HL HH ⊢
  have HV := Lib.hid hV
  have RM := Lib.hid rM
  have RO := Lib.hid rO
  have ZV := Lib.hid zV
  clear hV hys rM rO zV
  go_enter Try.func76, Try.ntmps76
  go_wp2_with fail
  rw [← HV.out]
  refine HH.out.mono ?_
  rintro e w2 ⟨A2, n2, c2, rfl, hr2, hfar, hb2⟩
  obtain rfl : n2 = n := by rw [← hr2.2.1, HL.out]
  have m2 := (hb2.block w.heap.size (by have := ZV.out; omega)).trans RM.out
  have o2 := (hb2.block (w.heap.size + 1) (by have := ZV.out; omega)).trans RO.out
  have d0 := (cell_of_row w2 _ 0 _ _ _ m2).trans (show (#[.slice A n2 c] : Array Value)[0]? = some (.slice A n2 c) from rfl)
  have d1 := (cell_of_row w2 _ 0 _ _ _ o2).trans (show (#[.slice none 0 0] : Array Value)[0]? = some (.slice none 0 0) from rfl)
  have f0 : w2.frozen? ⟨w.heap.size, 0, none⟩ = false := frozen_of_row _ _ 0 _ _ m2
  have f1 : w2.frozen? ⟨w.heap.size + 1, 0, none⟩ = false := frozen_of_row _ _ 0 _ _ o2
  have off0 : ∀ a, A2 = some a → a.block ≠ w.heap.size ∧ a.block ≠ w.heap.size + 1 := fun a e => by
    have z := ZV.out
    rcases hfar with ⟨rfl, _⟩ | h
    · have := hold a e; omega
    · have := h a e; omega
  have far2 : A2 = A ∨ ∀ a, A2 = some a → w.heap.size ≤ a.block := by
    have z := ZV.out
    rcases hfar with ⟨rfl, _⟩ | h
    · exact .inl rfl
    · exact .inr fun a e => by have := h a e; omega
  have B2 := below_then bV hb2
  have O2 := Lib.hid o2
  clear m2 o2
  go_wp2_with fail
  have hrow2 : ((w2.setCell ⟨w.heap.size, 0, none⟩ (.slice A2 n2 c2)).setCell ⟨w.heap.size + 1, 0, none⟩ (.slice A2 n2 c2)).heap[w.heap.size + 1]? = some (.cells #[.slice A2 n2 c2] 28 (0, 0)) := (setc_rowT ((Below.heap_setCell _ _ _ _ (by simp)).trans O2.out)).trans rfl
  have r3 : RdB (w2.setCell ⟨w.heap.size, 0, none⟩ (.slice A2 n2 c2)) A2 n2 c2 ys := rdB_off (g := w.heap.size) hr2 (fun a e => (off0 a e).1) (by simp [World.setCell]) (fun j hj => Below.heap_setCell _ _ _ _ hj)
  have r4 := rdB_off (w' := (w2.setCell ⟨w.heap.size, 0, none⟩ (.slice A2 n2 c2)).setCell ⟨w.heap.size + 1, 0, none⟩ (.slice A2 n2 c2)) (g := w.heap.size + 1) r3 (fun a e => (off0 a e).2) (by simp [World.setCell]) (fun j hj => Below.heap_setCell _ _ _ _ hj)
  have hl := run_loadVar_row (P := Try.prog) _ _ _ 28 _ _ _ hrow2 Try.underlying28 rfl (by kernel_rfl)
  refine bodyPost_ret (v := .agg #[.slice A2 n2 c2]) (by simp [results, Try.results76, asAddr, hl]) rfl ?_
  exact ⟨A2, c2, rfl, r4, far2, (B2.setCell (p := ⟨w.heap.size, 0, none⟩) (Nat.le_refl _) _).setCell (p := ⟨w.heap.size + 1, 0, none⟩) (by simp) _⟩
end Go.Proofs.Ytnfepikgbdeomaa
