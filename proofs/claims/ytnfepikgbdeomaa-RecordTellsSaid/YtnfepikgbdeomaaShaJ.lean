/-
  Layer 3: digests (package): Link.
-/
import Derived.Test.YtnfepikgbdeomaaShaI
namespace Go.Proofs.Ytnfepikgbdeomaa
set_option maxRecDepth 20000
open Go.RowKit Go.Shelf
set_option linter.unusedVariables false
set_option linter.unusedSimpArgs false
set_option maxHeartbeats 8000000
attribute [local go_sem] Oper.semAt_some

set_option maxRecDepth 100000 in
theorem shaLink_any (D : List UInt8) (hD : D.length = 32) (A : Option Addr) (n c : Nat) (xs : List UInt8) (w : World) (hr : RdB w A n c xs) (hn : n ≤ 999000) : Calls Try.prog 84 #[.agg (dgA D), .slice A n c] w (RetDg w (shLink D xs)) := by
  obtain ⟨D0, hD0⟩ : ∃ D0 : Array Value, #[.int .u8 0, .int .u8 0, .int .u8 0, .int .u8 0, .int .u8 0, .int .u8 0, .int .u8 0, .int .u8 0, .int .u8 0, .int .u8 0, .int .u8 0, .int .u8 0, .int .u8 0, .int .u8 0, .int .u8 0, .int .u8 0, .int .u8 0, .int .u8 0, .int .u8 0, .int .u8 0, .int .u8 0, .int .u8 0, .int .u8 0, .int .u8 0, .int .u8 0, .int .u8 0, .int .u8 0, .int .u8 0, .int .u8 0, .int .u8 0, .int .u8 0, .int .u8 0] = D0 := ⟨#[.int .u8 0, .int .u8 0, .int .u8 0, .int .u8 0, .int .u8 0, .int .u8 0, .int .u8 0, .int .u8 0, .int .u8 0, .int .u8 0, .int .u8 0, .int .u8 0, .int .u8 0, .int .u8 0, .int .u8 0, .int .u8 0, .int .u8 0, .int .u8 0, .int .u8 0, .int .u8 0, .int .u8 0, .int .u8 0, .int .u8 0, .int .u8 0, .int .u8 0, .int .u8 0, .int .u8 0, .int .u8 0, .int .u8 0, .int .u8 0, .int .u8 0, .int .u8 0], rfl⟩
  have HD0 := Lib.hid hD0
  have hsz : (dgA D).size = 32 := by rw [dgA_size, hD]
  go_enter Try.func84, Try.ntmps84
  go_wp2_with fail
  obtain ⟨W1, hW1⟩ : ∃ W1, W1 = (w.alloc (.cells (dgA D) 67)).alloc (.cells D0 67) := ⟨_, rfl⟩
  have b1 : Below w.heap.size w W1 := by rw [hW1]; exact ((below_self w).alloc (Nat.le_refl _) _).alloc (by simp) _
  have z1 : W1.heap.size = w.heap.size + 1 + 1 := by rw [hW1]; simp
  have d1 : RdB W1 (some ⟨w.heap.size, 0, none⟩) 32 32 D := by
    rw [hW1]
    refine ⟨?_, hD, Nat.le_refl _, by simp [maxLen]⟩
    have := (Rd.new w (dgA D) 67).alloc (.cells D0 67)
    rwa [show (dgA D).toList = D.map vB by simp [dgA]] at this
  have r1 : W1.heap[w.heap.size + 1]? = some (.cells D0 67 (0, 0)) := by rw [hW1]; exact row2b ..
  have R1 := Lib.hid r1
  rw [← hW1, ← z1]
  have Z1 := Lib.hid z1
  clear hW1 r1 z1
  obtain ⟨W3, hW3⟩ : ∃ W3, W3 = W1.alloc (.cells #[.slice (some ⟨w.heap.size, 0, none⟩) 32 32, .slice A n c] 26) := ⟨_, rfl⟩
  have bW3 : Below W1.heap.size W1 W3 := by rw [hW3]; exact (below_self W1).alloc (Nat.le_refl _) _
  have hlen : ([D, xs] : List (List UInt8)).flatten.length ≤ 70368744177664 := by simp [hr.2.1, hD]; omega
  rw [← hW3]
  refine (concat_any (some ⟨W1.heap.size, 0, none⟩) 2 2 [.slice (some ⟨w.heap.size, 0, none⟩) 32 32, .slice A n c] [D, xs] W3 (by rw [hW3]; exact Rd.new W1 #[.slice (some ⟨w.heap.size, 0, none⟩) 32 32, .slice A n c] _) rfl (by omega) ⟨⟨_, _, _, rfl, d1.below bW3⟩, ⟨_, _, _, rfl, (hr.below b1).below bW3⟩, trivial⟩ hlen).mono ?_
  rintro e w4 ⟨A4, n4, c4, rfl, ho4, hb4⟩
  rw [show [D, xs].flatten = D ++ xs by simp] at ho4
  have hn4 : n4 ≤ 1000000 := by rw [← ho4.len, List.length_append, hD, hr.2.1]; omega
  clear hW3 hlen
  go_wp2_with fail
  refine (shaOf_any A4 n4 c4 (D ++ xs) w4 ho4.rd hn4).mono ?_
  rintro e w5 ⟨rfl, hb5⟩
  obtain ⟨DG, hDG⟩ : ∃ DG, shLink D xs = DG := ⟨shLink D xs, rfl⟩
  rw [show shOf (D ++ xs) = DG from hDG, hDG]
  have HDG := Lib.hid hDG
  have hDl : DG.length = 32 := by rw [← hDG]; exact shLink_len D xs
  have zz := Z1.out
  have R5 := Lib.hid ((hb5.block (w.heap.size + 1) (by have := hb4.size; have := bW3.size; omega)).trans ((hb4.block _ (by have := bW3.size; omega)).trans ((bW3.block _ (by omega)).trans R1.out)))
  have B5 : Below w.heap.size w w5 := below_then b1 (below_then bW3 (below_then hb4 hb5))
  have hD0s : D0.size = 32 := by rw [← HD0.out]; rfl
  clear hDG hD0 zz
  go_wp2_with (refine dig_store rfl _ _ rfl (w.heap.size + 1) rfl DG D0 rfl 67 R5.out hDl hD0s ?_)
  refine bodyPost_ret (results_cell_row Try.results84 _ _ (w.heap.size + 1) 67 (dgA DG) (0, 0) _ rfl (setRow_heap _ _ _ (dgA DG) _ _ R5.out) Try.underlying67 rfl (infoD DG hDl)) rfl ?_
  exact ⟨by rw [HDG.out], below_setRow B5 (by omega) _⟩
end Go.Proofs.Ytnfepikgbdeomaa
