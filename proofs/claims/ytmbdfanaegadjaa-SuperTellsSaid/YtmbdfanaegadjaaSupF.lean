/-
  Layer 13: the document's Put.
-/
import Derived.Test.YtmbdfanaegadjaaSupD
namespace Go.Proofs.Ytmbdfanaegadjaa
set_option maxRecDepth 20000
open Go.RowKit
set_option linter.unusedVariables false
set_option linter.unusedSimpArgs false
set_option maxHeartbeats 8000000

theorem refsuPut_no (g : Nat) (s l : Int) (D : List UInt8) (w : World) (hs : -9223372036854775808 ≤ s ∧ s ≤ 9223372036854775807) (hD : D.length = 32) (hc : suCheck s l = false) :
    Calls Try.prog 18 #[.agg (suV g s l D)] w (RetBE w [] 2) := by
  obtain ⟨W, hW⟩ : ∃ W, W = w.alloc (.cells (suV g s l D) 26) := ⟨_, rfl⟩
  have bW : Below w.heap.size w W := by rw [hW]; exact (below_self w).alloc (Nat.le_refl _) _
  have HW := Lib.hid hW
  clear hW
  go_enter Try.func18, Try.ntmps18
  go_wp2_with (refine wpList_load_row rfl 26 _ rfl w.heap.size rfl 26 (suV g s l D) (0, 0) _ (row1 ..) Try.underlying26 rfl (suInfo g s l D hD) ?_)
  rw [← HW.out]
  have hh := refsuCheck_any g s l D W hs hD
  rw [hc] at hh
  refine hh.mono ?_
  rintro e w1 ⟨rfl, hb1⟩
  go_wp2
  go_ret2
  exact ⟨none, 0, 0, rfl, OwnB.nilB _ _, below_then bW hb1⟩

theorem refsuPut_yes (g s l : Nat) (D : List UInt8) (w : World) (hg : g < 4294967296) (hD : D.length = 32) (hc : suCheck (s : Int) (l : Int) = true) :
    Calls Try.prog 18 #[.agg (suV g s l D)] w (RetBE w (suL g s l D) 0) := by
  have hc' := of_decide_eq_true hc
  obtain ⟨W0, hW⟩ : ∃ W, W = w.alloc (.cells (suV g s l D) 26) := ⟨_, rfl⟩
  have bW0 : Below w.heap.size w W0 := by rw [hW]; exact (below_self w).alloc (Nat.le_refl _) _
  have hrow0 : W0.heap[w.heap.size]? = some (.cells (suV g s l D) 26 (0, 0)) := by rw [hW]; exact row1 ..
  have hz0 : w.heap.size < W0.heap.size := by rw [hW]; simp
  have HW := Lib.hid hW
  have HR0 := Lib.hid hrow0
  clear hW hrow0
  go_enter Try.func18, Try.ntmps18
  go_wp2_with (refine wpList_load_row rfl 26 _ rfl w.heap.size rfl 26 (suV g s l D) (0, 0) _ (row1 ..) Try.underlying26 rfl (suInfo g s l D hD) ?_)
  rw [← HW.out]
  have hh := refsuCheck_any g s l D W0 (by omega) hD
  rw [hc] at hh
  refine hh.mono ?_
  clear hh
  rintro e W ⟨rfl, hb1⟩
  have bW := below_then bW0 hb1
  have hz : w.heap.size < W.heap.size := Nat.lt_of_lt_of_le hz0 hb1.size
  have hrow := (hb1.block _ hz0).trans HR0.out
  have c0 := (cell_of_row W _ 0 _ _ _ hrow).trans (suV0 g s l D)
  have c1 := (cell_of_row W _ 1 _ _ _ hrow).trans (suV1 g s l D)
  have c2 := (cell_of_row W _ 2 _ _ _ hrow).trans (suV2 g s l D)
  have rD := suDig hrow hD
  have C1 := Lib.hid c1
  have C2 := Lib.hid c2
  clear hrow c1 c2
  have w8 : IntKind.u8.wrap (s : Int) = ((UInt8.ofNat s).toNat : Int) := by rw [UInt8.toNat_ofNat', IntKind.wrap_u8]; omega
  have wg := w64n (k := g) (by omega)
  have wl := w64n (k := l) (by omega)
  go_wp2_with fail
  refine named ?_
  intro W1 hW1
  have bW1 : Below W.heap.size W W1 := by rw [hW1]; repeat' (first | exact Below.refl _ _ | (refine Below.alloc ?_ ?_ _; rotate_left; (simp <;> omega)) | refine Below.drew ?_)
  have zW1 := bW1.size
  have HW1 := Lib.hid hW1
  clear hW1
  have o1 : OwnB W1 W.heap.size (some ⟨W.heap.size, 0, none⟩) 4 4 [80, 72, 83, 66] := by rw [HW1.out]; exact OwnB.lit _ _ _ _ rfl rfl (by simp [maxLen])
  refine (refLe_any g 4 W1 (by omega)).mono ?_
  rw [show clamp 4 = 4 from rfl]
  rintro e w2 ⟨A2, n2, c2, rfl, ho2, hb2⟩
  obtain rfl : n2 = 4 := by rw [← ho2.len, leB_length]
  have B2 := below_then bW1 hb2
  go_wp2_with (at_builtin; refine wp_appB rfl _ _ rfl B2 (Nat.le_refl _) B2.size (some ⟨W.heap.size, 0, none⟩) 4 4 [80, 72, 83, 66] rfl (o1.below hb2) A2 4 c2 (leB g 4) rfl ho2.rd (by omega) 8 ([80, 72, 83, 66] ++ leB g 4) rfl rfl ?_; intro A3 c3 w3 ho3 hb3 hg3; have j2 := (hb3.cell (p := ⟨w.heap.size, 2, none⟩) hz).trans C2.out)
  refine (refLe_any l 4 w3 (by omega)).mono ?_
  rw [show clamp 4 = 4 from rfl]
  rintro e w4 ⟨A4, n4, c4, rfl, ho4, hb4⟩
  obtain rfl : n4 = 4 := by rw [← ho4.len, leB_length]
  have B4 := hb3.trans (hb4.mono hb3.size)
  have z4 := B4.size
  clear j2
  go_wp2_with (first
    | (at_builtin; refine wp_appZ rfl _ _ rfl hb7 (Nat.le_refl _) hb7.size A7 45 c7 _ rfl ho7 207 .i64 _ rfl (by omega) (by omega) 252 (suB g s l D) rfl (by simp [suB, List.append_assoc]) ?_; intro A8 c8 w8 ho8 hb8 hg8)
    | (at_builtin; refine wp_appB rfl _ _ rfl hb6 (Nat.le_refl _) hb6.size A6 13 c6 _ rfl ho6 (some ⟨w.heap.size, 3, none⟩) 32 32 D rfl (rD.below hb6) (by omega) 45 ([80, 72, 83, 66] ++ leB g 4 ++ leB l 4 ++ [UInt8.ofNat s] ++ D) rfl rfl ?_; intro A7 c7 w7 ho7 hb7 hg7)
    | (at_builtin; refine wp_appB rfl _ _ rfl (hb5.alloc hb5.size _) (Nat.le_refl _) (by have := hb5.size; simp; omega) A5 12 c5 ([80, 72, 83, 66] ++ leB g 4 ++ leB l 4) rfl (ho5.alloc _) (some ⟨w5.heap.size, 0, none⟩) 1 1 [UInt8.ofNat s] rfl (rdK rfl _ _ _ (by rfl) rfl (by simp [maxLen])) (by omega) 13 ([80, 72, 83, 66] ++ leB g 4 ++ leB l 4 ++ [UInt8.ofNat s]) rfl rfl ?_; intro A6 c6 w6 ho6 hb6 hg6)
    | (at_builtin; refine wp_appB rfl _ _ rfl B4 (Nat.le_refl _) B4.size A3 8 c3 ([80, 72, 83, 66] ++ leB g 4) rfl (ho3.below hb4) A4 4 c4 (leB l 4) rfl ho4.rd (by omega) 12 ([80, 72, 83, 66] ++ leB g 4 ++ leB l 4) rfl rfl ?_; intro A5 c5 w5 ho5 hb5 hg5; have j1 := (hb5.cell (p := ⟨w.heap.size, 1, none⟩) hz).trans C1.out))
  refine (refClosed_any A8 252 c8 _ w8 ho8.rd (by omega)).mono ?_
  rintro e w9 ⟨A9, n9, c9, rfl, ho9, hb9⟩
  go_wp2
  go_ret2
  exact ⟨_, _, _, rfl, OwnB.mono ho9 (Nat.le_trans bW.size hb8.size), below_then bW (hb8.trans (hb9.mono hb8.size))⟩

theorem refsuPut_any (g : Nat) (s l : Int) (D : List UInt8) (w : World) (hg : g < 4294967296) (hs : -9223372036854775808 ≤ s ∧ s ≤ 9223372036854775807) (hD : D.length = 32) :
    Calls Try.prog 18 #[.agg (suV g s l D)] w (RetBE w (suPutL g s l D) (suPutE s l)) := by
  unfold suPutL suPutE
  cases h : suCheck s l with
  | false => rw [if_neg (by decide), if_neg (by decide)]; exact refsuPut_no g s l D w hs hD h
  | true =>
    rw [if_pos rfl, if_pos rfl]
    have hc' := of_decide_eq_true h
    obtain ⟨p, rfl⟩ : ∃ p : Nat, s = (p : Int) := ⟨s.toNat, by omega⟩
    obtain ⟨q, rfl⟩ : ∃ q : Nat, l = (q : Int) := ⟨l.toNat, by omega⟩
    exact refsuPut_yes g p q D w hg hD h
end Go.Proofs.Ytmbdfanaegadjaa
