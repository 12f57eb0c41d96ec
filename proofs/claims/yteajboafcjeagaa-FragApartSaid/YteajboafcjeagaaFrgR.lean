/-
  Layer 21: frag: the law's heads.
-/
import Derived.Test.YteajboafcjeagaaFrgQ
namespace Go.Proofs.Yteajboafcjeagaa
set_option maxRecDepth 20000
open Go.RowKit
set_option linter.unusedVariables false
set_option linter.unusedSimpArgs false
set_option maxHeartbeats 8000000

def hfO : OwT := (0, 0, 3, 17)
def hfB : List UInt8 := [97, 98, 99, 100, 101, 102, 103, 104, 105, 106, 107, 108]
def hfS1 (i : Nat) : Prop := False ∨ (8 ≤ i ∧ i < 8 + 4)
def RetH1 (w : World) (e : Ending) (w' : World) : Prop := ∃ x A c, e = .returned (.tuple #[.slice A 1 c, .agg #[.int .u16 0, .bool false, .int .i64 0, .int .i64 0, .int .u32 0, .int .u32 0, .slice none 0 0], .bool false, .int .i64 0]) ∧ OwFr w' w.heap.size A 1 c [x] ∧ FrPt hfO 35 hfB hfS1 x ∧ Below w.heap.size w w'
def RetH2 (w : World) (e : Ending) (w' : World) : Prop := ∃ A c B d, e = .returned (.tuple #[.slice A 0 c, .agg #[.int .u16 3, .bool false, .int .i64 0, .int .i64 17, .int .u32 0, .int .u32 0, .slice B 12 d], .bool true, .int .i64 0]) ∧ OwnB w' w.heap.size B 12 d hfB ∧ Below w.heap.size w w'
def RetH3 (w : World) (e : Ending) (w' : World) : Prop := ∃ B d, e = .returned (.tuple #[.slice none 0 0, .agg #[.int .u16 0, .bool false, .int .i64 0, .int .i64 0, .int .u32 0, .int .u32 0, .slice B 1 d], .bool true, .int .i64 0]) ∧ OwnB w' w.heap.size B 1 d [120] ∧ Below w.heap.size w w'
def RetH4 (w : World) (e : Ending) (w' : World) : Prop := e = .returned (.tuple #[.slice none 0 0, .agg #[.int .u16 0, .bool false, .int .i64 0, .int .i64 0, .int .u32 0, .int .u32 0, .slice none 0 0], .bool false, .int .i64 180]) ∧ Below w.heap.size w w'
theorem hf_ow : OwOk (0, 0, 3, 17) := ⟨by decide, by decide, by decide, by decide⟩
theorem hf_1 (W : World) (B : Option Addr) (d : Nat) (hb : RdB W B 4 d [105, 106, 107, 108]) : Calls Try.prog 29 #[.slice none 0 0, .agg #[.int .u16 3, .bool false, .int .i64 8, .int .i64 17, .int .u32 0, .int .u32 0, .slice B 4 d], .int .u64 5] W (RetH1 W) := by
  refine (frgTake_pc none 0 0 [] [] [] 3 8 false 17 0 0 B 4 d 35 hfB (fun _ => False) 5 W (rdFr_nil W) frs_nil (by omega) hb hf_ow (by omega) (by omega) (by decide) (by decide) (by omega) (by decide) (by omega) (by decide) (by simp) (by simp) (.inr ⟨rfl, rfl, rfl, fun _ h => h, fun x hx => (by cases hx)⟩)).mono ?_
  rintro e w' ⟨x, hx, hB, hh⟩
  rcases hh with ⟨_, A, n, c, rfl, ho⟩ | ⟨h, _⟩
  · obtain rfl : 1 = n := ho.lent
    exact ⟨x, A, c, rfl, ho, hx, hB⟩
  · rcases h 0 (by decide) with h | h
    · exact absurd h (by simp)
    · omega
theorem hf_2 (W : World) (A : Option Addr) (c : Nat) (x : Fr) (hx : FrPt hfO 35 hfB hfS1 x) (hr : RdFr W A 1 c [x]) (B : Option Addr) (d : Nat) (hb : RdB W B 8 d [97, 98, 99, 100, 101, 102, 103, 104]) : Calls Try.prog 29 #[.slice A 1 c, .agg #[.int .u16 3, .bool true, .int .i64 0, .int .i64 17, .int .u32 0, .int .u32 0, .slice B 8 d], .int .u64 6] W (RetH2 W) := by
  refine (frgTake_pc A 1 c [x] [] [] 3 0 true 17 0 0 B 8 d 35 hfB hfS1 6 W hr ⟨by simp, fun y hy => by simp at hy; rw [hy]; exact hx.right (by omega) (by decide) (by decide), by simp⟩ (by omega) hb hf_ow (by omega) (by omega) (by decide) (by decide) (by omega) (by decide) (by omega) (by decide) (by simp) (by simp) (.inl ⟨x, rfl, hx⟩)).mono ?_
  rintro e w' ⟨y, hy, hB, hh⟩
  rcases hh with ⟨h, _⟩ | ⟨_, A', n, c', B', k, d', rfl, ho, hob⟩
  · exact absurd (fun i hi => by have hi : i < 12 := hi; unfold hfS1; omega) h
  · obtain rfl : 0 = n := ho.lent
    obtain rfl : 12 = k := hob.len
    exact ⟨A', c', B', d', rfl, hob, hB⟩
theorem hf_3 (W : World) (B : Option Addr) (d : Nat) (hb : RdB W B 1 d [120]) : Calls Try.prog 29 #[.slice none 0 0, .agg #[.int .u16 0, .bool false, .int .i64 0, .int .i64 0, .int .u32 0, .int .u32 0, .slice B 1 d], .int .u64 5] W (RetH3 W) := by
  refine (frgTake_whole none 0 0 [] 0 0 0 0 B 1 d [120] 5 W (rdFr_nil W) frs_nil hb ⟨by decide, by decide, by decide, by decide⟩ (by omega) (by omega) (by decide) (by decide)).mono ?_
  rintro e w' ⟨B', k, d', rfl, ho, hB⟩
  obtain rfl : 1 = k := ho.len
  exact ⟨B', d', rfl, ho, hB⟩
theorem hf_4 (W : World) (B : Option Addr) (d : Nat) (hb : RdB W B 1 d [120]) : Calls Try.prog 29 #[.slice none 0 0, .agg #[.int .u16 0, .bool true, .int .i64 0, .int .i64 0, .int .u32 0, .int .u32 0, .slice B 1 d], .int .u64 5] W (RetH4 W) :=
  frgTake_drop none 0 0 [] 0 0 0 0 0 B 1 d [120] 5 W (rdFr_nil W) frs_nil hb ⟨by decide, by decide, by decide, by decide⟩ (by omega) (by decide) (by decide) (by omega) (by omega) (by omega)
theorem str_eq (xs : List UInt8) : (strOf xs).toList = xs := by rw [Lib.toList_data]; rfl
theorem kconst1 (W : World) (o : Obj) (C : Array Value) (n c : Nat) : (convert 35 35 (.slice (some ⟨W.heap.size + 1, 0, none⟩) n c)).run Try.prog ((W.alloc o).alloc (.cells C 5)) = .ok (.slice (some ⟨W.heap.size + 1, 0, none⟩) n c) ((W.alloc o).alloc (.cells C 5 (C.size, C.size + 1))) := by
  have h := kconst (W.alloc o) C n c
  rw [show (W.alloc o).heap.size = W.heap.size + 1 by simp] at h
  exact h
theorem litM1 (W : World) (o : Obj) (cs : Array Value) (m : Nat × Nat) (xs : List UInt8) (n : Nat) (h : cs.toList = xs.map vB) (hn : xs.length = n) (hm : n ≤ maxLen) : RdB ((W.alloc o).alloc (.cells cs 5 m)) (some ⟨W.heap.size + 1, 0, none⟩) n n xs := by
  have h := RdB.litM (W.alloc o) cs m xs n h hn hm
  rw [show (W.alloc o).heap.size = W.heap.size + 1 by simp] at h
  exact h
set_option maxRecDepth 100000 in
theorem heads21 (w : World) : Calls Try.prog 28 #[] w (RetV w (.bool true)) := by
  have kc := kconst
  have kc1 := kconst1
  go_enter Try.func28, Try.ntmps28
  go_wp2_with fail
  refine named ?_
  intro W1 hW1
  have bW1 : Below w.heap.size w W1 := by rw [hW1]; repeat' (first | exact Below.refl _ _ | (refine Below.alloc ?_ ?_ _; rotate_left; (simp <;> omega)) | refine Below.drew ?_)
  have zW1 := bW1.size
  have r1 : RdB W1 (some ⟨w.heap.size, 0, none⟩) 4 4 [105, 106, 107, 108] := by rw [hW1]; exact RdB.litM w _ _ [105, 106, 107, 108] 4 (by rfl) rfl (by simp [maxLen])
  have HW1 := Lib.hid hW1
  clear hW1
  refine (hf_1 W1 _ _ r1).mono ?_
  rintro e w2 ⟨x, A2, c2, rfl, o2, hx, hb2⟩
  have HX := Lib.hid hx
  have B2 := below_then bW1 hb2
  have R2 := Lib.hid o2.rd
  clear o2 hx r1
  go_wp2_with fail
  refine named ?_
  intro W3 hW3
  have bW3 : Below w2.heap.size w2 W3 := by rw [hW3]; repeat' (first | exact Below.refl _ _ | (refine Below.alloc ?_ ?_ _; rotate_left; (simp <;> omega)) | refine Below.drew ?_)
  have zW3 := bW3.size
  have r3 : RdB W3 (some ⟨w2.heap.size + 1, 0, none⟩) 8 8 [97, 98, 99, 100, 101, 102, 103, 104] := by rw [hW3]; exact litM1 w2 _ _ _ [97, 98, 99, 100, 101, 102, 103, 104] 8 (by rfl) rfl (by simp [maxLen])
  have HW3 := Lib.hid hW3
  clear hW3
  have B3 := below_then B2 bW3
  have R3 := Lib.hid (R2.out.below bW3)
  refine (hf_2 W3 _ _ x HX.out R3.out _ _ r3).mono ?_
  rintro e w4 ⟨A4, c4, P4, d4, rfl, o4, hb4⟩
  have B4 := below_then B3 hb4
  have R4 := Lib.hid (R3.out.below hb4)
  have P4r := Lib.hid o4.rd
  clear o4 r3
  go_wp2_with fail
  refine named ?_
  intro W5 hW5
  have bW5 : Below w4.heap.size w4 W5 := by rw [hW5]; repeat' (first | exact Below.refl _ _ | (refine Below.alloc ?_ ?_ _; rotate_left; (simp <;> omega)) | refine Below.drew ?_)
  have zW5 := bW5.size
  have r5 : RdB W5 (some ⟨w4.heap.size + 1, 0, none⟩) 1 1 [120] := by rw [hW5]; exact litM1 w4 _ _ _ [120] 1 (by rfl) rfl (by simp [maxLen])
  have q5 : PkAt W5 w4.heap.size 3 false 0 17 0 0 P4 12 d4 := by rw [hW5]; exact frw_old _ (frw_at _ rfl)
  have HW5 := Lib.hid hW5
  clear hW5
  have B5 := below_then B4 bW5
  have R5 := Lib.hid (R4.out.below bW5)
  have P5r := Lib.hid (P4r.out.below bW5)
  have Q5 := Lib.hid q5
  refine (hf_3 W5 _ _ r5).mono ?_
  rintro e w6 ⟨P6, d6, rfl, o6, hb6⟩
  have B6 := below_then B5 hb6
  have R6 := Lib.hid (R5.out.below hb6)
  have P6a := Lib.hid (P5r.out.below hb6)
  have P6b := Lib.hid o6.rd
  have Q6 := Lib.hid (Q5.out.up hb6)
  clear o6 r5 q5
  go_wp2_with fail
  refine named ?_
  intro W7 hW7
  have bW7 : Below w6.heap.size w6 W7 := by rw [hW7]; repeat' (first | exact Below.refl _ _ | (refine Below.alloc ?_ ?_ _; rotate_left; (simp <;> omega)) | refine Below.drew ?_)
  have zW7 := bW7.size
  have r7 : RdB W7 (some ⟨w6.heap.size + 1, 0, none⟩) 1 1 [120] := by rw [hW7]; exact litM1 w6 _ _ _ [120] 1 (by rfl) rfl (by simp [maxLen])
  have q7 : PkAt W7 w6.heap.size 0 false 0 0 0 0 P6 1 d6 := by rw [hW7]; exact frw_old _ (frw_at _ rfl)
  have HW7 := Lib.hid hW7
  clear hW7
  have B7 := below_then B6 bW7
  have R7 := Lib.hid (R6.out.below bW7)
  have P7a := Lib.hid (P6a.out.below bW7)
  have P7b := Lib.hid (P6b.out.below bW7)
  have Q7a := Lib.hid (Q6.out.up bW7)
  have Q7b := Lib.hid q7
  refine (hf_4 W7 _ _ r7).mono ?_
  rintro e w8 ⟨rfl, hb8⟩
  have B8 := below_then B7 hb8
  have R8 := Lib.hid (R7.out.below hb8)
  have s1 : (strOf hfB).toList = [97, 98, 99, 100, 101, 102, 103, 104, 105, 106, 107, 108] := str_eq hfB
  have s2 : (strOf [120]).toList = [120] := str_eq [120]
  obtain ⟨W9, hW9⟩ : ∃ W : World, W = w8.alloc (.cells #[.int .u16 0, .bool false, .int .i64 0, .int .i64 0, .int .u32 0, .int .u32 0, .slice none 0 0] 61) := ⟨_, rfl⟩
  have bW9 : Below w8.heap.size w8 W9 := by rw [hW9]; repeat' (first | exact Below.refl _ _ | (refine Below.alloc ?_ ?_ _; rotate_left; (simp <;> omega)) | refine Below.drew ?_)
  have zW9 := bW9.size
  have xW9 : w8.heap.size < W9.heap.size := by rw [hW9]; simp <;> omega
  have R9 := Lib.hid (R8.out.below bW9)
  have S1 := (P7a.out.below (below_then hb8 bW9)).str
  have S2 := (P7b.out.below (below_then hb8 bW9)).str
  obtain ⟨_, _, _, a3, _, _, a6⟩ := (Q7a.out.up (below_then hb8 bW9)).cells
  obtain ⟨_, _, _, _, _, _, b6⟩ := (Q7b.out.up (below_then hb8 bW9)).cells
  obtain ⟨bx, ox, rfl, hbx, hokx, hinx⟩ := R9.out.fr 0 (by omega)
  have t1 : W9.cell? ⟨bx, ox + 261, none⟩ = some (.int .u64 35) := by have h := hinx.2 261 _ (frV_till hokx); rw [Nat.zero_mul, Nat.add_zero] at h; rw [h]; show some (Value.int .u64 (x.till : Int)) = _; rw [HX.out.till]; rfl
  clear hinx hokx hbx
  rw [hW9] at a3 a6 b6 t1 S1 S2
  have HW9 := Lib.hid hW9
  clear hW9
  go_wp2_with fail
  rw [← HW9.out]
  clear a3 a6 b6 t1 S1 S2
  have B9 := below_then B8 bW9
  have HS : Hid (FrS [x]) := Lib.hid ⟨by simp, fun y hy => by simp at hy; rw [hy]; exact HX.out.right (by omega) (by decide) (by decide), by simp⟩
  refine (frgExpire_any _ c2 x 35 W9 R9.out HS.out (by rw [HX.out.till]; omega)).mono ?_
  rintro e w10 ⟨A10, c10, rfl, hb10⟩
  have B10 := below_then B9 hb10
  have R10 := Lib.hid (R9.out.below hb10)
  go_wp2_with fail
  refine (frgCheck_yes _ 1 c2 [x] w10 R10.out HS.out).mono ?_
  rintro e w11 ⟨rfl, hb11⟩
  go_wp2_with fail
  go_ret
  exact ⟨rfl, below_then B10 hb11⟩
end Go.Proofs.Yteajboafcjeagaa
