/-
  Layer 12: records: the law's heads (plain).
  Layer 12: records: the law's heads.
  Layer 12: records: the law RecordTells.
  How an argument that came in is read: a record.
-/
import Derived.Test.YtnfepikgbdeomaaRecP
import Derived.Test.YtnfepikgbdeomaaRecI
import Derived.Test.YtnfepikgbdeomaaRecX
import Derived.Test.YtnfepikgbdeomaaOpenD
import Derived.Test.YtnfepikgbdeomaaOpenR
import Derived.Test.YtnfepikgbdeomaaRecB
namespace Go.Proofs.Ytnfepikgbdeomaa
set_option maxRecDepth 20000
set_option linter.unusedVariables false
set_option linter.unusedSimpArgs false

def rcH0 : Rc := ⟨1, 2, 3, 7, 3, 0, [97, 98, 99], List.replicate 32 0⟩
set_option maxRecDepth 100000 in
theorem rcH_chain : decide (shLink (List.replicate 32 0) (rcBody rcH0) = shLink (1 :: List.replicate 31 0) (rcBody rcH0)) = false := by decide +kernel
end Go.Proofs.Ytnfepikgbdeomaa

namespace Go.Proofs.Ytnfepikgbdeomaa
open Go.RowKit
set_option linter.unusedVariables false
set_option linter.unusedSimpArgs false
set_option maxRecDepth 20000
set_option maxHeartbeats 8000000

/-- A record stored in a box that was just made. -/
theorem rc_fresh {ops : Array Oper} {rest : List Oper} {o : Oper} {a : Act} {w : World} {Q : Exit → Act → World → Prop} {h : Nat} {r : Rc} {A : Option Addr} {n c : Nat} (hgd : o.guard = none) (x z : Operand) (ho : o.op = .store 69 x z) (hx : a.eval x = .pointer (some ⟨h, 0, none⟩)) (hz : a.eval z = .agg (rcV r A n c).toArray) (w0 : World)
    (hw : w = w0.alloc (.cells #[.int .u32 0, .int .u32 0, .int .u32 0, .int .u64 0, .int .i64 0, .int .u64 0, .slice none 0 0, .int .u8 0, .int .u8 0, .int .u8 0, .int .u8 0, .int .u8 0, .int .u8 0, .int .u8 0, .int .u8 0, .int .u8 0, .int .u8 0, .int .u8 0, .int .u8 0, .int .u8 0, .int .u8 0, .int .u8 0, .int .u8 0, .int .u8 0, .int .u8 0, .int .u8 0, .int .u8 0, .int .u8 0, .int .u8 0, .int .u8 0, .int .u8 0, .int .u8 0, .int .u8 0, .int .u8 0, .int .u8 0, .int .u8 0, .int .u8 0, .int .u8 0, .int .u8 0] 69)) (hh : w0.heap.size = h) (hD : r.D.length = 32)
    (hK : ∀ X, Hid (RcAt X h r A n c) → Below w0.heap.size w0 X → wpList Try.prog ops Q rest (a.put o.dst undef) X) : wpList Try.prog ops Q (o :: rest) a w := by
  subst hw
  refine rc_store hgd x z ho hx hz (zeroAt hh) hD rcZD (hK _ (Lib.hid (zeroAt hh).setRow) ?_)
  exact below_setRow ((below_self w0).alloc (Nat.le_refl _) _) (by omega) _
theorem dgA0 : dgA (List.replicate 32 0) = #[.int .u8 0, .int .u8 0, .int .u8 0, .int .u8 0, .int .u8 0, .int .u8 0, .int .u8 0, .int .u8 0, .int .u8 0, .int .u8 0, .int .u8 0, .int .u8 0, .int .u8 0, .int .u8 0, .int .u8 0, .int .u8 0, .int .u8 0, .int .u8 0, .int .u8 0, .int .u8 0, .int .u8 0, .int .u8 0, .int .u8 0, .int .u8 0, .int .u8 0, .int .u8 0, .int .u8 0, .int .u8 0, .int .u8 0, .int .u8 0, .int .u8 0, .int .u8 0] := by rfl
theorem dgA1 : dgA (1 :: List.replicate 31 0) = #[.int .u8 1, .int .u8 0, .int .u8 0, .int .u8 0, .int .u8 0, .int .u8 0, .int .u8 0, .int .u8 0, .int .u8 0, .int .u8 0, .int .u8 0, .int .u8 0, .int .u8 0, .int .u8 0, .int .u8 0, .int .u8 0, .int .u8 0, .int .u8 0, .int .u8 0, .int .u8 0, .int .u8 0, .int .u8 0, .int .u8 0, .int .u8 0, .int .u8 0, .int .u8 0, .int .u8 0, .int .u8 0, .int .u8 0, .int .u8 0, .int .u8 0, .int .u8 0] := by rfl
theorem rcH0_ok : rcH0.ok := by refine ⟨by decide, by decide, by decide, by decide, ⟨by decide, by decide⟩, by decide, rfl⟩
theorem rcH0_chk : rcH0.chk = true := by decide
set_option maxRecDepth 100000 in
theorem rcZeros : crcHolds (List.replicate 256 0) = false := by decide +kernel
theorem rcZeros_get : rcGetE (List.replicate 256 0) = 6 ∧ rcGet (List.replicate 256 0) = rcZ := by
  have e : rcGetE (List.replicate 256 0) = 6 := by unfold rcGetE; rw [if_neg (by simp), if_pos rcZeros]
  exact ⟨e, by unfold rcGet; rw [if_neg (by rw [e]; decide)]⟩
theorem heads12 (w : World) : Calls Try.prog 36 #[] w (RetV w (.bool true)) := by
  obtain ⟨D0, hD0⟩ : ∃ d, d = List.replicate 32 (0 : UInt8) := ⟨_, rfl⟩
  have hD0l : D0.length = 32 := by rw [hD0]; rfl
  obtain ⟨D1, hD1⟩ : ∃ d, d = (1 : UInt8) :: List.replicate 31 (0 : UInt8) := ⟨_, rfl⟩
  have hD1l : D1.length = 32 := by rw [hD1]; rfl
  have g0 : dgA D0 = #[.int .u8 0, .int .u8 0, .int .u8 0, .int .u8 0, .int .u8 0, .int .u8 0, .int .u8 0, .int .u8 0, .int .u8 0, .int .u8 0, .int .u8 0, .int .u8 0, .int .u8 0, .int .u8 0, .int .u8 0, .int .u8 0, .int .u8 0, .int .u8 0, .int .u8 0, .int .u8 0, .int .u8 0, .int .u8 0, .int .u8 0, .int .u8 0, .int .u8 0, .int .u8 0, .int .u8 0, .int .u8 0, .int .u8 0, .int .u8 0, .int .u8 0, .int .u8 0] := by rw [hD0]; exact dgA0
  have g1 : dgA D1 = #[.int .u8 1, .int .u8 0, .int .u8 0, .int .u8 0, .int .u8 0, .int .u8 0, .int .u8 0, .int .u8 0, .int .u8 0, .int .u8 0, .int .u8 0, .int .u8 0, .int .u8 0, .int .u8 0, .int .u8 0, .int .u8 0, .int .u8 0, .int .u8 0, .int .u8 0, .int .u8 0, .int .u8 0, .int .u8 0, .int .u8 0, .int .u8 0, .int .u8 0, .int .u8 0, .int .u8 0, .int .u8 0, .int .u8 0, .int .u8 0, .int .u8 0, .int .u8 0] := by rw [hD1]; exact dgA1
  obtain ⟨R, hR⟩ : ∃ R, R = rcMk D0 rcH0 := ⟨_, rfl⟩
  have hRok : R.ok := by rw [hR]; exact rcMk_ok _ _ rcH0_ok
  have hRc : R.chk = true := by rw [hR]; exact rcH0_chk
  have hRb : R.b = [97, 98, 99] := by rw [hR]; rfl
  have hMk : rcMkR D0 ⟨1, 2, 3, 7, 3, 0, [97, 98, 99], List.replicate 32 0⟩ = R := by rw [hR]; rfl
  have hMe : rcMkE ⟨1, 2, 3, 7, 3, 0, [97, 98, 99], List.replicate 32 0⟩ = 0 := by rfl
  obtain ⟨Y, hY⟩ : ∃ Y, Y = rcPutL R := ⟨_, rfl⟩
  have hYE : rcPutE R = 0 := by unfold rcPutE; rw [if_pos hRc]
  have hYl : Y.length = 256 := by rw [hY]; unfold rcPutL; rw [if_pos hRc]; exact rcL_len R (by rw [hRb]; decide) hRok.2.2.2.2.2.2
  have hYg : rcGetE Y = 0 ∧ rcGet Y = R := by rw [hY]; exact rcGet_put R hRok hRc
  have hYt : Y.take 4 = [80, 72, 82, 67] := by
    have := rcGet_take Y hYg.1
    rw [hYg.2] at this
    have h4 : Y.take 4 = (Y.take 220).take 4 := by rw [List.take_take]; rfl
    rw [h4, this]; rfl
  have hF : ∀ Q g s, rcFolE Q g s Y = if rcH0.g ≠ g then 120 else if rcH0.s ≠ s then 121 else if shLink D0 (rcBody rcH0) ≠ shLink Q (rcBody rcH0) then 122 else 0 := fun Q g s => by rw [hY, hR]; exact rcFol_put D0 Q rcH0 g s rcH0_ok rcH0_chk
  have f1 : rcFolE D0 1 2 Y = 0 := by rw [hF, if_neg (by decide), if_neg (by decide), if_neg (by simp)]
  have f2 : rcFolE D0 1 3 Y = 121 := by rw [hF, if_neg (by decide), if_pos (by decide)]
  have f3 : rcFolE D0 2 2 Y = 120 := by rw [hF, if_pos (by decide)]
  have f4 : rcFolE D1 1 2 Y = 122 := by
    rw [hF, if_neg (by decide), if_neg (by decide), if_pos]
    rw [hD0, hD1]
    exact of_decide_eq_false rcH_chain
  have g1' : rcFol D0 1 2 Y = R := by unfold rcFol; rw [if_pos f1, hYg.2]
  have g2 : rcFol D0 1 3 Y = rcZ := by unfold rcFol; rw [if_neg (by rw [f2]; decide)]
  have g3 : rcFol D0 2 2 Y = rcZ := by unfold rcFol; rw [if_neg (by rw [f3]; decide)]
  have g4 : rcFol D1 1 2 Y = rcZ := by unfold rcFol; rw [if_neg (by rw [f4]; decide)]
  have H1 := Lib.hid (fun A c W (h : RdB W A 3 c [97, 98, 99]) => recMake_any D0 hD0l 1 2 3 7 3 0 A 3 c [97, 98, 99] W (by omega) (by omega) (by omega) (by omega) (by omega) (by omega) h)
  have H2 := Lib.hid (fun A n c W (h : RdB W A n c R.b) => recPut_any R A n c W hRok h)
  have H3 := Lib.hid (fun A c W (h : RdB W A 256 c Y) => recGet_any A 256 c Y W h)
  have H4 := Lib.hid (fun A c W (h : RdB W A 256 c Y) => recFollow_any D0 hD0l 1 2 A 256 c Y W h)
  have H5 := Lib.hid (fun A c W (h : RdB W A 256 c Y) => recFollow_any D0 hD0l 1 3 A 256 c Y W h)
  have H6 := Lib.hid (fun A c W (h : RdB W A 256 c Y) => recFollow_any D0 hD0l 2 2 A 256 c Y W h)
  have H7 := Lib.hid (fun A c W (h : RdB W A 256 c Y) => recFollow_any D1 hD1l 1 2 A 256 c Y W h)
  have H8 := Lib.hid (fun A c W (h : RdB W A 256 c (List.replicate 256 0)) => recGet_any A 256 c _ W h)
  have H9 := Lib.hid (fun W => recMake_any D0 hD0l 1 2 3 0 9 0 none 0 0 [] W (by omega) (by omega) (by omega) (by omega) (by omega) (by omega) (RdB.nilB W))
  have HS := Lib.hid (fun A n c B m d W h1 h2 => refSame12_self R A n c B m d W hRok.2.2.2.2.2.2 h1 h2)
  rw [g0, hMk, hMe] at H1
  rw [hYE, ← hY] at H2
  rw [hYg.1, hYg.2] at H3
  rw [g0, f1, g1'] at H4
  rw [g0, f2, g2] at H5
  rw [g0, f3, g3] at H6
  rw [g1, f4, g4] at H7
  rw [rcZeros_get.1, rcZeros_get.2] at H8
  rw [g0, show rcMkR D0 ⟨1, 2, 3, 0, 9, 0, [], List.replicate 32 0⟩ = rcZ from rfl, show rcMkE ⟨1, 2, 3, 0, 9, 0, [], List.replicate 32 0⟩ = 2 from rfl] at H9
  have HD := Lib.hid hRok.2.2.2.2.2.2
  have HRB := Lib.hid hRb
  have HYL := Lib.hid hYl
  have HYT := Lib.hid hYt
  obtain ⟨rcZ', hZ'⟩ : ∃ z, z = rcZ := ⟨_, rfl⟩
  have HZD : Hid (rcZ'.D.length = 32) := by rw [hZ']; exact Lib.hid rcZD
  rw [← hZ'] at H5 H6 H7 H8 H9
  have kc := kconst w #[.int .u8 97, .int .u8 98, .int .u8 99] 3 3
  obtain ⟨W1, hW1⟩ : ∃ W, W = (w.alloc (.cells #[.int .u8 97, .int .u8 98, .int .u8 99] 5 (3, 4))).alloc (.cells #[.int .u64 7, .int .i64 3, .int .u64 0, .slice (some ⟨w.heap.size, 0, none⟩) 3 3] 65) := ⟨_, rfl⟩
  have b1 : Below w.heap.size w W1 := by rw [hW1]; exact ((below_self w).alloc (Nat.le_refl _) _).alloc (by simp) _
  have r1 : RdB W1 (some ⟨w.heap.size, 0, none⟩) 3 3 [97, 98, 99] := rdAt (show W1.heap[w.heap.size]? = some (.cells #[.int .u8 97, .int .u8 98, .int .u8 99] 5 (3, 4)) by rw [hW1]; exact rw_old _ (rw_at _ rfl)) _ 3 rfl rfl (by simp [maxLen])
  have qe := Lib.hid (show W1.heap[w.heap.size + 1]? = some (.cells #[.int .u64 7, .int .i64 3, .int .u64 0, .slice (some ⟨w.heap.size, 0, none⟩) 3 3] 65 (0, 0)) by rw [hW1]; exact rw_at _ (by simp))
  have HW1 := Lib.hid hW1
  clear hD0 hD0l hD1 hD1l g0 g1 hR hRok hRc hRb hMk hMe hY hYE hYl hYg hYt hF f1 f2 f3 f4 g1' g2 g3 g4 hW1 hZ'
  go_enter Try.func36, Try.ntmps36
  go_wp2_with fail
  rw [← HW1.out]
  refine (H1.out _ _ W1 r1).mono ?_
  rintro e w2 ⟨A2, n2, c2, rfl, ho2, _, hb2⟩
  go_wp2_with (first
    | (refine rc_fresh rfl _ _ rfl rfl rfl w2 rfl rfl HD.out ?_; intro X2 q2 x2)
    | (refine rc_load rfl _ rfl rfl q2.out HD.out ?_))
  have B := below_then (below_then b1 hb2) x2
  have qe := Lib.hid (rw_up (rw_up qe.out hb2) x2)
  have r2 := ho2.below x2
  refine (H2.out _ _ _ X2 r2).mono ?_
  rintro e w3 ⟨A3, n3, c3, rfl, ho3, hb3⟩
  have hn3 : n3 = 256 := by rw [← ho3.len, HYL.out]
  subst hn3
  have B := below_then B hb3
  have qe := Lib.hid (rw_up qe.out hb3)
  have q2 := Lib.hid (q2.out.up hb3)
  have r2 := r2.below hb3
  have r3 := ho3.rd
  clear ho3
  go_wp2_with fail
  refine (H3.out _ _ w3 r3).mono ?_
  rintro e w4 ⟨A4, n4, c4, rfl, r4, _, hb4⟩
  go_wp2_with (refine rc_fresh rfl _ _ rfl rfl rfl w4 rfl rfl HD.out ?_; intro X4 q4 x4)
  have B := below_then B hb4
  have qe := Lib.hid (rw_up qe.out hb4)
  have q2 := Lib.hid (q2.out.up hb4)
  have r2 := r2.below hb4
  have r3 := r3.below hb4
  have B := below_then B x4
  have qe := Lib.hid (rw_up qe.out x4)
  have q2 := Lib.hid (q2.out.up x4)
  have r2 := r2.below x4
  have r3 := r3.below x4
  have r4 := r4.below x4
  refine (H4.out _ _ X4 r3).mono ?_
  rintro e w5 ⟨A5, n5, c5, rfl, r5, _, hb5⟩
  go_wp2_with (refine rc_fresh rfl _ _ rfl rfl rfl w5 rfl rfl HD.out ?_; intro X5 q5 x5)
  have B := below_then B hb5
  have qe := Lib.hid (rw_up qe.out hb5)
  have q2 := Lib.hid (q2.out.up hb5)
  have r2 := r2.below hb5
  have r3 := r3.below hb5
  have q4 := Lib.hid (q4.out.up hb5)
  have r4 := r4.below hb5
  have B := below_then B x5
  have qe := Lib.hid (rw_up qe.out x5)
  have q2 := Lib.hid (q2.out.up x5)
  have r2 := r2.below x5
  have r3 := r3.below x5
  have q4 := Lib.hid (q4.out.up x5)
  have r4 := r4.below x5
  have r5 := r5.below x5
  refine (H5.out _ _ X5 r3).mono ?_
  rintro e w6 ⟨A6, n6, c6, rfl, r6, _, hb6⟩
  go_wp2_with (refine rc_fresh rfl _ _ rfl rfl rfl w6 rfl rfl HZD.out ?_; intro X6 q6 x6)
  have B := below_then B hb6
  have qe := Lib.hid (rw_up qe.out hb6)
  have q2 := Lib.hid (q2.out.up hb6)
  have r2 := r2.below hb6
  have r3 := r3.below hb6
  have q4 := Lib.hid (q4.out.up hb6)
  have r4 := r4.below hb6
  have q5 := Lib.hid (q5.out.up hb6)
  have r5 := r5.below hb6
  have B := below_then B x6
  have qe := Lib.hid (rw_up qe.out x6)
  have q2 := Lib.hid (q2.out.up x6)
  have r2 := r2.below x6
  have r3 := r3.below x6
  have q4 := Lib.hid (q4.out.up x6)
  have r4 := r4.below x6
  have q5 := Lib.hid (q5.out.up x6)
  have r5 := r5.below x6
  clear r6 q6
  refine (H6.out _ _ X6 r3).mono ?_
  rintro e w7 ⟨A7, n7, c7, rfl, r7, _, hb7⟩
  go_wp2_with (refine rc_fresh rfl _ _ rfl rfl rfl w7 rfl rfl HZD.out ?_; intro X7 q7 x7)
  have B := below_then B hb7
  have qe := Lib.hid (rw_up qe.out hb7)
  have q2 := Lib.hid (q2.out.up hb7)
  have r2 := r2.below hb7
  have r3 := r3.below hb7
  have q4 := Lib.hid (q4.out.up hb7)
  have r4 := r4.below hb7
  have q5 := Lib.hid (q5.out.up hb7)
  have r5 := r5.below hb7
  have B := below_then B x7
  have qe := Lib.hid (rw_up qe.out x7)
  have q2 := Lib.hid (q2.out.up x7)
  have r2 := r2.below x7
  have r3 := r3.below x7
  have q4 := Lib.hid (q4.out.up x7)
  have r4 := r4.below x7
  have q5 := Lib.hid (q5.out.up x7)
  have r5 := r5.below x7
  clear r7 q7
  refine (H7.out _ _ X7 r3).mono ?_
  rintro e w8 ⟨A8, n8, c8, rfl, r8, _, hb8⟩
  go_wp2_with (first
    | (refine rc_fresh rfl _ _ rfl rfl rfl w8 rfl rfl HZD.out ?_; intro X8 q8 x8)
    | ((with_reducible refine wp_makeB rfl _ _ rfl .i64 .i64 256 rfl rfl (by omega) ?_); intro m8 ho8 hm8))
  have B := below_then B hb8
  have qe := Lib.hid (rw_up qe.out hb8)
  have q2 := Lib.hid (q2.out.up hb8)
  have r2 := r2.below hb8
  have r3 := r3.below hb8
  have q4 := Lib.hid (q4.out.up hb8)
  have r4 := r4.below hb8
  have q5 := Lib.hid (q5.out.up hb8)
  have r5 := r5.below hb8
  have B := below_then B x8
  have qe := Lib.hid (rw_up qe.out x8)
  have q2 := Lib.hid (q2.out.up x8)
  have r2 := r2.below x8
  have r3 := r3.below x8
  have q4 := Lib.hid (q4.out.up x8)
  have r4 := r4.below x8
  have q5 := Lib.hid (q5.out.up x8)
  have r5 := r5.below x8
  clear r8 q8
  have B := below_then B hm8
  have qe := Lib.hid (rw_up qe.out hm8)
  have q2 := Lib.hid (q2.out.up hm8)
  have r2 := r2.below hm8
  have r3 := r3.below hm8
  have q4 := Lib.hid (q4.out.up hm8)
  have r4 := r4.below hm8
  have q5 := Lib.hid (q5.out.up hm8)
  have r5 := r5.below hm8
  refine (H8.out _ _ m8 ho8.rd).mono ?_
  rintro e w9 ⟨A9, n9, c9, rfl, r9, _, hb9⟩
  clear r9
  go_wp2_with (refine rc_fresh rfl _ _ rfl rfl rfl w9 rfl rfl HZD.out ?_; intro X9 q9 x9)
  have B := below_then B hb9
  have qe := Lib.hid (rw_up qe.out hb9)
  have q2 := Lib.hid (q2.out.up hb9)
  have r2 := r2.below hb9
  have r3 := r3.below hb9
  have q4 := Lib.hid (q4.out.up hb9)
  have r4 := r4.below hb9
  have q5 := Lib.hid (q5.out.up hb9)
  have r5 := r5.below hb9
  have B := below_then B x9
  have qe := Lib.hid (rw_up qe.out x9)
  have q2 := Lib.hid (q2.out.up x9)
  have r2 := r2.below x9
  have r3 := r3.below x9
  have q4 := Lib.hid (q4.out.up x9)
  have r4 := r4.below x9
  have q5 := Lib.hid (q5.out.up x9)
  have r5 := r5.below x9
  refine (H9.out X9).mono ?_
  rintro e wa ⟨Aa, na, ca, rfl, ra, _, hba⟩
  have B := below_then B hba
  have qe := Lib.hid (rw_up qe.out hba)
  have q2 := Lib.hid (q2.out.up hba)
  have r2 := r2.below hba
  have r3 := r3.below hba
  have q4 := Lib.hid (q4.out.up hba)
  have r4 := r4.below hba
  have q5 := Lib.hid (q5.out.up hba)
  have r5 := r5.below hba
  have e0 : ∀ i v, (#[.int .u64 7, .int .i64 3, .int .u64 0, .slice (some ⟨w.heap.size, 0, none⟩) 3 3] : Array Value)[i]? = some v → wa.cell? ⟨w.heap.size + 1, i, none⟩ = some v := fun i v h => (cell_of_row wa _ i _ _ _ qe.out).trans h
  clear ra
  go_wp2_with (refine rc_fresh rfl _ _ rfl rfl rfl wa rfl rfl HZD.out ?_; intro Xa qa xa; have y0 := (cell_of_row Xa (w.heap.size + 1) 0 _ _ _ (rw_up qe.out xa)).trans (show (#[.int .u64 7, .int .i64 3, .int .u64 0, .slice (some ⟨w.heap.size, 0, none⟩) 3 3] : Array Value)[0]? = some (.int .u64 7) from rfl); have y1 := (cell_of_row Xa (w.heap.size + 1) 1 _ _ _ (rw_up qe.out xa)).trans (show (#[.int .u64 7, .int .i64 3, .int .u64 0, .slice (some ⟨w.heap.size, 0, none⟩) 3 3] : Array Value)[1]? = some (.int .i64 3) from rfl); have y2 := (cell_of_row Xa (w.heap.size + 1) 2 _ _ _ (rw_up qe.out xa)).trans (show (#[.int .u64 7, .int .i64 3, .int .u64 0, .slice (some ⟨w.heap.size, 0, none⟩) 3 3] : Array Value)[2]? = some (.int .u64 0) from rfl); have y3 := (cell_of_row Xa (w.heap.size + 1) 3 _ _ _ (rw_up qe.out xa)).trans (show (#[.int .u64 7, .int .i64 3, .int .u64 0, .slice (some ⟨w.heap.size, 0, none⟩) 3 3] : Array Value)[3]? = some (.slice (some ⟨w.heap.size, 0, none⟩) 3 3) from rfl))
  have B := below_then B xa
  have qe := Lib.hid (rw_up qe.out xa)
  have q2 := Lib.hid (q2.out.up xa)
  have r2 := r2.below xa
  have r3 := r3.below xa
  have q4 := Lib.hid (q4.out.up xa)
  have r4 := r4.below xa
  have q5 := Lib.hid (q5.out.up xa)
  have r5 := r5.below xa
  refine (recCheck_any 7 3 0 _ 3 _ Xa (by omega)).mono ?_
  rintro e wc ⟨rfl, hbc⟩
  rw [show rcChk 3 0 3 = true from rfl]
  clear y0 y1 y2 y3 e0
  have B := below_then B hbc
  have qe := Lib.hid (rw_up qe.out hbc)
  have q2 := Lib.hid (q2.out.up hbc)
  have r2 := r2.below hbc
  have r3 := r3.below hbc
  have q4 := Lib.hid (q4.out.up hbc)
  have r4 := r4.below hbc
  have q5 := Lib.hid (q5.out.up hbc)
  have r5 := r5.below hbc
  have hc3 := r3.2.2.1
  have ci4 : (4 : Int) ≤ (c3 : Int) := by omega
  have hstr := (r3.take 4 (by omega)).str
  rw [HYT.out, show strOf [80, 72, 82, 67] = { data := #[80, 72, 82, 67] } from rfl] at hstr
  go_wp2_with (first
    | (refine wpList_unguard (by rfl) (rc_load rfl _ rfl rfl q2.out HD.out ?_))
    | (refine wpList_unguard (by rfl) (rc_load rfl _ rfl rfl q4.out HD.out ?_)))
  refine (HS.out _ _ _ _ _ _ wc r2 r4).mono ?_
  rintro e wd ⟨rfl, hbd⟩
  clear hstr
  have B := below_then B hbd
  have qe := Lib.hid (rw_up qe.out hbd)
  have q2 := Lib.hid (q2.out.up hbd)
  have r2 := r2.below hbd
  have r3 := r3.below hbd
  have q4 := Lib.hid (q4.out.up hbd)
  have r4 := r4.below hbd
  have q5 := Lib.hid (q5.out.up hbd)
  have r5 := r5.below hbd
  go_wp2_with (first
    | (refine wpList_unguard (by rfl) (rc_load rfl _ rfl rfl q2.out HD.out ?_))
    | (refine wpList_unguard (by rfl) (rc_load rfl _ rfl rfl q5.out HD.out ?_)))
  refine (HS.out _ _ _ _ _ _ wd r2 r5).mono ?_
  rintro e we ⟨rfl, hbe⟩
  go_wp2_with fail
  go_ret
  exact ⟨rfl, below_then B hbe⟩
end Go.Proofs.Ytnfepikgbdeomaa

namespace Go.Proofs.Ytnfepikgbdeomaa
open Go.RowKit
set_option linter.unusedVariables false
set_option linter.unusedSimpArgs false
set_option maxRecDepth 20000
set_option maxHeartbeats 8000000

theorem rowCell12 {w : World} {g : Nat} {vs : List Value} (h : Rd w (some ⟨g, 0, none⟩) vs) (k : Nat) (v : Value) (hk : vs[k]? = some v) : w.cell? ⟨g, k, none⟩ = some v := by
  obtain ⟨hl, hv⟩ := List.getElem?_eq_some_iff.1 hk
  obtain ⟨b, o, he, _, hc⟩ := h.at_ k hl
  injection he with he
  injection he with e1 e2
  subst e1 e2
  rw [Nat.zero_add] at hc
  rw [hc, hv]
theorem mid_ev {w : World} {h : Nat} {r : Rc} {A : Option Addr} {n c : Nat} (q : RcAt w h r A n c) : (loadVar 65 ⟨h, 3, none⟩).run Try.prog w = .ok (.agg #[.int .u64 (r.t : Int), .int .i64 r.k, .int .u64 (r.c : Int), .slice A n c]) w :=
  run_loadVar_mid w h 3 65 [.int .u64 (r.t : Int), .int .i64 r.k, .int .u64 (r.c : Int), .slice A n c] _ (fun j v hj => by
    match j, hj with
    | 0, hj => injection hj with hj; subst hj; exact q.c3
    | 1, hj => injection hj with hj; subst hj; exact q.c4
    | 2, hj => injection hj with hj; subst hj; exact q.c5
    | 3, hj => injection hj with hj; subst hj; exact q.c6) Try.underlying65 rfl (by kernel_rfl)
theorem rcMkR_ok (P : List UInt8) (r : Rc) (h : r.ok) : (rcMkR P r).ok := by
  unfold rcMkR; split
  · exact rcMk_ok P r h
  · exact rcZ_ok
theorem rcFol_ok (P : List UInt8) (g s : Nat) (b : List UInt8) : (rcFol P g s b).ok := by
  unfold rcFol; split
  · exact (rcGet_okk b).1
  · exact rcZ_ok
def Tl12 (W : World) (v : Value) (wr : World) : Prop := ∃ k : Nat, k ≤ 3 ∧ v = .int .i64 k ∧ Below W.heap.size W wr
theorem recTells_long (r : Rc) (A : Option Addr) (n c : Nat) (P : List UInt8) (g s : Nat) (B : Option Addr) (m d : Nat) (ys : List UInt8) (w : World) (hok : r.ok) (hr : RdB w A n c r.b) (hP : P.length = 32) (hg : g < 4294967296) (hs : s < 4294967296) (hy : RdB w B m d ys) (h4 : 400 < n) :
    Calls Try.prog 7 #[.agg (rcV r A n c).toArray, .agg (dgA P), .int .u32 (g : Int), .int .u32 (s : Int), .slice B m d] w (RetV w (.bool true)) := by
  have hn63 := hr.n63
  have hm63 := hy.n63
  have hL := hr.2.1
  have hM := hy.2.1
  obtain ⟨W0, hW0⟩ : ∃ W, W = (w.alloc (.cells (rcV r A n c).toArray 69)).alloc (.cells (dgA P) 67) := ⟨_, rfl⟩
  have b0 : Below w.heap.size w W0 := by rw [hW0]; exact ((below_self w).alloc (Nat.le_refl _) _).alloc (by simp) _
  have qr : Hid (RcAt W0 w.heap.size r A n c) := by rw [hW0]; exact Lib.hid (rw_old _ (rw_at _ rfl))
  have qP : Hid (W0.heap[w.heap.size + 1]? = some (.cells (dgA P) 67 (0, 0))) := by rw [hW0]; exact Lib.hid (rw_at _ (by simp))
  have a6 := qr.out.c6
  obtain ⟨RV, hRV⟩ : ∃ z, z = (rcV r A n c).toArray := ⟨_, rfl⟩
  obtain ⟨DP, hDP⟩ : ∃ z, z = dgA P := ⟨_, rfl⟩
  rw [← hRV, ← hDP] at hW0 ⊢
  rw [hW0] at a6
  have HW0 := Lib.hid hW0
  have d4 : decide ((400 : Int) < (n : Int)) = true := decide_eq_true (by omega)
  clear hW0 hRV hDP
  go_enter Try.func7, Try.ntmps7
  go_wp2_with fail
  rw [← HW0.out]
  refine (heads12 _).mono ?_
  rintro e w9 ⟨rfl, hb9⟩
  go_wp2
  go_ret
  exact ⟨rfl, below_then b0 hb9⟩
theorem recTells_wide (r : Rc) (A : Option Addr) (n c : Nat) (P : List UInt8) (g s : Nat) (B : Option Addr) (m d : Nat) (ys : List UInt8) (w : World) (hok : r.ok) (hr : RdB w A n c r.b) (hP : P.length = 32) (hg : g < 4294967296) (hs : s < 4294967296) (hy : RdB w B m d ys) (h4 : n ≤ 400) (h5 : 300 < m) :
    Calls Try.prog 7 #[.agg (rcV r A n c).toArray, .agg (dgA P), .int .u32 (g : Int), .int .u32 (s : Int), .slice B m d] w (RetV w (.bool true)) := by
  have hn63 := hr.n63
  have hm63 := hy.n63
  have hL := hr.2.1
  have hM := hy.2.1
  obtain ⟨W0, hW0⟩ : ∃ W, W = (w.alloc (.cells (rcV r A n c).toArray 69)).alloc (.cells (dgA P) 67) := ⟨_, rfl⟩
  have b0 : Below w.heap.size w W0 := by rw [hW0]; exact ((below_self w).alloc (Nat.le_refl _) _).alloc (by simp) _
  have qr : Hid (RcAt W0 w.heap.size r A n c) := by rw [hW0]; exact Lib.hid (rw_old _ (rw_at _ rfl))
  have qP : Hid (W0.heap[w.heap.size + 1]? = some (.cells (dgA P) 67 (0, 0))) := by rw [hW0]; exact Lib.hid (rw_at _ (by simp))
  have a6 := qr.out.c6
  obtain ⟨RV, hRV⟩ : ∃ z, z = (rcV r A n c).toArray := ⟨_, rfl⟩
  obtain ⟨DP, hDP⟩ : ∃ z, z = dgA P := ⟨_, rfl⟩
  rw [← hRV, ← hDP] at hW0 ⊢
  rw [hW0] at a6
  have HW0 := Lib.hid hW0
  have d4 : decide ((400 : Int) < (n : Int)) = false := decide_eq_false (by omega)
  have d5 : decide ((300 : Int) < (m : Int)) = true := decide_eq_true (by omega)
  clear hW0 hRV hDP
  go_enter Try.func7, Try.ntmps7
  go_wp2_with fail
  rw [← HW0.out]
  refine (heads12 _).mono ?_
  rintro e w9 ⟨rfl, hb9⟩
  go_wp2
  go_ret
  exact ⟨rfl, below_then b0 hb9⟩
theorem recTells_main (r : Rc) (A : Option Addr) (n c : Nat) (P : List UInt8) (g s : Nat) (B : Option Addr) (m d : Nat) (ys : List UInt8) (w : World) (hok : r.ok) (hr : RdB w A n c r.b) (hP : P.length = 32) (hg : g < 4294967296) (hs : s < 4294967296) (hy : RdB w B m d ys) (h4 : n ≤ 400) (h5 : m ≤ 300) :
    Calls Try.prog 7 #[.agg (rcV r A n c).toArray, .agg (dgA P), .int .u32 (g : Int), .int .u32 (s : Int), .slice B m d] w (RetV w (.bool true)) := by
  have hn63 := hr.n63
  have hm63 := hy.n63
  have hL := hr.2.1
  have hM := hy.2.1
  obtain ⟨W0, hW0⟩ : ∃ W, W = (w.alloc (.cells (rcV r A n c).toArray 69)).alloc (.cells (dgA P) 67) := ⟨_, rfl⟩
  have b0 : Below w.heap.size w W0 := by rw [hW0]; exact ((below_self w).alloc (Nat.le_refl _) _).alloc (by simp) _
  have qr : Hid (RcAt W0 w.heap.size r A n c) := by rw [hW0]; exact Lib.hid (rw_old _ (rw_at _ rfl))
  have qP : Hid (W0.heap[w.heap.size + 1]? = some (.cells (dgA P) 67 (0, 0))) := by rw [hW0]; exact Lib.hid (rw_at _ (by simp))
  have a6 := qr.out.c6
  obtain ⟨RV, hRV⟩ : ∃ z, z = (rcV r A n c).toArray := ⟨_, rfl⟩
  obtain ⟨DP, hDP⟩ : ∃ z, z = dgA P := ⟨_, rfl⟩
  rw [← hRV, ← hDP] at hW0 ⊢
  rw [hW0] at a6
  have HW0 := Lib.hid hW0
  have d4 : decide ((400 : Int) < (n : Int)) = false := decide_eq_false (by omega)
  have d5 : decide ((300 : Int) < (m : Int)) = false := decide_eq_false (by omega)
  obtain ⟨hg0, hs0, hm0, ht0, hk0, hc0, hD0⟩ := id hok
  obtain ⟨r1, hr1⟩ : ∃ r1, r1 = (⟨g, s, r.m, r.t, r.k, r.c, r.b, List.replicate 32 0⟩ : Rc) := ⟨_, rfl⟩
  have hok1 : r1.ok := by rw [hr1]; exact ⟨hg, hs, hm0, ht0, hk0, hc0, by simp⟩
  obtain ⟨R, hR⟩ : ∃ R, rcMkR P r1 = R := ⟨_, rfl⟩
  obtain ⟨RE, hRE⟩ : ∃ R, rcMkE r1 = R := ⟨_, rfl⟩
  have hRok : R.ok := by rw [← hR]; exact rcMkR_ok _ _ hok1
  have HRD := Lib.hid hRok.2.2.2.2.2.2
  obtain ⟨Y, hY⟩ : ∃ Y, rcPutL r = Y := ⟨_, rfl⟩
  obtain ⟨PE, hPE⟩ : ∃ Y, rcPutE r = Y := ⟨_, rfl⟩
  obtain ⟨T, hT⟩ : ∃ Y, rcChk r.k r.c n = Y := ⟨_, rfl⟩
  have H1 := Lib.hid (fun W (h : RdB W A n c r.b) => recPut_any r A n c W hok h)
  have H2 := Lib.hid (fun W (h : RdB W A n c r.b) => refPut12_any r A n c W hok h)
  rw [hY, hPE] at H1 H2
  have H3 := Lib.hid (fun W (h : RdB W A n c r.b) => recMake_any P hP g s r.m r.t r.k r.c A n c r.b W hg hs hm0 ht0 hk0 hc0 h)
  have H4 := Lib.hid (fun W (h : RdB W A n c r.b) => refMake12_any P hP g s r.m r.t r.k r.c A n c r.b W hg hs hm0 ht0 hk0 hc0 h)
  rw [← hr1, hR, hRE] at H3 H4
  have H5 := Lib.hid (fun W => recCheck_any r.t r.k r.c A n c W (by omega))
  have H6 := Lib.hid (fun W => refCheck12_any r.t r.k r.c A n c W (by omega))
  rw [hT] at H5 H6
  have H7 := Lib.hid (fun A n c B m d W (h1 : RdB W A n c R.b) (h2 : RdB W B m d R.b) => refSame12_self R A n c B m d W HRD.out h1 h2)
  obtain ⟨C, hC⟩ : ∃ C, C = crcClosed ((ys ++ List.replicate 252 0).take 252) := ⟨_, rfl⟩
  have H8 := Lib.hid (fun A c W (h : RdB W A 252 c ((ys ++ List.replicate 252 0).take 252)) => refClosed_any A 252 c _ W h (by omega))
  rw [← hC] at H8
  have HP := Lib.hid hP
  have HD := Lib.hid hD0
  have t1 : (T != T) = false := by simp
  have t2 : (PE != PE) = false := by simp
  have t3 : (RE != RE) = false := by simp
  have m252 : (252 : Int) ≤ ((m : Int) + 252) := by omega
  clear hW0 hRV hDP hr1 hok1 hR hRE hRok hY hPE hT hC hg0 hs0 hm0 ht0 hk0 hc0 hD0 hok
  go_enter Try.func7, Try.ntmps7
  go_wp2_with (rw [← HW0.out]; refine rc_load rfl _ rfl rfl qr.out HD.out ?_)
  refine (H1.out W0 (hr.below b0)).mono ?_
  rintro e w1 ⟨A1, n1, c1, rfl, ho1, hb1⟩
  have q1 := Lib.hid (qr.out.up hb1)
  have qP1 := Lib.hid (rw_up qP.out hb1)
  have B1 := below_then b0 hb1
  have r1 := ho1.rd
  clear ho1 a6
  go_wp2_with (refine rc_load rfl _ rfl rfl q1.out HD.out ?_)
  refine (H2.out w1 (hr.below B1)).mono ?_
  rintro e w2 ⟨A2, n2, c2, rfl, ho2, hb2⟩
  have q2 := Lib.hid (q1.out.up hb2)
  have qP2 := Lib.hid (rw_up qP1.out hb2)
  have B2 := below_then B1 hb2
  have r1 := r1.below hb2
  have r2 := ho2.rd
  clear ho2
  go_wp2_with (refine dig_load rfl _ rfl (w.heap.size + 1) rfl P 67 qP2.out HP.out ?_; have e0 := q2.out.c3; have e1 := q2.out.c4; have e2 := q2.out.c5; have e3 := q2.out.c6; have em := q2.out.c2)
  refine (H3.out w2 (hr.below B2)).mono ?_
  rintro e w3 ⟨A3, n3, c3, rfl, r3, _, hb3⟩
  clear e0 e1 e2 e3 em
  go_wp2_with (first | (refine rc_fresh rfl _ _ rfl rfl rfl w3 rfl rfl HRD.out ?_; intro X3 q3 x3; have qP3 := Lib.hid (rw_up (rw_up qP2.out hb3) x3); have q3r := Lib.hid ((q2.out.up hb3).up x3)) | (refine dig_load rfl _ rfl (w.heap.size + 1) rfl P 67 qP3.out HP.out ?_; have e0 := q3r.out.c3; have e1 := q3r.out.c4; have e2 := q3r.out.c5; have e3 := q3r.out.c6; have em := q3r.out.c2))
  have B3 := below_then (below_then B2 hb3) x3
  have r3 := r3.below x3
  have r2 := (r2.below hb3).below x3
  have r1 := (r1.below hb3).below x3
  refine (H4.out X3 (hr.below B3)).mono ?_
  rintro e w4 ⟨A4, n4, c4, rfl, r4, hb4⟩
  clear e0 e1 e2 e3 em
  go_wp2_with (refine rc_fresh rfl _ _ rfl rfl rfl w4 rfl rfl HRD.out ?_; intro X4 q4 x4)
  have B4 := below_then (below_then B3 hb4) x4
  have r4 := r4.below x4
  have r3 := (r3.below hb4).below x4
  have r2 := (r2.below hb4).below x4
  have r1 := (r1.below hb4).below x4
  have q3a := Lib.hid ((q3.out.up hb4).up x4)
  have q4r := Lib.hid ((q3r.out.up hb4).up x4)
  have qP4 := Lib.hid (rw_up (rw_up qP3.out hb4) x4)
  refine wp_region_seg (S := fun w' => Below X4.heap.size X4 w') 0 #[true, true, true, true, true, true, true, true, true, true, true, true, true, true, true, true, true, true, true, true, true, true, true, true, true, true, true, true, true] [(0, true), (1, true), (3, true), (4, true), (2, false), (5, false), (6, true), (7, true), (8, true), (9, true), (10, false), (11, true), (12, true), (13, true), (14, true), (15, true), (16, true), (17, true), (18, true), (19, true), (20, true), (21, false), (22, true), (23, true), (24, true), (25, true), (26, true), (27, true), (28, true)] (by kernel_rfl) (by kernel_rfl) (fun _ _ d _ _ h => by first | (cases d <;> exact h) | cases h.1) ((Below.refl X4.heap.size X4).drew) ?_
  have HB := (Below.refl X4.heap.size X4).drew
  iterate 1 (refine seg_take (v := ?_) rfl (Or.inl ⟨by rfl, ?_⟩) ?_; rotate_left; (focus (intro w' hw'; go_simp <;> with_reducible rfl)); try simp only [Act.put, List.setIfInBounds_toArray, List.set_cons_zero, List.set_cons_succ])
  refine seg_take (v := .agg #[.int .u64 (r.t : Int), .int .i64 r.k, .int .u64 (r.c : Int), .slice A n c]) rfl (Or.inl ⟨by rfl, fun w' hw' => ?_⟩) ?_
  focus (exact rex_load rfl rfl (mid_ev (q4r.out.up hw')))
  try simp only [Act.put, List.setIfInBounds_toArray, List.set_cons_zero, List.set_cons_succ]
  iterate 1 (refine seg_take (v := ?_) rfl (Or.inl ⟨by rfl, ?_⟩) ?_; rotate_left; (focus (intro w' hw'; go_simp <;> with_reducible rfl)); try simp only [Act.put, List.setIfInBounds_toArray, List.set_cons_zero, List.set_cons_succ])
  refine seg_take (v := .agg #[.int .u64 (r.t : Int), .int .i64 r.k, .int .u64 (r.c : Int), .slice A n c]) rfl (Or.inl ⟨by rfl, fun w' hw' => ?_⟩) ?_
  focus (exact rex_load rfl rfl (mid_ev (q4r.out.up hw')))
  try simp only [Act.put, List.setIfInBounds_toArray, List.set_cons_zero, List.set_cons_succ]
  refine seg_run rfl (fun K hK => ?_)
  go_simp
  refine (H5.out _).mono ?_
  rintro e_ u1 ⟨rfl, hu1⟩
  have HB := below_then HB hu1
  refine hK.out _ _ (HB) ?_
  clear hK
  try simp only [Act.put, List.setIfInBounds_toArray, List.set_cons_zero, List.set_cons_succ]
  refine seg_run rfl (fun K hK => ?_)
  go_simp
  refine (H6.out _).mono ?_
  rintro e_ u2 ⟨rfl, hu2⟩
  have HB := below_then HB hu2
  refine hK.out _ _ (HB) ?_
  clear hK
  try simp only [Act.put, List.setIfInBounds_toArray, List.set_cons_zero, List.set_cons_succ]
  iterate 2 (refine seg_take (v := ?_) rfl (Or.inl ⟨by rfl, ?_⟩) ?_; rotate_left; (focus (intro w' hw'; go_simp <;> with_reducible rfl)); try simp only [Act.put, List.setIfInBounds_toArray, List.set_cons_zero, List.set_cons_succ])
  iterate 2 ((first | refine seg_take (v := undef) rfl (Or.inr ⟨by rfl, rfl⟩) ?_ | (refine seg_take (v := ?_) rfl (Or.inl ⟨by rfl, ?_⟩) ?_; rotate_left; (focus (intro w' hw'; go_simp <;> with_reducible rfl)))); try simp only [Act.put, List.setIfInBounds_toArray, List.set_cons_zero, List.set_cons_succ])
  refine seg_run rfl (fun K hK => ?_)
  go_simp
  refine (bytes_any A1 A2 n1 c1 n2 c2 Y Y _ (r1.below HB) (r2.below HB)).mono ?_
  rintro e_ u3 ⟨rfl, rfl⟩
  rw [decide_eq_true rfl]
  refine hK.out _ _ (HB) ?_
  clear hK
  try simp only [Act.put, List.setIfInBounds_toArray, List.set_cons_zero, List.set_cons_succ]
  iterate 1 ((first | refine seg_take (v := undef) rfl (Or.inr ⟨by rfl, rfl⟩) ?_ | (refine seg_take (v := ?_) rfl (Or.inl ⟨by rfl, ?_⟩) ?_; rotate_left; (focus (intro w' hw'; go_simp <;> with_reducible rfl)))); try simp only [Act.put, List.setIfInBounds_toArray, List.set_cons_zero, List.set_cons_succ])
  iterate 2 (refine seg_take (v := ?_) rfl (Or.inl ⟨by rfl, ?_⟩) ?_; rotate_left; (focus (intro w' hw'; go_simp <;> with_reducible rfl)); try simp only [Act.put, List.setIfInBounds_toArray, List.set_cons_zero, List.set_cons_succ])
  iterate 3 ((first | refine seg_take (v := undef) rfl (Or.inr ⟨by rfl, rfl⟩) ?_ | (refine seg_take (v := ?_) rfl (Or.inl ⟨by rfl, ?_⟩) ?_; rotate_left; (focus (intro w' hw'; go_simp <;> with_reducible rfl)))); try simp only [Act.put, List.setIfInBounds_toArray, List.set_cons_zero, List.set_cons_succ])
  iterate 2 (refine seg_take (v := ?_) rfl (Or.inl ⟨by rfl, ?_⟩) ?_; rotate_left; (focus (intro w' hw'; go_simp <;> with_reducible rfl)); try simp only [Act.put, List.setIfInBounds_toArray, List.set_cons_zero, List.set_cons_succ])
  refine seg_take (v := .agg (rcV R A3 n3 c3).toArray) rfl (Or.inl ⟨by rfl, fun w' hw' => ?_⟩) ?_
  focus (exact rex_load rfl rfl (load_rc (q3a.out.up hw') HRD.out))
  try simp only [Act.put, List.setIfInBounds_toArray, List.set_cons_zero, List.set_cons_succ]
  refine seg_take (v := .agg (rcV R A4 n4 c4).toArray) rfl (Or.inl ⟨by rfl, fun w' hw' => ?_⟩) ?_
  focus (exact rex_load rfl rfl (load_rc (q4.out.up hw') HRD.out))
  try simp only [Act.put, List.setIfInBounds_toArray, List.set_cons_zero, List.set_cons_succ]
  refine seg_run rfl (fun K hK => ?_)
  go_simp
  refine (H7.out _ _ _ _ _ _ _ (r3.below HB) (r4.below HB)).mono ?_
  rintro e_ u4 ⟨rfl, hu4⟩
  have HB := below_then HB hu4
  refine hK.out _ _ (HB) ?_
  clear hK
  try simp only [Act.put, List.setIfInBounds_toArray, List.set_cons_zero, List.set_cons_succ]
  iterate 1 ((first | refine seg_take (v := undef) rfl (Or.inr ⟨by rfl, rfl⟩) ?_ | (refine seg_take (v := ?_) rfl (Or.inl ⟨by rfl, ?_⟩) ?_; rotate_left; (focus (intro w' hw'; go_simp <;> with_reducible rfl)))); try simp only [Act.put, List.setIfInBounds_toArray, List.set_cons_zero, List.set_cons_succ])
  iterate 2 (refine seg_take (v := ?_) rfl (Or.inl ⟨by rfl, ?_⟩) ?_; rotate_left; (focus (intro w' hw'; go_simp <;> with_reducible rfl)); try simp only [Act.put, List.setIfInBounds_toArray, List.set_cons_zero, List.set_cons_succ])
  iterate 3 ((first | refine seg_take (v := undef) rfl (Or.inr ⟨by rfl, rfl⟩) ?_ | (refine seg_take (v := ?_) rfl (Or.inl ⟨by rfl, ?_⟩) ?_; rotate_left; (focus (intro w' hw'; go_simp <;> with_reducible rfl)))); try simp only [Act.put, List.setIfInBounds_toArray, List.set_cons_zero, List.set_cons_succ])
  iterate 1 (refine seg_take (v := ?_) rfl (Or.inl ⟨by rfl, ?_⟩) ?_; rotate_left; (focus (intro w' hw'; go_simp <;> with_reducible rfl)); try simp only [Act.put, List.setIfInBounds_toArray, List.set_cons_zero, List.set_cons_succ])
  refine seg_done (fun _ => ?_)
  refine wpAnyH_done (by kernel_rfl) ?_ _
  have B5 := below_then B4 HB
  have hy8 := hy.below B5
  have r1 := r1.below HB
  have qP5 := Lib.hid (rw_up qP4.out HB)
  clear HB r2 r3 r4
  go_wp2_with (first
    | (at_builtin; refine wp_appZ rfl _ _ rfl hbA (Nat.le_refl _) hbA.size AA m cA ys rfl hoA 252 .i64 252 rfl (by omega) (by omega) (m + 252) (ys ++ List.replicate 252 0) rfl rfl ?_; intro AB cB wB hoB hbB hgB; have h1 := hoB.rd; have h2 := h1.2.2.1; have h3 := h1.c63)
    | (at_builtin; refine wp_appB rfl _ _ rfl ((below_self u4).alloc (Nat.le_refl _) _) (Nat.le_refl _) (by simp) (some ⟨u4.heap.size, 0, none⟩) 0 0 [] rfl (own0 u4) B m d ys rfl (hy8.alloc _) (by omega) m ys (by omega) (by simp) ?_; intro AA cA wA hoA hbA hgA))
  refine (H8.out AB cB wB (h1.take 252 (by omega))).mono ?_
  rintro e w10 ⟨A10, n10, c10, rfl, ho10, hb10⟩
  have b10 := below_then hbB hb10
  have B10 := below_then B5 b10
  have r10 := ho10.rd
  have r1 := r1.below b10
  have qP6 := Lib.hid (rw_up qP5.out b10)
  clear hoA hoB ho10 h1 h2 h3 hbA hbB hgA hgB hb10
  go_wp2_with fail
  obtain ⟨X, hX⟩ : ∃ X, X = w10.alloc (.cells #[.slice B m d, .slice A1 n1 c1, .slice A10 n10 c10] 26) := ⟨_, rfl⟩
  rw [← hX]
  have bX : Below w10.heap.size w10 X := by rw [hX]; exact (below_self w10).alloc (Nat.le_refl _) _
  have BX := below_then B10 bX
  have rX : Rd X (some ⟨w10.heap.size, 0, none⟩) [.slice B m d, .slice A1 n1 c1, .slice A10 n10 c10] := by rw [hX]; exact Rd.new w10 #[.slice B m d, .slice A1 n1 c1, .slice A10 n10 c10] _
  have pX : Parts X [.slice B m d, .slice A1 n1 c1, .slice A10 n10 c10] [ys, Y, C] := ⟨⟨_, _, _, rfl, hy.below BX⟩, ⟨_, _, _, rfl, r1.below bX⟩, ⟨_, _, _, rfl, r10.below bX⟩, trivial⟩
  have qPX := Lib.hid (rw_up qP6.out bX)
  clear hX
  have hv5 : ([Value.slice B m d, .slice A1 n1 c1, .slice A10 n10 c10]).length = 3 := rfl
  have hy5 : ([ys, Y, C] : List (List UInt8)).length = 3 := rfl
  generalize [Value.slice B m d, .slice A1 n1 c1, .slice A10 n10 c10] = vs at rX pX hv5
  generalize [ys, Y, C] = yss at pX hy5
  clear r1 r10 hy8 b10
  have xX : w10.heap.size < X.heap.size := by
    rcases rX with h | ⟨b, o, he, hb, _⟩
    · rw [h] at hv5; simp at hv5
    · injection he with he; injection he with e _; omega
  have HV5 := Lib.hid hv5
  have HY5 := Lib.hid hy5
  clear hv5 hy5
  go_loopw [20] (Tl12 X) (fun v _ => 3 - (intOf v).toNat)
  case atStart => exact ⟨0, by omega, rfl, Below.refl _ _⟩
  case round =>
  obtain ⟨i, hi, rfl, HI⟩ := hrel
  obtain ⟨wo, rfl⟩ : ∃ wo : World, wo = wr := ⟨_, rfl⟩
  by_cases hlt : i < 3
  · have hiv : i < vs.length := by rw [HV5.out]; exact hlt
    have hiy : i < yss.length := by rw [HY5.out]; exact hlt
    obtain ⟨Ai, ni, ci, hvi, ri⟩ := (pX.below HI).at_ i hiv hiy
    have cXi := rowCell12 rX i _ (by rw [List.getElem?_eq_getElem hiv, hvi])
    obtain ⟨Yi, hYi⟩ : ∃ Y, yss[i] = Y := ⟨_, rfl⟩
    rw [hYi] at ri
    have CXI := Lib.hid cXi
    have ci0 := (HI.cell (p := ⟨w10.heap.size, i, none⟩) xX).trans CXI.out
    clear hvi hYi hiv hiy cXi
    obtain ⟨x, hx⟩ : ∃ x, rcGet Yi = x := ⟨_, rfl⟩
    obtain ⟨E8, hE8⟩ : ∃ x, rcGetE Yi = x := ⟨_, rfl⟩
    obtain ⟨xF, hxF⟩ : ∃ x, rcFol P g s Yi = x := ⟨_, rfl⟩
    obtain ⟨EF, hEF⟩ : ∃ x, rcFolE P g s Yi = x := ⟨_, rfl⟩
    have G1 := Lib.hid (fun W (h : RdB W Ai ni ci Yi) => recGet_any Ai ni ci Yi W h)
    have G2 := Lib.hid (fun W (h : RdB W Ai ni ci Yi) => refGet12_any Ai ni ci Yi W h)
    rw [hx, hE8] at G1 G2
    have G3 := Lib.hid (fun W (h : RdB W Ai ni ci Yi) => recFollow_any P HP.out g s Ai ni ci Yi W h)
    have G4 := Lib.hid (fun W (h : RdB W Ai ni ci Yi) => refFollow12_any refGet12_any P HP.out g s Ai ni ci Yi W h)
    rw [hxF, hEF] at G3 G4
    have HXD := Lib.hid (show x.D.length = 32 by rw [← hx]; exact (rcGet_okk Yi).1.2.2.2.2.2.2)
    have HFD := Lib.hid (show xF.D.length = 32 by rw [← hxF]; exact (rcFol_ok P g s Yi).2.2.2.2.2.2)
    have S1 := Lib.hid (fun A n c B m d W (h1 : RdB W A n c x.b) (h2 : RdB W B m d x.b) => refSame12_self x A n c B m d W HXD.out h1 h2)
    have S2 := Lib.hid (fun A n c B m d W (h1 : RdB W A n c xF.b) (h2 : RdB W B m d xF.b) => refSame12_self xF A n c B m d W HFD.out h1 h2)
    clear hx hE8 hxF hEF
    have l3 : (i : Int) < 3 := by omega
    have e8 : (E8 != E8) = false := by simp
    have eF : (EF != EF) = false := by simp
    go_wp2_with fail
    refine (G1.out wo ri).mono ?_
    rintro e u1 ⟨Aa, na, ca, rfl, ra, _, hu1⟩
    clear ci0
    go_wp2_with (refine rc_fresh rfl _ _ rfl rfl rfl u1 rfl rfl HXD.out ?_; intro V1 qa xa; have BI1 := below_then HI (below_then hu1 xa); have ci1 := (BI1.cell (p := ⟨w10.heap.size, i, none⟩) xX).trans CXI.out)
    have ra := ra.below xa
    refine (G2.out V1 (ri.below (below_then hu1 xa))).mono ?_
    rintro e u2 ⟨Ab, nb, cb, rfl, rb, _, hu2⟩
    clear ci1
    go_wp2_with (refine rc_fresh rfl _ _ rfl rfl rfl u2 rfl rfl HXD.out ?_; intro V2 qb xb)
    have rb := rb.below xb
    have ra := (ra.below hu2).below xb
    have qa := Lib.hid ((qa.out.up hu2).up xb)
    have BI2 := below_then BI1 (below_then hu2 xb)
    have ri := ri.below (below_then (below_then hu1 xa) (below_then hu2 xb))
    have j1 := (BI2.cell (p := ⟨w10.heap.size, i, none⟩) xX).trans CXI.out
    have xV2 : w10.heap.size < V2.heap.size := Nat.lt_of_lt_of_le xX BI2.size
    have qPv := Lib.hid (rw_up qPX.out BI2)
    clear hu1 hu2 xa xb BI1
    refine wp_region_seg (S := fun w' => Below V2.heap.size V2 w') 7 #[true, true, true, true, true, true, true, false, false, false, false, false, false, false] [(0, true), (1, true), (2, true), (3, true), (4, true), (5, true), (6, true)] (by kernel_rfl) (by kernel_rfl) (fun _ _ d _ _ h => by first | (cases d <;> exact h) | cases h.1) ((Below.refl V2.heap.size V2).drew) ?_
    have HB := (Below.refl V2.heap.size V2).drew
    refine seg_take (v := .agg (dgA P)) rfl (Or.inl ⟨by rfl, fun w' hw' => ?_⟩) ?_
    focus (exact rex_load rfl rfl (run_loadVar_row w' (w.heap.size + 1) _ 67 _ _ _ (rw_up qPv.out hw') Try.underlying67 rfl (infoD P HP.out)))
    try simp only [Act.put, List.setIfInBounds_toArray, List.set_cons_zero, List.set_cons_succ]
    iterate 6 (refine seg_take (v := ?_) rfl (Or.inl ⟨by rfl, ?_⟩) ?_; rotate_left; (focus (intro w' hw'; have k1 := (hw'.cell (p := ⟨w10.heap.size, i, none⟩) xV2).trans j1; go_simp <;> with_reducible rfl)); try simp only [Act.put, List.setIfInBounds_toArray, List.set_cons_zero, List.set_cons_succ])
    refine seg_done (fun _ => ?_)
    refine wpAnyH_two (i := 7) (j := 11) (f := 6) (by kernel_rfl) ?_ ?_
    · skip
      refine op_run rfl (fun K hK => ?_)
      go_simp
      refine (G3.out _ (ri.below HB)).mono ?_
      rintro e wC ⟨Ac, nc, cc, rfl, rc, hfc, hbC⟩
      try have hcne : 0 < nc → ∀ a, Ac = some a → a.block ≠ gA := fun h0 a e => by have := hfc h0 a e; omega
      try have hL := (hbC.block _ (by omega)).trans hL
      try have hLlt := Nat.lt_of_lt_of_le hLlt hbC.size
      have HB := below_then HB hbC
      refine hK.out _ _ (HB) ?_
      clear hK
      try simp only [Act.put, List.setIfInBounds_toArray, List.set_cons_zero, List.set_cons_succ]
      refine wpAnyH_seg (by kernel_rfl) (fun _ _ d _ _ h => by first | (cases d <;> exact h) | cases h.1) 0 #[true, true, true, true, true, true, true, true, true, true, true, true, true, true] [(8, true), (9, true), (10, true), (11, false), (12, false), (13, true)] _ _ _ (by kernel_rfl) (HB) ?_
      iterate 3 (refine seg_take (v := ?_) rfl (Or.inl ⟨by rfl, ?_⟩) ?_; rotate_left; (focus (intro w' hw'; have k1 := (hw'.cell (p := ⟨w10.heap.size, i, none⟩) xV2).trans j1; go_simp <;> with_reducible rfl)); try simp only [Act.put, List.setIfInBounds_toArray, List.set_cons_zero, List.set_cons_succ])
      refine seg_run rfl (fun K hK => ?_)
      rw [if_pos (by rfl)]
      refine op_new #[.int .u32 0, .int .u32 0, .int .u32 0, .int .u64 0, .int .i64 0, .int .u64 0, .slice none 0 0, .int .u8 0, .int .u8 0, .int .u8 0, .int .u8 0, .int .u8 0, .int .u8 0, .int .u8 0, .int .u8 0, .int .u8 0, .int .u8 0, .int .u8 0, .int .u8 0, .int .u8 0, .int .u8 0, .int .u8 0, .int .u8 0, .int .u8 0, .int .u8 0, .int .u8 0, .int .u8 0, .int .u8 0, .int .u8 0, .int .u8 0, .int .u8 0, .int .u8 0, .int .u8 0, .int .u8 0, .int .u8 0, .int .u8 0, .int .u8 0, .int .u8 0, .int .u8 0] 69 (fun w => by go_simp) ?_
      intro gA wL eL hL HBl hLsz
      have HBz := HB.size
      have hgle : V2.heap.size ≤ gA := by omega
      have hLlt : gA < wL.heap.size := by omega
      try (have hcne : 0 < nc → ∀ a, Ac = some a → a.block ≠ gA := fun h0 a e => by (obtain ⟨b9, o9, u9, he9, hb9, _⟩ := rc.at_ 0 h0; rw [he9] at e; injection e with e; subst e; show b9 ≠ gA; omega))
      try have rc := rc.below HBl
      have HB := below_then HB HBl
      clear eL hLsz HBz
      refine hK.out _ _ (HB) ?_
      clear hK
      try simp only [Act.put, List.setIfInBounds_toArray, List.set_cons_zero, List.set_cons_succ]
      refine seg_run rfl (fun K hK => ?_)
      rw [if_pos (by rfl)]
      refine wp_store_row _ _ _ rfl gA (rcV xF Ac nc cc).toArray rfl rfl _ _ hL (rcInfo xF Ac nc cc HFD.out) (by rw [show (rcV xF Ac nc cc).toArray.size = 39 by rw [List.size_toArray, rcV_len _ _ _ _ HFD.out]]; rfl) (all_oneCell_toArray (rcV_one xF Ac nc cc)) ?_
      have HB := below_setRow HB hgle (rcV xF Ac nc cc).toArray
      refine hK.out _ _ (HB) ?_
      clear hK
      try simp only [Act.put, List.setIfInBounds_toArray, List.set_cons_zero, List.set_cons_succ]
      iterate 1 (refine seg_take (v := ?_) rfl (Or.inl ⟨by rfl, ?_⟩) ?_; rotate_left; (focus (intro w' hw'; have k1 := (hw'.cell (p := ⟨w10.heap.size, i, none⟩) xV2).trans j1; go_simp <;> with_reducible rfl)); try simp only [Act.put, List.setIfInBounds_toArray, List.set_cons_zero, List.set_cons_succ])
      refine seg_done (fun _ => ?_)
      refine wpAnyH_done (by kernel_rfl) ?_ _
      have hrw := setRow_heap _ gA _ (rcV xF Ac nc cc).toArray _ _ hL
      have rc := rd_row rc gA (rcV xF Ac nc cc).toArray hcne
      obtain ⟨U1, hU⟩ : ∃ U, U = wL.setRow gA (rcV xF Ac nc cc).toArray := ⟨_, rfl⟩
      first
        | (rw [← hU] at hrw HB rc ⊢)
        | (clear hU; obtain ⟨U1, hU⟩ : ∃ U, U = wC.setRow gA (rcV xF Ac nc cc).toArray := ⟨_, rfl⟩; rw [← hU] at hrw HB rc ⊢)
      have QC : Hid (RcAt U1 gA xF Ac nc cc) := Lib.hid hrw
      have BU1 := below_then BI2 HB
      have ra := ra.below HB
      have rb := rb.below HB
      have qa := Lib.hid (qa.out.up HB)
      have qb := Lib.hid (qb.out.up HB)
      have ri := ri.below HB
      have j1 := (BU1.cell (p := ⟨w10.heap.size, i, none⟩) xX).trans CXI.out
      have xU1 : w10.heap.size < U1.heap.size := Nat.lt_of_lt_of_le xX BU1.size
      have qPu := Lib.hid (rw_up qPv.out HB)
      clear hU hrw hL hcne hfc hbC HB HBl
      go_wp2_with fail
      refine wp_region_seg (S := fun w' => Below U1.heap.size U1 w') 7 #[true, true, true, true, true, true, true, false, false, false, false, false, false, false] [(0, true), (1, true), (2, true), (3, true), (4, true), (5, true), (6, true)] (by kernel_rfl) (by kernel_rfl) (fun _ _ d _ _ h => by first | (cases d <;> exact h) | cases h.1) ((Below.refl U1.heap.size U1).drew) ?_
      have HB := (Below.refl U1.heap.size U1).drew
      refine seg_take (v := .agg (dgA P)) rfl (Or.inl ⟨by rfl, fun w' hw' => ?_⟩) ?_
      focus (exact rex_load rfl rfl (run_loadVar_row w' (w.heap.size + 1) _ 67 _ _ _ (rw_up qPu.out hw') Try.underlying67 rfl (infoD P HP.out)))
      try simp only [Act.put, List.setIfInBounds_toArray, List.set_cons_zero, List.set_cons_succ]
      iterate 6 (refine seg_take (v := ?_) rfl (Or.inl ⟨by rfl, ?_⟩) ?_; rotate_left; (focus (intro w' hw'; have k1 := (hw'.cell (p := ⟨w10.heap.size, i, none⟩) xU1).trans j1; go_simp <;> with_reducible rfl)); try simp only [Act.put, List.setIfInBounds_toArray, List.set_cons_zero, List.set_cons_succ])
      refine seg_done (fun _ => ?_)
      refine wpAnyH_two (i := 7) (j := 11) (f := 6) (by kernel_rfl) ?_ ?_
      · skip
        refine op_run rfl (fun K hK => ?_)
        go_simp
        refine (G4.out _ (ri.below HB)).mono ?_
        rintro e wC ⟨Ad, nd, cd, rfl, rd, hfc, hbC⟩
        try have hcne : 0 < nd → ∀ a, Ad = some a → a.block ≠ gB := fun h0 a e => by have := hfc h0 a e; omega
        try have hL := (hbC.block _ (by omega)).trans hL
        try have hLlt := Nat.lt_of_lt_of_le hLlt hbC.size
        have HB := below_then HB hbC
        refine hK.out _ _ (HB) ?_
        clear hK
        try simp only [Act.put, List.setIfInBounds_toArray, List.set_cons_zero, List.set_cons_succ]
        refine wpAnyH_seg (by kernel_rfl) (fun _ _ d _ _ h => by first | (cases d <;> exact h) | cases h.1) 0 #[true, true, true, true, true, true, true, true, true, true, true, true, true, true] [(8, true), (9, true), (10, true), (11, false), (12, false), (13, true)] _ _ _ (by kernel_rfl) (HB) ?_
        iterate 3 (refine seg_take (v := ?_) rfl (Or.inl ⟨by rfl, ?_⟩) ?_; rotate_left; (focus (intro w' hw'; have k1 := (hw'.cell (p := ⟨w10.heap.size, i, none⟩) xU1).trans j1; go_simp <;> with_reducible rfl)); try simp only [Act.put, List.setIfInBounds_toArray, List.set_cons_zero, List.set_cons_succ])
        refine seg_run rfl (fun K hK => ?_)
        rw [if_pos (by rfl)]
        refine op_new #[.int .u32 0, .int .u32 0, .int .u32 0, .int .u64 0, .int .i64 0, .int .u64 0, .slice none 0 0, .int .u8 0, .int .u8 0, .int .u8 0, .int .u8 0, .int .u8 0, .int .u8 0, .int .u8 0, .int .u8 0, .int .u8 0, .int .u8 0, .int .u8 0, .int .u8 0, .int .u8 0, .int .u8 0, .int .u8 0, .int .u8 0, .int .u8 0, .int .u8 0, .int .u8 0, .int .u8 0, .int .u8 0, .int .u8 0, .int .u8 0, .int .u8 0, .int .u8 0, .int .u8 0, .int .u8 0, .int .u8 0, .int .u8 0, .int .u8 0, .int .u8 0, .int .u8 0] 69 (fun w => by go_simp) ?_
        intro gB wL eL hL HBl hLsz
        have HBz := HB.size
        have hgle : U1.heap.size ≤ gB := by omega
        have hLlt : gB < wL.heap.size := by omega
        try (have hcne : 0 < nd → ∀ a, Ad = some a → a.block ≠ gB := fun h0 a e => by (obtain ⟨b9, o9, u9, he9, hb9, _⟩ := rd.at_ 0 h0; rw [he9] at e; injection e with e; subst e; show b9 ≠ gB; omega))
        try have rd := rd.below HBl
        have HB := below_then HB HBl
        clear eL hLsz HBz
        refine hK.out _ _ (HB) ?_
        clear hK
        try simp only [Act.put, List.setIfInBounds_toArray, List.set_cons_zero, List.set_cons_succ]
        refine seg_run rfl (fun K hK => ?_)
        rw [if_pos (by rfl)]
        refine wp_store_row _ _ _ rfl gB (rcV xF Ad nd cd).toArray rfl rfl _ _ hL (rcInfo xF Ad nd cd HFD.out) (by rw [show (rcV xF Ad nd cd).toArray.size = 39 by rw [List.size_toArray, rcV_len _ _ _ _ HFD.out]]; rfl) (all_oneCell_toArray (rcV_one xF Ad nd cd)) ?_
        have HB := below_setRow HB hgle (rcV xF Ad nd cd).toArray
        refine hK.out _ _ (HB) ?_
        clear hK
        try simp only [Act.put, List.setIfInBounds_toArray, List.set_cons_zero, List.set_cons_succ]
        iterate 1 (refine seg_take (v := ?_) rfl (Or.inl ⟨by rfl, ?_⟩) ?_; rotate_left; (focus (intro w' hw'; have k1 := (hw'.cell (p := ⟨w10.heap.size, i, none⟩) xU1).trans j1; go_simp <;> with_reducible rfl)); try simp only [Act.put, List.setIfInBounds_toArray, List.set_cons_zero, List.set_cons_succ])
        refine seg_done (fun _ => ?_)
        refine wpAnyH_done (by kernel_rfl) ?_ _
        have hrw := setRow_heap _ gB _ (rcV xF Ad nd cd).toArray _ _ hL
        have rd := rd_row rd gB (rcV xF Ad nd cd).toArray hcne
        obtain ⟨U2, hU⟩ : ∃ U, U = wL.setRow gB (rcV xF Ad nd cd).toArray := ⟨_, rfl⟩
        first
          | (rw [← hU] at hrw HB rd ⊢)
          | (clear hU; obtain ⟨U2, hU⟩ : ∃ U, U = wC.setRow gB (rcV xF Ad nd cd).toArray := ⟨_, rfl⟩; rw [← hU] at hrw HB rd ⊢)
        have QD : Hid (RcAt U2 gB xF Ad nd cd) := Lib.hid hrw
        have QC2 := Lib.hid (QC.out.up HB)
        have BU2 := below_then BU1 HB
        have ra := ra.below HB
        have rb := rb.below HB
        have rc := rc.below HB
        have qa := Lib.hid (qa.out.up HB)
        have qb := Lib.hid (qb.out.up HB)
        clear hU hrw hL hcne hfc hbC HB HBl
        go_wp2_with (first | (refine rc_load rfl _ rfl rfl qa.out HXD.out ?_) | (refine rc_load rfl _ rfl rfl qb.out HXD.out ?_))
        refine (S1.out _ _ _ _ _ _ U2 ra rb).mono ?_
        rintro e u5 ⟨rfl, hu5⟩
        have QC3 := Lib.hid (QC2.out.up hu5)
        have QD3 := Lib.hid (QD.out.up hu5)
        have rc := rc.below hu5
        have rd := rd.below hu5
        have BU3 := below_then BU2 hu5
        go_wp2_with (first | (refine wpList_unguard (by rfl) (rc_load rfl _ rfl rfl QC3.out HFD.out ?_)) | (refine wpList_unguard (by rfl) (rc_load rfl _ rfl rfl QD3.out HFD.out ?_)))
        refine (S2.out _ _ _ _ _ _ u5 rc rd).mono ?_
        rintro e u6 ⟨rfl, hu6⟩
        go_wp2
        go_roundw
        case rel => exact ⟨i + 1, by omega, by go_num, below_then BU3 hu6⟩
        case measure => simp [intOf]; omega
      · skip
        refine op_run rfl (fun K hK => ?_)
        rw [if_pos (by rfl)]
        refine op_new #[.int .u32 0, .int .u32 0, .int .u32 0, .int .u64 0, .int .i64 0, .int .u64 0, .slice none 0 0, .int .u8 0, .int .u8 0, .int .u8 0, .int .u8 0, .int .u8 0, .int .u8 0, .int .u8 0, .int .u8 0, .int .u8 0, .int .u8 0, .int .u8 0, .int .u8 0, .int .u8 0, .int .u8 0, .int .u8 0, .int .u8 0, .int .u8 0, .int .u8 0, .int .u8 0, .int .u8 0, .int .u8 0, .int .u8 0, .int .u8 0, .int .u8 0, .int .u8 0, .int .u8 0, .int .u8 0, .int .u8 0, .int .u8 0, .int .u8 0, .int .u8 0, .int .u8 0] 69 (fun w => by go_simp) ?_
        intro gB wL eL hL HBl hLsz
        have HBz := HB.size
        have hgle : U1.heap.size ≤ gB := by omega
        have hLlt : gB < wL.heap.size := by omega
        try (have hcne : 0 < nd → ∀ a, Ad = some a → a.block ≠ gB := fun h0 a e => by (obtain ⟨b9, o9, u9, he9, hb9, _⟩ := rd.at_ 0 h0; rw [he9] at e; injection e with e; subst e; show b9 ≠ gB; omega))
        try have rd := rd.below HBl
        have HB := below_then HB HBl
        clear eL hLsz HBz
        refine hK.out _ _ (HB) ?_
        clear hK
        try simp only [Act.put, List.setIfInBounds_toArray, List.set_cons_zero, List.set_cons_succ]
        refine wpAnyH_seg (by kernel_rfl) (fun _ _ d _ _ h => by first | (cases d <;> exact h) | cases h.1) 0 #[true, true, true, true, true, true, true, true, true, true, true, true, true, true] [(7, false), (8, true), (9, true), (10, true), (12, false), (13, true)] _ _ _ (by kernel_rfl) (HB) ?_
        refine seg_run rfl (fun K hK => ?_)
        go_simp
        refine (G4.out _ (ri.below HB)).mono ?_
        rintro e wC ⟨Ad, nd, cd, rfl, rd, hfc, hbC⟩
        try have hcne : 0 < nd → ∀ a, Ad = some a → a.block ≠ gB := fun h0 a e => by have := hfc h0 a e; omega
        try have hL := (hbC.block _ (by omega)).trans hL
        try have hLlt := Nat.lt_of_lt_of_le hLlt hbC.size
        have HB := below_then HB hbC
        refine hK.out _ _ (HB) ?_
        clear hK
        try simp only [Act.put, List.setIfInBounds_toArray, List.set_cons_zero, List.set_cons_succ]
        iterate 3 (refine seg_take (v := ?_) rfl (Or.inl ⟨by rfl, ?_⟩) ?_; rotate_left; (focus (intro w' hw'; have k1 := (hw'.cell (p := ⟨w10.heap.size, i, none⟩) xU1).trans j1; go_simp <;> with_reducible rfl)); try simp only [Act.put, List.setIfInBounds_toArray, List.set_cons_zero, List.set_cons_succ])
        refine seg_run rfl (fun K hK => ?_)
        rw [if_pos (by rfl)]
        refine wp_store_row _ _ _ rfl gB (rcV xF Ad nd cd).toArray rfl rfl _ _ hL (rcInfo xF Ad nd cd HFD.out) (by rw [show (rcV xF Ad nd cd).toArray.size = 39 by rw [List.size_toArray, rcV_len _ _ _ _ HFD.out]]; rfl) (all_oneCell_toArray (rcV_one xF Ad nd cd)) ?_
        have HB := below_setRow HB hgle (rcV xF Ad nd cd).toArray
        refine hK.out _ _ (HB) ?_
        clear hK
        try simp only [Act.put, List.setIfInBounds_toArray, List.set_cons_zero, List.set_cons_succ]
        iterate 1 (refine seg_take (v := ?_) rfl (Or.inl ⟨by rfl, ?_⟩) ?_; rotate_left; (focus (intro w' hw'; have k1 := (hw'.cell (p := ⟨w10.heap.size, i, none⟩) xU1).trans j1; go_simp <;> with_reducible rfl)); try simp only [Act.put, List.setIfInBounds_toArray, List.set_cons_zero, List.set_cons_succ])
        refine seg_done (fun _ => ?_)
        refine wpAnyH_done (by kernel_rfl) ?_ _
        have hrw := setRow_heap _ gB _ (rcV xF Ad nd cd).toArray _ _ hL
        have rd := rd_row rd gB (rcV xF Ad nd cd).toArray hcne
        obtain ⟨U2, hU⟩ : ∃ U, U = wL.setRow gB (rcV xF Ad nd cd).toArray := ⟨_, rfl⟩
        first
          | (rw [← hU] at hrw HB rd ⊢)
          | (clear hU; obtain ⟨U2, hU⟩ : ∃ U, U = wC.setRow gB (rcV xF Ad nd cd).toArray := ⟨_, rfl⟩; rw [← hU] at hrw HB rd ⊢)
        have QD : Hid (RcAt U2 gB xF Ad nd cd) := Lib.hid hrw
        have QC2 := Lib.hid (QC.out.up HB)
        have BU2 := below_then BU1 HB
        have ra := ra.below HB
        have rb := rb.below HB
        have rc := rc.below HB
        have qa := Lib.hid (qa.out.up HB)
        have qb := Lib.hid (qb.out.up HB)
        clear hU hrw hL hcne hfc hbC HB HBl
        go_wp2_with (first | (refine rc_load rfl _ rfl rfl qa.out HXD.out ?_) | (refine rc_load rfl _ rfl rfl qb.out HXD.out ?_))
        refine (S1.out _ _ _ _ _ _ U2 ra rb).mono ?_
        rintro e u5 ⟨rfl, hu5⟩
        have QC3 := Lib.hid (QC2.out.up hu5)
        have QD3 := Lib.hid (QD.out.up hu5)
        have rc := rc.below hu5
        have rd := rd.below hu5
        have BU3 := below_then BU2 hu5
        go_wp2_with (first | (refine wpList_unguard (by rfl) (rc_load rfl _ rfl rfl QC3.out HFD.out ?_)) | (refine wpList_unguard (by rfl) (rc_load rfl _ rfl rfl QD3.out HFD.out ?_)))
        refine (S2.out _ _ _ _ _ _ u5 rc rd).mono ?_
        rintro e u6 ⟨rfl, hu6⟩
        go_wp2
        go_roundw
        case rel => exact ⟨i + 1, by omega, by go_num, below_then BU3 hu6⟩
        case measure => simp [intOf]; omega
    · skip
      refine op_run rfl (fun K hK => ?_)
      rw [if_pos (by rfl)]
      refine op_new #[.int .u32 0, .int .u32 0, .int .u32 0, .int .u64 0, .int .i64 0, .int .u64 0, .slice none 0 0, .int .u8 0, .int .u8 0, .int .u8 0, .int .u8 0, .int .u8 0, .int .u8 0, .int .u8 0, .int .u8 0, .int .u8 0, .int .u8 0, .int .u8 0, .int .u8 0, .int .u8 0, .int .u8 0, .int .u8 0, .int .u8 0, .int .u8 0, .int .u8 0, .int .u8 0, .int .u8 0, .int .u8 0, .int .u8 0, .int .u8 0, .int .u8 0, .int .u8 0, .int .u8 0, .int .u8 0, .int .u8 0, .int .u8 0, .int .u8 0, .int .u8 0, .int .u8 0] 69 (fun w => by go_simp) ?_
      intro gA wL eL hL HBl hLsz
      have HBz := HB.size
      have hgle : V2.heap.size ≤ gA := by omega
      have hLlt : gA < wL.heap.size := by omega
      try (have hcne : 0 < nc → ∀ a, Ac = some a → a.block ≠ gA := fun h0 a e => by (obtain ⟨b9, o9, u9, he9, hb9, _⟩ := rc.at_ 0 h0; rw [he9] at e; injection e with e; subst e; show b9 ≠ gA; omega))
      try have rc := rc.below HBl
      have HB := below_then HB HBl
      clear eL hLsz HBz
      refine hK.out _ _ (HB) ?_
      clear hK
      try simp only [Act.put, List.setIfInBounds_toArray, List.set_cons_zero, List.set_cons_succ]
      refine wpAnyH_seg (by kernel_rfl) (fun _ _ d _ _ h => by first | (cases d <;> exact h) | cases h.1) 0 #[true, true, true, true, true, true, true, true, true, true, true, true, true, true] [(7, false), (8, true), (9, true), (10, true), (12, false), (13, true)] _ _ _ (by kernel_rfl) (HB) ?_
      refine seg_run rfl (fun K hK => ?_)
      go_simp
      refine (G3.out _ (ri.below HB)).mono ?_
      rintro e wC ⟨Ac, nc, cc, rfl, rc, hfc, hbC⟩
      try have hcne : 0 < nc → ∀ a, Ac = some a → a.block ≠ gA := fun h0 a e => by have := hfc h0 a e; omega
      try have hL := (hbC.block _ (by omega)).trans hL
      try have hLlt := Nat.lt_of_lt_of_le hLlt hbC.size
      have HB := below_then HB hbC
      refine hK.out _ _ (HB) ?_
      clear hK
      try simp only [Act.put, List.setIfInBounds_toArray, List.set_cons_zero, List.set_cons_succ]
      iterate 3 (refine seg_take (v := ?_) rfl (Or.inl ⟨by rfl, ?_⟩) ?_; rotate_left; (focus (intro w' hw'; have k1 := (hw'.cell (p := ⟨w10.heap.size, i, none⟩) xV2).trans j1; go_simp <;> with_reducible rfl)); try simp only [Act.put, List.setIfInBounds_toArray, List.set_cons_zero, List.set_cons_succ])
      refine seg_run rfl (fun K hK => ?_)
      rw [if_pos (by rfl)]
      refine wp_store_row _ _ _ rfl gA (rcV xF Ac nc cc).toArray rfl rfl _ _ hL (rcInfo xF Ac nc cc HFD.out) (by rw [show (rcV xF Ac nc cc).toArray.size = 39 by rw [List.size_toArray, rcV_len _ _ _ _ HFD.out]]; rfl) (all_oneCell_toArray (rcV_one xF Ac nc cc)) ?_
      have HB := below_setRow HB hgle (rcV xF Ac nc cc).toArray
      refine hK.out _ _ (HB) ?_
      clear hK
      try simp only [Act.put, List.setIfInBounds_toArray, List.set_cons_zero, List.set_cons_succ]
      iterate 1 (refine seg_take (v := ?_) rfl (Or.inl ⟨by rfl, ?_⟩) ?_; rotate_left; (focus (intro w' hw'; have k1 := (hw'.cell (p := ⟨w10.heap.size, i, none⟩) xV2).trans j1; go_simp <;> with_reducible rfl)); try simp only [Act.put, List.setIfInBounds_toArray, List.set_cons_zero, List.set_cons_succ])
      refine seg_done (fun _ => ?_)
      refine wpAnyH_done (by kernel_rfl) ?_ _
      have hrw := setRow_heap _ gA _ (rcV xF Ac nc cc).toArray _ _ hL
      have rc := rd_row rc gA (rcV xF Ac nc cc).toArray hcne
      obtain ⟨U1, hU⟩ : ∃ U, U = wL.setRow gA (rcV xF Ac nc cc).toArray := ⟨_, rfl⟩
      first
        | (rw [← hU] at hrw HB rc ⊢)
        | (clear hU; obtain ⟨U1, hU⟩ : ∃ U, U = wC.setRow gA (rcV xF Ac nc cc).toArray := ⟨_, rfl⟩; rw [← hU] at hrw HB rc ⊢)
      have QC : Hid (RcAt U1 gA xF Ac nc cc) := Lib.hid hrw
      have BU1 := below_then BI2 HB
      have ra := ra.below HB
      have rb := rb.below HB
      have qa := Lib.hid (qa.out.up HB)
      have qb := Lib.hid (qb.out.up HB)
      have ri := ri.below HB
      have j1 := (BU1.cell (p := ⟨w10.heap.size, i, none⟩) xX).trans CXI.out
      have xU1 : w10.heap.size < U1.heap.size := Nat.lt_of_lt_of_le xX BU1.size
      have qPu := Lib.hid (rw_up qPv.out HB)
      clear hU hrw hL hcne hfc hbC HB HBl
      go_wp2_with fail
      refine wp_region_seg (S := fun w' => Below U1.heap.size U1 w') 7 #[true, true, true, true, true, true, true, false, false, false, false, false, false, false] [(0, true), (1, true), (2, true), (3, true), (4, true), (5, true), (6, true)] (by kernel_rfl) (by kernel_rfl) (fun _ _ d _ _ h => by first | (cases d <;> exact h) | cases h.1) ((Below.refl U1.heap.size U1).drew) ?_
      have HB := (Below.refl U1.heap.size U1).drew
      refine seg_take (v := .agg (dgA P)) rfl (Or.inl ⟨by rfl, fun w' hw' => ?_⟩) ?_
      focus (exact rex_load rfl rfl (run_loadVar_row w' (w.heap.size + 1) _ 67 _ _ _ (rw_up qPu.out hw') Try.underlying67 rfl (infoD P HP.out)))
      try simp only [Act.put, List.setIfInBounds_toArray, List.set_cons_zero, List.set_cons_succ]
      iterate 6 (refine seg_take (v := ?_) rfl (Or.inl ⟨by rfl, ?_⟩) ?_; rotate_left; (focus (intro w' hw'; have k1 := (hw'.cell (p := ⟨w10.heap.size, i, none⟩) xU1).trans j1; go_simp <;> with_reducible rfl)); try simp only [Act.put, List.setIfInBounds_toArray, List.set_cons_zero, List.set_cons_succ])
      refine seg_done (fun _ => ?_)
      refine wpAnyH_two (i := 7) (j := 11) (f := 6) (by kernel_rfl) ?_ ?_
      · skip
        refine op_run rfl (fun K hK => ?_)
        go_simp
        refine (G4.out _ (ri.below HB)).mono ?_
        rintro e wC ⟨Ad, nd, cd, rfl, rd, hfc, hbC⟩
        try have hcne : 0 < nd → ∀ a, Ad = some a → a.block ≠ gB := fun h0 a e => by have := hfc h0 a e; omega
        try have hL := (hbC.block _ (by omega)).trans hL
        try have hLlt := Nat.lt_of_lt_of_le hLlt hbC.size
        have HB := below_then HB hbC
        refine hK.out _ _ (HB) ?_
        clear hK
        try simp only [Act.put, List.setIfInBounds_toArray, List.set_cons_zero, List.set_cons_succ]
        refine wpAnyH_seg (by kernel_rfl) (fun _ _ d _ _ h => by first | (cases d <;> exact h) | cases h.1) 0 #[true, true, true, true, true, true, true, true, true, true, true, true, true, true] [(8, true), (9, true), (10, true), (11, false), (12, false), (13, true)] _ _ _ (by kernel_rfl) (HB) ?_
        iterate 3 (refine seg_take (v := ?_) rfl (Or.inl ⟨by rfl, ?_⟩) ?_; rotate_left; (focus (intro w' hw'; have k1 := (hw'.cell (p := ⟨w10.heap.size, i, none⟩) xU1).trans j1; go_simp <;> with_reducible rfl)); try simp only [Act.put, List.setIfInBounds_toArray, List.set_cons_zero, List.set_cons_succ])
        refine seg_run rfl (fun K hK => ?_)
        rw [if_pos (by rfl)]
        refine op_new #[.int .u32 0, .int .u32 0, .int .u32 0, .int .u64 0, .int .i64 0, .int .u64 0, .slice none 0 0, .int .u8 0, .int .u8 0, .int .u8 0, .int .u8 0, .int .u8 0, .int .u8 0, .int .u8 0, .int .u8 0, .int .u8 0, .int .u8 0, .int .u8 0, .int .u8 0, .int .u8 0, .int .u8 0, .int .u8 0, .int .u8 0, .int .u8 0, .int .u8 0, .int .u8 0, .int .u8 0, .int .u8 0, .int .u8 0, .int .u8 0, .int .u8 0, .int .u8 0, .int .u8 0, .int .u8 0, .int .u8 0, .int .u8 0, .int .u8 0, .int .u8 0, .int .u8 0] 69 (fun w => by go_simp) ?_
        intro gB wL eL hL HBl hLsz
        have HBz := HB.size
        have hgle : U1.heap.size ≤ gB := by omega
        have hLlt : gB < wL.heap.size := by omega
        try (have hcne : 0 < nd → ∀ a, Ad = some a → a.block ≠ gB := fun h0 a e => by (obtain ⟨b9, o9, u9, he9, hb9, _⟩ := rd.at_ 0 h0; rw [he9] at e; injection e with e; subst e; show b9 ≠ gB; omega))
        try have rd := rd.below HBl
        have HB := below_then HB HBl
        clear eL hLsz HBz
        refine hK.out _ _ (HB) ?_
        clear hK
        try simp only [Act.put, List.setIfInBounds_toArray, List.set_cons_zero, List.set_cons_succ]
        refine seg_run rfl (fun K hK => ?_)
        rw [if_pos (by rfl)]
        refine wp_store_row _ _ _ rfl gB (rcV xF Ad nd cd).toArray rfl rfl _ _ hL (rcInfo xF Ad nd cd HFD.out) (by rw [show (rcV xF Ad nd cd).toArray.size = 39 by rw [List.size_toArray, rcV_len _ _ _ _ HFD.out]]; rfl) (all_oneCell_toArray (rcV_one xF Ad nd cd)) ?_
        have HB := below_setRow HB hgle (rcV xF Ad nd cd).toArray
        refine hK.out _ _ (HB) ?_
        clear hK
        try simp only [Act.put, List.setIfInBounds_toArray, List.set_cons_zero, List.set_cons_succ]
        iterate 1 (refine seg_take (v := ?_) rfl (Or.inl ⟨by rfl, ?_⟩) ?_; rotate_left; (focus (intro w' hw'; have k1 := (hw'.cell (p := ⟨w10.heap.size, i, none⟩) xU1).trans j1; go_simp <;> with_reducible rfl)); try simp only [Act.put, List.setIfInBounds_toArray, List.set_cons_zero, List.set_cons_succ])
        refine seg_done (fun _ => ?_)
        refine wpAnyH_done (by kernel_rfl) ?_ _
        have hrw := setRow_heap _ gB _ (rcV xF Ad nd cd).toArray _ _ hL
        have rd := rd_row rd gB (rcV xF Ad nd cd).toArray hcne
        obtain ⟨U2, hU⟩ : ∃ U, U = wL.setRow gB (rcV xF Ad nd cd).toArray := ⟨_, rfl⟩
        first
          | (rw [← hU] at hrw HB rd ⊢)
          | (clear hU; obtain ⟨U2, hU⟩ : ∃ U, U = wC.setRow gB (rcV xF Ad nd cd).toArray := ⟨_, rfl⟩; rw [← hU] at hrw HB rd ⊢)
        have QD : Hid (RcAt U2 gB xF Ad nd cd) := Lib.hid hrw
        have QC2 := Lib.hid (QC.out.up HB)
        have BU2 := below_then BU1 HB
        have ra := ra.below HB
        have rb := rb.below HB
        have rc := rc.below HB
        have qa := Lib.hid (qa.out.up HB)
        have qb := Lib.hid (qb.out.up HB)
        clear hU hrw hL hcne hfc hbC HB HBl
        go_wp2_with (first | (refine rc_load rfl _ rfl rfl qa.out HXD.out ?_) | (refine rc_load rfl _ rfl rfl qb.out HXD.out ?_))
        refine (S1.out _ _ _ _ _ _ U2 ra rb).mono ?_
        rintro e u5 ⟨rfl, hu5⟩
        have QC3 := Lib.hid (QC2.out.up hu5)
        have QD3 := Lib.hid (QD.out.up hu5)
        have rc := rc.below hu5
        have rd := rd.below hu5
        have BU3 := below_then BU2 hu5
        go_wp2_with (first | (refine wpList_unguard (by rfl) (rc_load rfl _ rfl rfl QC3.out HFD.out ?_)) | (refine wpList_unguard (by rfl) (rc_load rfl _ rfl rfl QD3.out HFD.out ?_)))
        refine (S2.out _ _ _ _ _ _ u5 rc rd).mono ?_
        rintro e u6 ⟨rfl, hu6⟩
        go_wp2
        go_roundw
        case rel => exact ⟨i + 1, by omega, by go_num, below_then BU3 hu6⟩
        case measure => simp [intOf]; omega
      · skip
        refine op_run rfl (fun K hK => ?_)
        rw [if_pos (by rfl)]
        refine op_new #[.int .u32 0, .int .u32 0, .int .u32 0, .int .u64 0, .int .i64 0, .int .u64 0, .slice none 0 0, .int .u8 0, .int .u8 0, .int .u8 0, .int .u8 0, .int .u8 0, .int .u8 0, .int .u8 0, .int .u8 0, .int .u8 0, .int .u8 0, .int .u8 0, .int .u8 0, .int .u8 0, .int .u8 0, .int .u8 0, .int .u8 0, .int .u8 0, .int .u8 0, .int .u8 0, .int .u8 0, .int .u8 0, .int .u8 0, .int .u8 0, .int .u8 0, .int .u8 0, .int .u8 0, .int .u8 0, .int .u8 0, .int .u8 0, .int .u8 0, .int .u8 0, .int .u8 0] 69 (fun w => by go_simp) ?_
        intro gB wL eL hL HBl hLsz
        have HBz := HB.size
        have hgle : U1.heap.size ≤ gB := by omega
        have hLlt : gB < wL.heap.size := by omega
        try (have hcne : 0 < nd → ∀ a, Ad = some a → a.block ≠ gB := fun h0 a e => by (obtain ⟨b9, o9, u9, he9, hb9, _⟩ := rd.at_ 0 h0; rw [he9] at e; injection e with e; subst e; show b9 ≠ gB; omega))
        try have rd := rd.below HBl
        have HB := below_then HB HBl
        clear eL hLsz HBz
        refine hK.out _ _ (HB) ?_
        clear hK
        try simp only [Act.put, List.setIfInBounds_toArray, List.set_cons_zero, List.set_cons_succ]
        refine wpAnyH_seg (by kernel_rfl) (fun _ _ d _ _ h => by first | (cases d <;> exact h) | cases h.1) 0 #[true, true, true, true, true, true, true, true, true, true, true, true, true, true] [(7, false), (8, true), (9, true), (10, true), (12, false), (13, true)] _ _ _ (by kernel_rfl) (HB) ?_
        refine seg_run rfl (fun K hK => ?_)
        go_simp
        refine (G4.out _ (ri.below HB)).mono ?_
        rintro e wC ⟨Ad, nd, cd, rfl, rd, hfc, hbC⟩
        try have hcne : 0 < nd → ∀ a, Ad = some a → a.block ≠ gB := fun h0 a e => by have := hfc h0 a e; omega
        try have hL := (hbC.block _ (by omega)).trans hL
        try have hLlt := Nat.lt_of_lt_of_le hLlt hbC.size
        have HB := below_then HB hbC
        refine hK.out _ _ (HB) ?_
        clear hK
        try simp only [Act.put, List.setIfInBounds_toArray, List.set_cons_zero, List.set_cons_succ]
        iterate 3 (refine seg_take (v := ?_) rfl (Or.inl ⟨by rfl, ?_⟩) ?_; rotate_left; (focus (intro w' hw'; have k1 := (hw'.cell (p := ⟨w10.heap.size, i, none⟩) xU1).trans j1; go_simp <;> with_reducible rfl)); try simp only [Act.put, List.setIfInBounds_toArray, List.set_cons_zero, List.set_cons_succ])
        refine seg_run rfl (fun K hK => ?_)
        rw [if_pos (by rfl)]
        refine wp_store_row _ _ _ rfl gB (rcV xF Ad nd cd).toArray rfl rfl _ _ hL (rcInfo xF Ad nd cd HFD.out) (by rw [show (rcV xF Ad nd cd).toArray.size = 39 by rw [List.size_toArray, rcV_len _ _ _ _ HFD.out]]; rfl) (all_oneCell_toArray (rcV_one xF Ad nd cd)) ?_
        have HB := below_setRow HB hgle (rcV xF Ad nd cd).toArray
        refine hK.out _ _ (HB) ?_
        clear hK
        try simp only [Act.put, List.setIfInBounds_toArray, List.set_cons_zero, List.set_cons_succ]
        iterate 1 (refine seg_take (v := ?_) rfl (Or.inl ⟨by rfl, ?_⟩) ?_; rotate_left; (focus (intro w' hw'; have k1 := (hw'.cell (p := ⟨w10.heap.size, i, none⟩) xU1).trans j1; go_simp <;> with_reducible rfl)); try simp only [Act.put, List.setIfInBounds_toArray, List.set_cons_zero, List.set_cons_succ])
        refine seg_done (fun _ => ?_)
        refine wpAnyH_done (by kernel_rfl) ?_ _
        have hrw := setRow_heap _ gB _ (rcV xF Ad nd cd).toArray _ _ hL
        have rd := rd_row rd gB (rcV xF Ad nd cd).toArray hcne
        obtain ⟨U2, hU⟩ : ∃ U, U = wL.setRow gB (rcV xF Ad nd cd).toArray := ⟨_, rfl⟩
        first
          | (rw [← hU] at hrw HB rd ⊢)
          | (clear hU; obtain ⟨U2, hU⟩ : ∃ U, U = wC.setRow gB (rcV xF Ad nd cd).toArray := ⟨_, rfl⟩; rw [← hU] at hrw HB rd ⊢)
        have QD : Hid (RcAt U2 gB xF Ad nd cd) := Lib.hid hrw
        have QC2 := Lib.hid (QC.out.up HB)
        have BU2 := below_then BU1 HB
        have ra := ra.below HB
        have rb := rb.below HB
        have rc := rc.below HB
        have qa := Lib.hid (qa.out.up HB)
        have qb := Lib.hid (qb.out.up HB)
        clear hU hrw hL hcne hfc hbC HB HBl
        go_wp2_with (first | (refine rc_load rfl _ rfl rfl qa.out HXD.out ?_) | (refine rc_load rfl _ rfl rfl qb.out HXD.out ?_))
        refine (S1.out _ _ _ _ _ _ U2 ra rb).mono ?_
        rintro e u5 ⟨rfl, hu5⟩
        have QC3 := Lib.hid (QC2.out.up hu5)
        have QD3 := Lib.hid (QD.out.up hu5)
        have rc := rc.below hu5
        have rd := rd.below hu5
        have BU3 := below_then BU2 hu5
        go_wp2_with (first | (refine wpList_unguard (by rfl) (rc_load rfl _ rfl rfl QC3.out HFD.out ?_)) | (refine wpList_unguard (by rfl) (rc_load rfl _ rfl rfl QD3.out HFD.out ?_)))
        refine (S2.out _ _ _ _ _ _ u5 rc rd).mono ?_
        rintro e u6 ⟨rfl, hu6⟩
        go_wp2
        go_roundw
        case rel => exact ⟨i + 1, by omega, by go_num, below_then BU3 hu6⟩
        case measure => simp [intOf]; omega
  · obtain rfl : i = 3 := by omega
    go_wp2_with fail
    refine (heads12 _).mono ?_
    rintro e w9 ⟨rfl, hb9⟩
    go_wp2
    go_ret
    exact ⟨rfl, below_then BX (below_then HI hb9)⟩
theorem recTells_law (r : Rc) (A : Option Addr) (n c : Nat) (P : List UInt8) (g s : Nat) (B : Option Addr) (m d : Nat) (ys : List UInt8) (w : World) (hok : r.ok) (hr : RdB w A n c r.b) (hP : P.length = 32) (hg : g < 4294967296) (hs : s < 4294967296) (hy : RdB w B m d ys) :
    Calls Try.prog 7 #[.agg (rcV r A n c).toArray, .agg (dgA P), .int .u32 (g : Int), .int .u32 (s : Int), .slice B m d] w (RetV w (.bool true)) := by
  by_cases h4 : n ≤ 400
  · by_cases h5 : m ≤ 300
    · exact recTells_main r A n c P g s B m d ys w hok hr hP hg hs hy h4 h5
    · exact recTells_wide r A n c P g s B m d ys w hok hr hP hg hs hy h4 (by omega)
  · exact recTells_long r A n c P g s B m d ys w hok hr hP hg hs hy (by omega)
end Go.Proofs.Ytnfepikgbdeomaa

namespace Go.Proofs.Ytnfepikgbdeomaa
open Go.ChangeShapes Go.WideShapes Go.ChangeAt Go.RowKit
set_option linter.unusedVariables false
set_option maxRecDepth 20000
set_option maxHeartbeats 2000000

theorem open_record {H : Type} {enc : TypeId × Value → H} {W : World} {base : Nat} {v : Value} {d0 : DataW H} {p : List MemPlace} (hv : Value.okWide Try.prog W .any base 69 v)
    (h : ∃ fuel, DataW.trod enc Try.prog W 0 (fun _ => true) true fuel 69 v.cells.toList = some (d0, p)) :
    ∃ (r : Rc) (A : Option Addr) (n c : Nat), v = .agg (rcV r A n c).toArray ∧ r.ok ∧ RdB W A n c r.b := by
  obtain ⟨cs, rfl, hsz⟩ := okWide_struct Try.underlying69 hv
  obtain ⟨fuel, hf⟩ := h
  have hN : Try.prog.cellsOf 69 = 39 := by kernel_rfl
  rw [hN] at hsz
  obtain ⟨ls⟩ := cs
  have hls : ls.length = 39 := by simpa using hsz
  match ls, hls with
  | c0 :: c1 :: c2 :: c3 :: c4 :: c5 :: c6 :: rest, hls =>
    have hr : rest.length = 32 := by simpa using hls
    obtain ⟨ys, m, _, _, _, hl, hg⟩ := DataW.trod_struct Try.underlying69 hf
    match ys, hl with
    | [y0, y1, y2, y3, y4], _ =>
      have z_u : Try.prog.cellsOf 23 = 1 := by kernel_rfl
      have z_e : Try.prog.cellsOf 65 = 4 := by kernel_rfl
      have z_d : Try.prog.cellsOf 67 = 32 := by kernel_rfl
      have z_bytes : Try.prog.cellsOf 26 = 1 := by kernel_rfl
      have z_int : Try.prog.cellsOf 3 = 1 := by kernel_rfl
      have z_u64 : Try.prog.cellsOf 42 = 1 := by kernel_rfl
      have h0 : DataW.trod enc Try.prog W 0 (fun _ => true) true m 23 [c0] = some y0 := by
        have q : DataW.trod enc Try.prog W 0 (fun _ => true) true m 23 (((c0 :: c1 :: c2 :: c3 :: c4 :: c5 :: c6 :: rest).drop 0).take (Try.prog.cellsOf 23)) = [y0, y1, y2, y3, y4][0]? := hg 0 _ rfl
        rw [z_u] at q
        exact q
      have h1 : DataW.trod enc Try.prog W 0 (fun _ => true) true m 23 [c1] = some y1 := by
        have q : DataW.trod enc Try.prog W 0 (fun _ => true) true m 23 (((c0 :: c1 :: c2 :: c3 :: c4 :: c5 :: c6 :: rest).drop 1).take (Try.prog.cellsOf 23)) = [y0, y1, y2, y3, y4][1]? := hg 1 _ rfl
        rw [z_u] at q
        exact q
      have h2 : DataW.trod enc Try.prog W 0 (fun _ => true) true m 23 [c2] = some y2 := by
        have q : DataW.trod enc Try.prog W 0 (fun _ => true) true m 23 (((c0 :: c1 :: c2 :: c3 :: c4 :: c5 :: c6 :: rest).drop 2).take (Try.prog.cellsOf 23)) = [y0, y1, y2, y3, y4][2]? := hg 2 _ rfl
        rw [z_u] at q
        exact q
      have h3 : DataW.trod enc Try.prog W 0 (fun _ => true) true m 65 [c3, c4, c5, c6] = some y3 := by
        have q : DataW.trod enc Try.prog W 0 (fun _ => true) true m 65 (((c0 :: c1 :: c2 :: c3 :: c4 :: c5 :: c6 :: rest).drop 3).take (Try.prog.cellsOf 65)) = [y0, y1, y2, y3, y4][3]? := hg 3 _ rfl
        rw [z_e] at q
        exact q
      have h4 : DataW.trod enc Try.prog W 0 (fun _ => true) true m 67 rest = some y4 := by
        have q : DataW.trod enc Try.prog W 0 (fun _ => true) true m 67 (((c0 :: c1 :: c2 :: c3 :: c4 :: c5 :: c6 :: rest).drop 7).take (Try.prog.cellsOf 67)) = [y0, y1, y2, y3, y4][4]? := hg 4 _ rfl
        rw [z_d] at q
        have e : ((c0 :: c1 :: c2 :: c3 :: c4 :: c5 :: c6 :: rest).drop 7).take 32 = rest := by simp [List.take_of_length_le (show rest.length ≤ 32 by omega)]
        rw [e] at q
        exact q
      obtain ⟨i0, e0, _, hw0⟩ := DataW.trod_int Try.underlying23 h0
      obtain rfl : c0 = .int .u32 i0 := by simpa using e0
      obtain ⟨n0, rfl, hn0⟩ := nat_u32 hw0
      obtain ⟨i1, e1, _, hw1⟩ := DataW.trod_int Try.underlying23 h1
      obtain rfl : c1 = .int .u32 i1 := by simpa using e1
      obtain ⟨n1, rfl, hn1⟩ := nat_u32 hw1
      obtain ⟨i2, e2, _, hw2⟩ := DataW.trod_int Try.underlying23 h2
      obtain rfl : c2 = .int .u32 i2 := by simpa using e2
      obtain ⟨n2, rfl, hn2⟩ := nat_u32 hw2
      obtain ⟨zs, m2, _, _, _, hl2, hg2⟩ := DataW.trod_struct Try.underlying65 h3
      match zs, hl2 with
      | [x0, x1, x2, x3], _ =>
        have k0 : DataW.trod enc Try.prog W 0 (fun _ => true) true m2 42 [c3] = some x0 := by
          have q : DataW.trod enc Try.prog W 0 (fun _ => true) true m2 42 ((([c3, c4, c5, c6] : List Value).drop 0).take (Try.prog.cellsOf 42)) = [x0, x1, x2, x3][0]? := hg2 0 _ rfl
          rw [z_u64] at q
          exact q
        have k1 : DataW.trod enc Try.prog W 0 (fun _ => true) true m2 3 [c4] = some x1 := by
          have q : DataW.trod enc Try.prog W 0 (fun _ => true) true m2 3 ((([c3, c4, c5, c6] : List Value).drop 1).take (Try.prog.cellsOf 3)) = [x0, x1, x2, x3][1]? := hg2 1 _ rfl
          rw [z_int] at q
          exact q
        have k2 : DataW.trod enc Try.prog W 0 (fun _ => true) true m2 42 [c5] = some x2 := by
          have q : DataW.trod enc Try.prog W 0 (fun _ => true) true m2 42 ((([c3, c4, c5, c6] : List Value).drop 2).take (Try.prog.cellsOf 42)) = [x0, x1, x2, x3][2]? := hg2 2 _ rfl
          rw [z_u64] at q
          exact q
        have k3 : DataW.trod enc Try.prog W 0 (fun _ => true) true m2 26 [c6] = some x3 := by
          have q : DataW.trod enc Try.prog W 0 (fun _ => true) true m2 26 ((([c3, c4, c5, c6] : List Value).drop 3).take (Try.prog.cellsOf 26)) = [x0, x1, x2, x3][3]? := hg2 3 _ rfl
          rw [z_bytes] at q
          exact q
        obtain ⟨j0, f0, _, hv0⟩ := DataW.trod_int Try.underlying42 k0
        obtain rfl : c3 = .int .u64 j0 := by simpa using f0
        obtain ⟨a0, rfl, ha0⟩ := nat_u64 hv0
        obtain ⟨j1, f1, _, hv1⟩ := DataW.trod_int Try.underlying3 k1
        obtain rfl : c4 = .int .i64 j1 := by simpa using f1
        obtain ⟨j2, f2, _, hv2⟩ := DataW.trod_int Try.underlying42 k2
        obtain rfl : c5 = .int .u64 j2 := by simpa using f2
        obtain ⟨a2, rfl, ha2⟩ := nat_u64 hv2
        obtain ⟨A, n, c, xs, rfl, hr3⟩ := bytes_cell k3
        obtain ⟨D, rfl, hD⟩ := open_digest32 hr h4
        exact ⟨⟨n0, n1, n2, a0, j1, a2, xs, D⟩, A, n, c, by simp [rcV], ⟨hn0, hn1, hn2, ha0, int_i64 hv1, ha2, hD⟩, hr3⟩
end Go.Proofs.Ytnfepikgbdeomaa
