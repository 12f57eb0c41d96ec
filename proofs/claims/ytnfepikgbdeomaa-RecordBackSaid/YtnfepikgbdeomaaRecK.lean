/-
  Layer 12: records: the law's heads.
-/
import Derived.Test.YtnfepikgbdeomaaRecI
import Derived.Test.YtnfepikgbdeomaaRecJ
namespace Go.Proofs.Ytnfepikgbdeomaa
set_option maxRecDepth 20000
open Go.RowKit
set_option linter.unusedVariables false
set_option linter.unusedSimpArgs false
set_option maxHeartbeats 8000000

/-- A record stored in a box that was just made. -/
theorem rc_fresh {ops : Array Oper} {rest : List Oper} {o : Oper} {a : Act} {w : World} {Q : Exit → Act → World → Prop} {h : Nat} {r : Rc} {A : Option Addr} {n c : Nat} (hgd : o.guard = none) (x z : Operand) (ho : o.op = .store 69 x z) (hx : a.eval x = .pointer (some ⟨h, 0, none⟩)) (hz : a.eval z = .agg (rcV r A n c).toArray) (w0 : World)
    (hw : w = w0.alloc (.cells #[.int .u32 0, .int .u32 0, .int .u32 0, .int .u64 0, .int .i64 0, .int .u64 0, .slice none 0 0, .int .u8 0, .int .u8 0, .int .u8 0, .int .u8 0, .int .u8 0, .int .u8 0, .int .u8 0, .int .u8 0, .int .u8 0, .int .u8 0, .int .u8 0, .int .u8 0, .int .u8 0, .int .u8 0, .int .u8 0, .int .u8 0, .int .u8 0, .int .u8 0, .int .u8 0, .int .u8 0, .int .u8 0, .int .u8 0, .int .u8 0, .int .u8 0, .int .u8 0, .int .u8 0, .int .u8 0, .int .u8 0, .int .u8 0, .int .u8 0, .int .u8 0, .int .u8 0] 69)) (hh : w0.heap.size = h) (hD : r.D.length = 32)
    (hK : ∀ X, Hid (RcAt X h r A n c) → Below w0.heap.size w0 X → wpList Try.prog ops Q rest (a.put o.dst undef) X) : wpList Try.prog ops Q (o :: rest) a w := by
  subst hw
  refine rc_store hgd x z ho hx hz (zeroAt hh) hD rcZD (hK _ (Lib.hid (zeroAt hh).setRow) ?_)
  exact below_setRow ((below_self w0).alloc (Nat.le_refl _) _) (by omega) _
theorem dgA0 : dgA (List.replicate 32 0) = #[.int .u8 0, .int .u8 0, .int .u8 0, .int .u8 0, .int .u8 0, .int .u8 0, .int .u8 0, .int .u8 0, .int .u8 0, .int .u8 0, .int .u8 0, .int .u8 0, .int .u8 0, .int .u8 0, .int .u8 0, .int .u8 0, .int .u8 0, .int .u8 0, .int .u8 0, .int .u8 0, .int .u8 0, .int .u8 0, .int .u8 0, .int .u8 0, .int .u8 0, .int .u8 0, .int .u8 0, .int .u8 0, .int .u8 0, .int .u8 0, .int .u8 0, .int .u8 0] := by rfl
theorem dgA1 : dgA (1 :: List.replicate 31 0) = #[.int .u8 1, .int .u8 0, .int .u8 0, .int .u8 0, .int .u8 0, .int .u8 0, .int .u8 0, .int .u8 0, .int .u8 0, .int .u8 0, .int .u8 0, .int .u8 0, .int .u8 0, .int .u8 0, .int .u8 0, .int .u8 0, .int .u8 0, .int .u8 0, .int .u8 0, .int .u8 0, .int .u8 0, .int .u8 0, .int .u8 0, .int .u8 0, .int .u8 0, .int .u8 0, .int .u8 0, .int .u8 0, .int .u8 0, .int .u8 0, .int .u8 0, .int .u8 0] := by rfl
theorem rcH0_ok : rcH0.ok := by refine ⟨by decide, by decide, by decide, by decide, ⟨by decide, by decide⟩, by decide, rfl⟩
theorem rcH0_chk : rcH0.chk = true := by decide
set_option maxRecDepth 100000 in
theorem rcZeros : crcHolds (List.replicate 256 0) = false := by decide +kernel
theorem rcZeros_get : rcGetE (List.replicate 256 0) = 6 ∧ rcGet (List.replicate 256 0) = rcZ := by
  have e : rcGetE (List.replicate 256 0) = 6 := by unfold rcGetE; rw [if_neg (by simp), if_pos rcZeros]
  exact ⟨e, by unfold rcGet; rw [if_neg (by rw [e]; decide)]⟩
theorem heads12 (w : World) : Calls Try.prog 36 #[] w (RetV w (.bool true)) := by
  obtain ⟨D0, hD0⟩ : ∃ d, d = List.replicate 32 (0 : UInt8) := ⟨_, rfl⟩
  have hD0l : D0.length = 32 := by rw [hD0]; rfl
  obtain ⟨D1, hD1⟩ : ∃ d, d = (1 : UInt8) :: List.replicate 31 (0 : UInt8) := ⟨_, rfl⟩
  have hD1l : D1.length = 32 := by rw [hD1]; rfl
  have g0 : dgA D0 = #[.int .u8 0, .int .u8 0, .int .u8 0, .int .u8 0, .int .u8 0, .int .u8 0, .int .u8 0, .int .u8 0, .int .u8 0, .int .u8 0, .int .u8 0, .int .u8 0, .int .u8 0, .int .u8 0, .int .u8 0, .int .u8 0, .int .u8 0, .int .u8 0, .int .u8 0, .int .u8 0, .int .u8 0, .int .u8 0, .int .u8 0, .int .u8 0, .int .u8 0, .int .u8 0, .int .u8 0, .int .u8 0, .int .u8 0, .int .u8 0, .int .u8 0, .int .u8 0] := by rw [hD0]; exact dgA0
  have g1 : dgA D1 = #[.int .u8 1, .int .u8 0, .int .u8 0, .int .u8 0, .int .u8 0, .int .u8 0, .int .u8 0, .int .u8 0, .int .u8 0, .int .u8 0, .int .u8 0, .int .u8 0, .int .u8 0, .int .u8 0, .int .u8 0, .int .u8 0, .int .u8 0, .int .u8 0, .int .u8 0, .int .u8 0, .int .u8 0, .int .u8 0, .int .u8 0, .int .u8 0, .int .u8 0, .int .u8 0, .int .u8 0, .int .u8 0, .int .u8 0, .int .u8 0, .int .u8 0, .int .u8 0] := by rw [hD1]; exact dgA1
  obtain ⟨R, hR⟩ : ∃ R, R = rcMk D0 rcH0 := ⟨_, rfl⟩
  have hRok : R.ok := by rw [hR]; exact rcMk_ok _ _ rcH0_ok
  have hRc : R.chk = true := by rw [hR]; exact rcH0_chk
  have hRb : R.b = [97, 98, 99] := by rw [hR]; rfl
  have hMk : rcMkR D0 ⟨1, 2, 3, 7, 3, 0, [97, 98, 99], List.replicate 32 0⟩ = R := by rw [hR]; rfl
  have hMe : rcMkE ⟨1, 2, 3, 7, 3, 0, [97, 98, 99], List.replicate 32 0⟩ = 0 := by rfl
  obtain ⟨Y, hY⟩ : ∃ Y, Y = rcPutL R := ⟨_, rfl⟩
  have hYE : rcPutE R = 0 := by unfold rcPutE; rw [if_pos hRc]
  have hYl : Y.length = 256 := by rw [hY]; unfold rcPutL; rw [if_pos hRc]; exact rcL_len R (by rw [hRb]; decide) hRok.2.2.2.2.2.2
  have hYg : rcGetE Y = 0 ∧ rcGet Y = R := by rw [hY]; exact rcGet_put R hRok hRc
  have hYt : Y.take 4 = [80, 72, 82, 67] := by
    have := rcGet_take Y hYg.1
    rw [hYg.2] at this
    have h4 : Y.take 4 = (Y.take 220).take 4 := by rw [List.take_take]; rfl
    rw [h4, this]; rfl
  have hF : ∀ Q g s, rcFolE Q g s Y = if rcH0.g ≠ g then 120 else if rcH0.s ≠ s then 121 else if shLink D0 (rcBody rcH0) ≠ shLink Q (rcBody rcH0) then 122 else 0 := fun Q g s => by rw [hY, hR]; exact rcFol_put D0 Q rcH0 g s rcH0_ok rcH0_chk
  have f1 : rcFolE D0 1 2 Y = 0 := by rw [hF, if_neg (by decide), if_neg (by decide), if_neg (by simp)]
  have f2 : rcFolE D0 1 3 Y = 121 := by rw [hF, if_neg (by decide), if_pos (by decide)]
  have f3 : rcFolE D0 2 2 Y = 120 := by rw [hF, if_pos (by decide)]
  have f4 : rcFolE D1 1 2 Y = 122 := by
    rw [hF, if_neg (by decide), if_neg (by decide), if_pos]
    rw [hD0, hD1]
    exact of_decide_eq_false rcH_chain
  have g1' : rcFol D0 1 2 Y = R := by unfold rcFol; rw [if_pos f1, hYg.2]
  have g2 : rcFol D0 1 3 Y = rcZ := by unfold rcFol; rw [if_neg (by rw [f2]; decide)]
  have g3 : rcFol D0 2 2 Y = rcZ := by unfold rcFol; rw [if_neg (by rw [f3]; decide)]
  have g4 : rcFol D1 1 2 Y = rcZ := by unfold rcFol; rw [if_neg (by rw [f4]; decide)]
  have H1 := Lib.hid (fun A c W (h : RdB W A 3 c [97, 98, 99]) => recMake_any D0 hD0l 1 2 3 7 3 0 A 3 c [97, 98, 99] W (by omega) (by omega) (by omega) (by omega) (by omega) (by omega) h)
  have H2 := Lib.hid (fun A n c W (h : RdB W A n c R.b) => recPut_any R A n c W hRok h)
  have H3 := Lib.hid (fun A c W (h : RdB W A 256 c Y) => recGet_any A 256 c Y W h)
  have H4 := Lib.hid (fun A c W (h : RdB W A 256 c Y) => recFollow_any D0 hD0l 1 2 A 256 c Y W h)
  have H5 := Lib.hid (fun A c W (h : RdB W A 256 c Y) => recFollow_any D0 hD0l 1 3 A 256 c Y W h)
  have H6 := Lib.hid (fun A c W (h : RdB W A 256 c Y) => recFollow_any D0 hD0l 2 2 A 256 c Y W h)
  have H7 := Lib.hid (fun A c W (h : RdB W A 256 c Y) => recFollow_any D1 hD1l 1 2 A 256 c Y W h)
  have H8 := Lib.hid (fun A c W (h : RdB W A 256 c (List.replicate 256 0)) => recGet_any A 256 c _ W h)
  have H9 := Lib.hid (fun W => recMake_any D0 hD0l 1 2 3 0 9 0 none 0 0 [] W (by omega) (by omega) (by omega) (by omega) (by omega) (by omega) (RdB.nilB W))
  have HS := Lib.hid (fun A n c B m d W h1 h2 => refSame12_self R A n c B m d W hRok.2.2.2.2.2.2 h1 h2)
  rw [g0, hMk, hMe] at H1
  rw [hYE, ← hY] at H2
  rw [hYg.1, hYg.2] at H3
  rw [g0, f1, g1'] at H4
  rw [g0, f2, g2] at H5
  rw [g0, f3, g3] at H6
  rw [g1, f4, g4] at H7
  rw [rcZeros_get.1, rcZeros_get.2] at H8
  rw [g0, show rcMkR D0 ⟨1, 2, 3, 0, 9, 0, [], List.replicate 32 0⟩ = rcZ from rfl, show rcMkE ⟨1, 2, 3, 0, 9, 0, [], List.replicate 32 0⟩ = 2 from rfl] at H9
  have HD := Lib.hid hRok.2.2.2.2.2.2
  have HRB := Lib.hid hRb
  have HYL := Lib.hid hYl
  have HYT := Lib.hid hYt
  obtain ⟨rcZ', hZ'⟩ : ∃ z, z = rcZ := ⟨_, rfl⟩
  have HZD : Hid (rcZ'.D.length = 32) := by rw [hZ']; exact Lib.hid rcZD
  rw [← hZ'] at H5 H6 H7 H8 H9
  have kc := kconst w #[.int .u8 97, .int .u8 98, .int .u8 99] 3 3
  obtain ⟨W1, hW1⟩ : ∃ W, W = (w.alloc (.cells #[.int .u8 97, .int .u8 98, .int .u8 99] 5 (3, 4))).alloc (.cells #[.int .u64 7, .int .i64 3, .int .u64 0, .slice (some ⟨w.heap.size, 0, none⟩) 3 3] 65) := ⟨_, rfl⟩
  have b1 : Below w.heap.size w W1 := by rw [hW1]; exact ((below_self w).alloc (Nat.le_refl _) _).alloc (by simp) _
  have r1 : RdB W1 (some ⟨w.heap.size, 0, none⟩) 3 3 [97, 98, 99] := rdAt (show W1.heap[w.heap.size]? = some (.cells #[.int .u8 97, .int .u8 98, .int .u8 99] 5 (3, 4)) by rw [hW1]; exact rw_old _ (rw_at _ rfl)) _ 3 rfl rfl (by simp [maxLen])
  have qe := Lib.hid (show W1.heap[w.heap.size + 1]? = some (.cells #[.int .u64 7, .int .i64 3, .int .u64 0, .slice (some ⟨w.heap.size, 0, none⟩) 3 3] 65 (0, 0)) by rw [hW1]; exact rw_at _ (by simp))
  have HW1 := Lib.hid hW1
  clear hD0 hD0l hD1 hD1l g0 g1 hR hRok hRc hRb hMk hMe hY hYE hYl hYg hYt hF f1 f2 f3 f4 g1' g2 g3 g4 hW1 hZ'
  go_enter Try.func36, Try.ntmps36
  go_wp2_with fail
  rw [← HW1.out]
  refine (H1.out _ _ W1 r1).mono ?_
  rintro e w2 ⟨A2, n2, c2, rfl, ho2, _, hb2⟩
  go_wp2_with (first
    | (refine rc_fresh rfl _ _ rfl rfl rfl w2 rfl rfl HD.out ?_; intro X2 q2 x2)
    | (refine rc_load rfl _ rfl rfl q2.out HD.out ?_))
  have B := below_then (below_then b1 hb2) x2
  have qe := Lib.hid (rw_up (rw_up qe.out hb2) x2)
  have r2 := ho2.below x2
  refine (H2.out _ _ _ X2 r2).mono ?_
  rintro e w3 ⟨A3, n3, c3, rfl, ho3, hb3⟩
  have hn3 : n3 = 256 := by rw [← ho3.len, HYL.out]
  subst hn3
  have B := below_then B hb3
  have qe := Lib.hid (rw_up qe.out hb3)
  have q2 := Lib.hid (q2.out.up hb3)
  have r2 := r2.below hb3
  have r3 := ho3.rd
  clear ho3
  go_wp2_with fail
  refine (H3.out _ _ w3 r3).mono ?_
  rintro e w4 ⟨A4, n4, c4, rfl, r4, _, hb4⟩
  go_wp2_with (refine rc_fresh rfl _ _ rfl rfl rfl w4 rfl rfl HD.out ?_; intro X4 q4 x4)
  have B := below_then B hb4
  have qe := Lib.hid (rw_up qe.out hb4)
  have q2 := Lib.hid (q2.out.up hb4)
  have r2 := r2.below hb4
  have r3 := r3.below hb4
  have B := below_then B x4
  have qe := Lib.hid (rw_up qe.out x4)
  have q2 := Lib.hid (q2.out.up x4)
  have r2 := r2.below x4
  have r3 := r3.below x4
  have r4 := r4.below x4
  refine (H4.out _ _ X4 r3).mono ?_
  rintro e w5 ⟨A5, n5, c5, rfl, r5, _, hb5⟩
  go_wp2_with (refine rc_fresh rfl _ _ rfl rfl rfl w5 rfl rfl HD.out ?_; intro X5 q5 x5)
  have B := below_then B hb5
  have qe := Lib.hid (rw_up qe.out hb5)
  have q2 := Lib.hid (q2.out.up hb5)
  have r2 := r2.below hb5
  have r3 := r3.below hb5
  have q4 := Lib.hid (q4.out.up hb5)
  have r4 := r4.below hb5
  have B := below_then B x5
  have qe := Lib.hid (rw_up qe.out x5)
  have q2 := Lib.hid (q2.out.up x5)
  have r2 := r2.below x5
  have r3 := r3.below x5
  have q4 := Lib.hid (q4.out.up x5)
  have r4 := r4.below x5
  have r5 := r5.below x5
  refine (H5.out _ _ X5 r3).mono ?_
  rintro e w6 ⟨A6, n6, c6, rfl, r6, _, hb6⟩
  go_wp2_with (refine rc_fresh rfl _ _ rfl rfl rfl w6 rfl rfl HZD.out ?_; intro X6 q6 x6)
  have B := below_then B hb6
  have qe := Lib.hid (rw_up qe.out hb6)
  have q2 := Lib.hid (q2.out.up hb6)
  have r2 := r2.below hb6
  have r3 := r3.below hb6
  have q4 := Lib.hid (q4.out.up hb6)
  have r4 := r4.below hb6
  have q5 := Lib.hid (q5.out.up hb6)
  have r5 := r5.below hb6
  have B := below_then B x6
  have qe := Lib.hid (rw_up qe.out x6)
  have q2 := Lib.hid (q2.out.up x6)
  have r2 := r2.below x6
  have r3 := r3.below x6
  have q4 := Lib.hid (q4.out.up x6)
  have r4 := r4.below x6
  have q5 := Lib.hid (q5.out.up x6)
  have r5 := r5.below x6
  clear r6 q6
  refine (H6.out _ _ X6 r3).mono ?_
  rintro e w7 ⟨A7, n7, c7, rfl, r7, _, hb7⟩
  go_wp2_with (refine rc_fresh rfl _ _ rfl rfl rfl w7 rfl rfl HZD.out ?_; intro X7 q7 x7)
  have B := below_then B hb7
  have qe := Lib.hid (rw_up qe.out hb7)
  have q2 := Lib.hid (q2.out.up hb7)
  have r2 := r2.below hb7
  have r3 := r3.below hb7
  have q4 := Lib.hid (q4.out.up hb7)
  have r4 := r4.below hb7
  have q5 := Lib.hid (q5.out.up hb7)
  have r5 := r5.below hb7
  have B := below_then B x7
  have qe := Lib.hid (rw_up qe.out x7)
  have q2 := Lib.hid (q2.out.up x7)
  have r2 := r2.below x7
  have r3 := r3.below x7
  have q4 := Lib.hid (q4.out.up x7)
  have r4 := r4.below x7
  have q5 := Lib.hid (q5.out.up x7)
  have r5 := r5.below x7
  clear r7 q7
  refine (H7.out _ _ X7 r3).mono ?_
  rintro e w8 ⟨A8, n8, c8, rfl, r8, _, hb8⟩
  go_wp2_with (first
    | (refine rc_fresh rfl _ _ rfl rfl rfl w8 rfl rfl HZD.out ?_; intro X8 q8 x8)
    | ((with_reducible refine wp_makeB rfl _ _ rfl .i64 .i64 256 rfl rfl (by omega) ?_); intro m8 ho8 hm8))
  have B := below_then B hb8
  have qe := Lib.hid (rw_up qe.out hb8)
  have q2 := Lib.hid (q2.out.up hb8)
  have r2 := r2.below hb8
  have r3 := r3.below hb8
  have q4 := Lib.hid (q4.out.up hb8)
  have r4 := r4.below hb8
  have q5 := Lib.hid (q5.out.up hb8)
  have r5 := r5.below hb8
  have B := below_then B x8
  have qe := Lib.hid (rw_up qe.out x8)
  have q2 := Lib.hid (q2.out.up x8)
  have r2 := r2.below x8
  have r3 := r3.below x8
  have q4 := Lib.hid (q4.out.up x8)
  have r4 := r4.below x8
  have q5 := Lib.hid (q5.out.up x8)
  have r5 := r5.below x8
  clear r8 q8
  have B := below_then B hm8
  have qe := Lib.hid (rw_up qe.out hm8)
  have q2 := Lib.hid (q2.out.up hm8)
  have r2 := r2.below hm8
  have r3 := r3.below hm8
  have q4 := Lib.hid (q4.out.up hm8)
  have r4 := r4.below hm8
  have q5 := Lib.hid (q5.out.up hm8)
  have r5 := r5.below hm8
  refine (H8.out _ _ m8 ho8.rd).mono ?_
  rintro e w9 ⟨A9, n9, c9, rfl, r9, _, hb9⟩
  clear r9
  go_wp2_with (refine rc_fresh rfl _ _ rfl rfl rfl w9 rfl rfl HZD.out ?_; intro X9 q9 x9)
  have B := below_then B hb9
  have qe := Lib.hid (rw_up qe.out hb9)
  have q2 := Lib.hid (q2.out.up hb9)
  have r2 := r2.below hb9
  have r3 := r3.below hb9
  have q4 := Lib.hid (q4.out.up hb9)
  have r4 := r4.below hb9
  have q5 := Lib.hid (q5.out.up hb9)
  have r5 := r5.below hb9
  have B := below_then B x9
  have qe := Lib.hid (rw_up qe.out x9)
  have q2 := Lib.hid (q2.out.up x9)
  have r2 := r2.below x9
  have r3 := r3.below x9
  have q4 := Lib.hid (q4.out.up x9)
  have r4 := r4.below x9
  have q5 := Lib.hid (q5.out.up x9)
  have r5 := r5.below x9
  refine (H9.out X9).mono ?_
  rintro e wa ⟨Aa, na, ca, rfl, ra, _, hba⟩
  have B := below_then B hba
  have qe := Lib.hid (rw_up qe.out hba)
  have q2 := Lib.hid (q2.out.up hba)
  have r2 := r2.below hba
  have r3 := r3.below hba
  have q4 := Lib.hid (q4.out.up hba)
  have r4 := r4.below hba
  have q5 := Lib.hid (q5.out.up hba)
  have r5 := r5.below hba
  have e0 : ∀ i v, (#[.int .u64 7, .int .i64 3, .int .u64 0, .slice (some ⟨w.heap.size, 0, none⟩) 3 3] : Array Value)[i]? = some v → wa.cell? ⟨w.heap.size + 1, i, none⟩ = some v := fun i v h => (cell_of_row wa _ i _ _ _ qe.out).trans h
  clear ra
  go_wp2_with (refine rc_fresh rfl _ _ rfl rfl rfl wa rfl rfl HZD.out ?_; intro Xa qa xa; have y0 := (cell_of_row Xa (w.heap.size + 1) 0 _ _ _ (rw_up qe.out xa)).trans (show (#[.int .u64 7, .int .i64 3, .int .u64 0, .slice (some ⟨w.heap.size, 0, none⟩) 3 3] : Array Value)[0]? = some (.int .u64 7) from rfl); have y1 := (cell_of_row Xa (w.heap.size + 1) 1 _ _ _ (rw_up qe.out xa)).trans (show (#[.int .u64 7, .int .i64 3, .int .u64 0, .slice (some ⟨w.heap.size, 0, none⟩) 3 3] : Array Value)[1]? = some (.int .i64 3) from rfl); have y2 := (cell_of_row Xa (w.heap.size + 1) 2 _ _ _ (rw_up qe.out xa)).trans (show (#[.int .u64 7, .int .i64 3, .int .u64 0, .slice (some ⟨w.heap.size, 0, none⟩) 3 3] : Array Value)[2]? = some (.int .u64 0) from rfl); have y3 := (cell_of_row Xa (w.heap.size + 1) 3 _ _ _ (rw_up qe.out xa)).trans (show (#[.int .u64 7, .int .i64 3, .int .u64 0, .slice (some ⟨w.heap.size, 0, none⟩) 3 3] : Array Value)[3]? = some (.slice (some ⟨w.heap.size, 0, none⟩) 3 3) from rfl))
  have B := below_then B xa
  have qe := Lib.hid (rw_up qe.out xa)
  have q2 := Lib.hid (q2.out.up xa)
  have r2 := r2.below xa
  have r3 := r3.below xa
  have q4 := Lib.hid (q4.out.up xa)
  have r4 := r4.below xa
  have q5 := Lib.hid (q5.out.up xa)
  have r5 := r5.below xa
  refine (recCheck_any 7 3 0 _ 3 _ Xa (by omega)).mono ?_
  rintro e wc ⟨rfl, hbc⟩
  rw [show rcChk 3 0 3 = true from rfl]
  clear y0 y1 y2 y3 e0
  have B := below_then B hbc
  have qe := Lib.hid (rw_up qe.out hbc)
  have q2 := Lib.hid (q2.out.up hbc)
  have r2 := r2.below hbc
  have r3 := r3.below hbc
  have q4 := Lib.hid (q4.out.up hbc)
  have r4 := r4.below hbc
  have q5 := Lib.hid (q5.out.up hbc)
  have r5 := r5.below hbc
  have hc3 := r3.2.2.1
  have ci4 : (4 : Int) ≤ (c3 : Int) := by omega
  have hstr := (r3.take 4 (by omega)).str
  rw [HYT.out, show strOf [80, 72, 82, 67] = { data := #[80, 72, 82, 67] } from rfl] at hstr
  go_wp2_with (first
    | (refine wpList_unguard (by rfl) (rc_load rfl _ rfl rfl q2.out HD.out ?_))
    | (refine wpList_unguard (by rfl) (rc_load rfl _ rfl rfl q4.out HD.out ?_)))
  refine (HS.out _ _ _ _ _ _ wc r2 r4).mono ?_
  rintro e wd ⟨rfl, hbd⟩
  clear hstr
  have B := below_then B hbd
  have qe := Lib.hid (rw_up qe.out hbd)
  have q2 := Lib.hid (q2.out.up hbd)
  have r2 := r2.below hbd
  have r3 := r3.below hbd
  have q4 := Lib.hid (q4.out.up hbd)
  have r4 := r4.below hbd
  have q5 := Lib.hid (q5.out.up hbd)
  have r5 := r5.below hbd
  go_wp2_with (first
    | (refine wpList_unguard (by rfl) (rc_load rfl _ rfl rfl q2.out HD.out ?_))
    | (refine wpList_unguard (by rfl) (rc_load rfl _ rfl rfl q5.out HD.out ?_)))
  refine (HS.out _ _ _ _ _ _ wd r2 r5).mono ?_
  rintro e we ⟨rfl, hbe⟩
  go_wp2_with fail
  go_ret
  exact ⟨rfl, below_then B hbe⟩
end Go.Proofs.Ytnfepikgbdeomaa
