/-
  Layer 24: Put.
-/
import Derived.Test.YtndabecdfccjlaaSegB
import Derived.Test.YtndabecdfccjlaaBld
import Derived.Test.YtndabecdfccjlaaIpC
import Derived.Test.YtndabecdfccjlaaOpsC
namespace Go.Proofs.Ytndabecdfccjlaa
set_option maxRecDepth 20000
open Go.RowKit
set_option linter.unusedVariables false
set_option linter.unusedSimpArgs false
set_option maxHeartbeats 8000000

def SgB (w0 w : World) (g : Nat) (xs : List UInt8) : Prop :=
  Below w0.heap.size w0 w ∧ w0.heap.size ≤ g ∧ g < w.heap.size ∧ w.frozen? ⟨g, 0, none⟩ = false ∧ ∃ A n c, w.cell? ⟨g, 0, none⟩ = some (.slice A n c) ∧ OwnB w (g + 1) A n c xs
def RetSgB (w0 : World) (g : Nat) (xs : List UInt8) (e : Ending) (w' : World) : Prop := e = .returned (.tuple #[]) ∧ SgB w0 w' g xs
theorem segput1_any (x : Nat) (s : Int) (w0 w : World) (g : Nat) (xs : List UInt8) (hx : x < 9223372036854775808) (hl : xs.length ≤ 1000000) (H : SgB w0 w g xs) :
    Calls Try.prog 47 #[.int .i64 x, .int .i64 s, .pointer (some ⟨g, 0, none⟩)] w (RetSgB w0 g (xs ++ beB x (clamp s))) := by
  obtain ⟨h1, h2, h5, h6, A, n, c, h7, h8⟩ := H
  have hn := h8.len
  have h88 := clamp_le s
  have wx := w64n (k := x) (by omega)
  go_enter Try.func47, Try.ntmps47
  go_wp2_with fail
  refine wp_region_last (S := fun w' => Below (g + 1) w w') 6 #[true, true, true, true, true, true, false] [(0, true), (1, true), (2, true), (3, true), (4, false), (5, false)] (by kernel_rfl) (by kernel_rfl) (fun _ _ d _ _ h => by cases d <;> exact h) ((Below.refl _ w).drew) ?_
  iterate 4 (refine seg_take (v := ?_) rfl (Or.inl ⟨by rfl, ?_⟩) ?_; rotate_left; (focus (intro w' hw'; have j2 := (hw'.cell (p := ⟨g, 0, none⟩) (by simp)).trans h7; go_simp <;> with_reducible rfl)); try simp only [Act.put, List.setIfInBounds_toArray, List.set_cons_zero, List.set_cons_succ])
  refine seg_run rfl (fun K hK => ?_)
  go_simp
  refine (be_any x s _ (by omega)).mono ?_
  rintro e w1 ⟨A1, n1, c1, rfl, ho1, hb1⟩
  refine hK.out _ _ ((Below.refl (g + 1) w).drew.trans (hb1.mono (by simp; omega))) ?_
  clear hK
  try simp only [Act.put, List.setIfInBounds_toArray, List.set_cons_zero, List.set_cons_succ]
  refine seg_run rfl (fun K hK => ?_)
  rw [if_pos (by rfl)]
  have hn1 : n1 = clamp s := by rw [← ho1.len, beB_length]
  subst hn1
  have B1 := (Below.refl (g + 1) w).drew.trans (hb1.mono (by simp; omega))
  have z1 := hb1.size
  simp at z1
  refine op_appX _ _ rfl B1 (by omega) (Nat.le_refl _) (by omega) _ _ _ _ rfl (h8.below (undrew hb1)) _ _ _ _ rfl ho1.rd (by omega) _ _ rfl rfl ?_
  intro A2 c2 w2 ho2 hb2 hg2
  refine hK.out _ _ (hb2) ?_
  clear hK
  try simp only [Act.put, List.setIfInBounds_toArray, List.set_cons_zero, List.set_cons_succ]
  refine seg_done ?_
  refine last_run rfl (fun K hK => ?_)
  go_simp
  have e1 := (hb2.cell (p := ⟨g, 0, none⟩) (by simp)).trans h7
  have e2 := (hb2.frozen (p := ⟨g, 0, none⟩) (by simp)).trans h6
  go_simp
  refine hK.out _ _ ?_
  clear hK
  try simp only [Act.put, List.setIfInBounds_toArray, List.set_cons_zero, List.set_cons_succ]
  go_end0
  have e1 := (hb2.cell (p := ⟨g, 0, none⟩) (by simp)).trans h7
  have e2 := (hb2.frozen (p := ⟨g, 0, none⟩) (by simp)).trans h6
  have zz := hb2.size
  exact ⟨rfl, (h1.trans (hb2.mono (by omega))).setCell h2 _, h2, by simp; omega, setc_froz e2, A2, n + clamp s, c2, World.cell?_setCell_same _ _ _ e1, own_far ho2 ⟨g, 0, none⟩ _ (by show g < g + 1; omega)⟩

theorem wp_appX {ops : Array Oper} {rest : List Oper} {o : Oper} {a : Act} {Bd : Nat} {w0 w : World} {Q : Exit → Act → World → Prop} (hgd : o.guard = none) (s x : Operand)
    (ho : o.op = .call { callee := .builtin .append, args := #[s, x], argTypes := #[23, 23] })
    (hb : Below Bd w0 w) (hBw : Bd ≤ w.heap.size) {base : Nat} (hbase : Bd ≤ base) (hbw : base ≤ w.heap.size) (A : Option Addr) (n c : Nat) (xs : List UInt8) (hs : a.eval s = .slice A n c) (hown : OwnB w base A n c xs)
    (B : Option Addr) (m d : Nat) (ys : List UInt8) (hx : a.eval x = .slice B m d) (hr : RdB w B m d ys) (hm : n + m ≤ 70368744177664) (k : Nat) (zs : List UInt8) (hk : n + m = k) (hz : xs ++ ys = zs)
    (h : ∀ A' c' w', OwnB w' base A' k c' zs → Below Bd w0 w' → w.grownBy w' (Value.slice A n c).ownBlock → wpList Try.prog ops Q rest (a.put o.dst (.slice A' k c')) w') : wpList Try.prog ops Q (o :: rest) a w := by
  subst hk hz
  refine wp_app hgd s x _ _ ho elemB base _ n _ hs hown B m d _ hx hr.1 (by simpa using hr.2.1) (oneCell_vB _) (by unfold maxLen; omega) (by omega) hbw (fun A' c' w' h1 h2 => h A' c' w' ?_ ?_ h2)
  · unfold OwnB; rw [List.map_append]; exact h1
  · exact hb.grown h2 hBw (fun q hq => Nat.le_trans hbase (hown.lt q hq).1)
def sgH (sp dp sq ak fl wn : Nat) : List UInt8 := [] ++ beB sp 2 ++ beB dp 2 ++ beB sq 4 ++ beB ak 4 ++ beB 80 1 ++ beB fl 1 ++ beB wn 2 ++ beB 0 4
theorem sgH_length (sp dp sq ak fl wn : Nat) : (sgH sp dp sq ak fl wn).length = 20 := by simp [sgH, beB_length]
def sgZ (sp dp : Int) (sq ak : Nat) (fl wn : Int) (xs : List UInt8) : List UInt8 := sgH sp.toNat dp.toNat sq ak fl.toNat wn.toNat ++ xs
def sgL (src dst : Nat) (Z : List UInt8) : List UInt8 := Z.take 16 ++ (beB (ipSumN src dst 6 Z) 2 ++ Z.drop 18)
def sgPutL (src dst : Nat) (sp dp : Int) (sq ak : Nat) (fl wn : Int) (xs : List UInt8) : List UInt8 := if sgCheck sp dp fl wn xs.length = true then sgL src dst (sgZ sp dp sq ak fl wn xs) else []
def sgPutE (sp dp : Int) (fl wn : Int) (xs : List UInt8) : Int := if sgCheck sp dp fl wn xs.length = true then 0 else 2
theorem sgCheck_iff (sp dp fl wn : Int) (n : Nat) : sgCheck sp dp fl wn n = true ↔ ((1 ≤ sp ∧ sp ≤ 65535) ∧ (1 ≤ dp ∧ dp ≤ 65535) ∧ (0 ≤ wn ∧ wn ≤ 65535) ∧ (0 ≤ fl ∧ fl ≤ 31) ∧ n ≤ 64) := decide_eq_true_iff

theorem segPut_no (src dst : Nat) (sp dp : Int) (sq ak : Nat) (fl wn : Int) (A : Option Addr) (n c : Nat) (xs : List UInt8) (w : World) (hr : RdB w A n c xs) (hck : sgCheck sp dp fl wn n = false) :
    Calls Try.prog 15 #[.int .u32 src, .int .u32 dst, .agg #[.int .i64 sp, .int .i64 dp, .int .u32 sq, .int .u32 ak, .int .i64 fl, .int .i64 wn, .slice A n c]] w (RetBE w [] 2) := by
  have hn := hr.n63
  go_enter Try.func15, Try.ntmps15
  go_wp2_with fail
  refine (sgCheck_any sp dp sq ak fl wn A n c _ hn).mono ?_
  rintro e w1 ⟨rfl, hb1⟩
  rw [hck]
  go_wp2
  go_ret2
  exact ⟨none, 0, 0, rfl, OwnB.nilB _ _, bstep (below_self w) hb1⟩

theorem segPut_yes (src dst : Nat) (sp dp sq ak fl wn : Nat) (A : Option Addr) (n c : Nat) (xs : List UInt8) (w : World) (hsrc : src < 4294967296) (hdst : dst < 4294967296) (hq : sq < 4294967296) (ha : ak < 4294967296) (hr : RdB w A n c xs) (hck : sgCheck (sp : Int) (dp : Int) (fl : Int) (wn : Int) n = true) :
    Calls Try.prog 15 #[.int .u32 src, .int .u32 dst, .agg #[.int .i64 (sp : Int), .int .i64 (dp : Int), .int .u32 sq, .int .u32 ak, .int .i64 (fl : Int), .int .i64 (wn : Int), .slice A n c]] w (RetBE w (sgL src dst (sgH sp dp sq ak fl wn ++ xs)) 0) := by
  have hn := hr.n63
  have hl := hr.2.1
  obtain ⟨⟨g1, g2⟩, ⟨g3, g4⟩, ⟨g5, g6⟩, ⟨g7, g8⟩, g9⟩ := (sgCheck_iff _ _ _ _ _).1 hck
  have HC2 := Lib.hid (show clamp 2 = 2 from rfl)
  have HC1 := Lib.hid (show clamp 1 = 1 from rfl)
  have HC4 := Lib.hid (show clamp 4 = 4 from rfl)
  go_enter Try.func15, Try.ntmps15
  go_wp2_with fail
  refine named ?_
  intro W1 hW1
  have bW1 : Below w.heap.size w W1 := by rw [hW1]; repeat' (first | exact Below.refl _ _ | (refine Below.alloc ?_ ?_ _; rotate_left; (simp <;> omega)) | refine Below.drew ?_)
  have zW1 := bW1.size
  have P1 : SgAt W1 w.heap.size sp dp sq ak fl wn A n c := by rw [hW1]; exact row1 ..
  have HW1 := Lib.hid hW1
  clear hW1
  refine (sgCheck_any sp dp sq ak fl wn A n c W1 hn).mono ?_
  rintro e w2 ⟨rfl, hb2⟩
  rw [hck]
  have P2 := P1.below hb2 P1.lt
  have B2 := below_then bW1 hb2
  have b3 : SgB w2 (w2.alloc (.cells #[.slice none 0 0] 23)) w2.heap.size [] :=
    ⟨(below_self w2).alloc (Nat.le_refl _) _, Nat.le_refl _, by simp, by simp [go_sem], none, 0, 0, by simp [go_sem], OwnB.nilB _ _⟩
  have P3 := P2.below ((below_self w2).alloc (Nat.le_refl _) (.cells #[.slice none 0 0] 23)) P2.lt
  obtain ⟨a0, a1, a2, a3, a4, a5, a6, af⟩ := P3.cells
  clear af
  go_wp2_with fail
  clear a0 a1 a2 a3 a4 a5 a6
  refine (segput1_any sp 2 w2 _ w2.heap.size _ (by omega) (by simp [beB_length]) b3).mono ?_
  rintro e w4 ⟨rfl, b4⟩
  rw [HC2.out] at b4
  obtain ⟨a0, a1, a2, a3, a4, a5, a6, af⟩ := (P2.below b4.1 P2.lt).cells
  clear af
  go_wp2_with fail
  clear a0 a1 a2 a3 a4 a5 a6
  refine (segput1_any dp 2 w2 _ w2.heap.size _ (by omega) (by simp [beB_length]) b4).mono ?_
  rintro e w5 ⟨rfl, b5⟩
  rw [HC2.out] at b5
  obtain ⟨a0, a1, a2, a3, a4, a5, a6, af⟩ := (P2.below b5.1 P2.lt).cells
  clear af
  go_wp2_with fail
  clear a0 a1 a2 a3 a4 a5 a6
  refine (segput1_any sq 4 w2 _ w2.heap.size _ (by omega) (by simp [beB_length]) b5).mono ?_
  rintro e w6 ⟨rfl, b6⟩
  rw [HC4.out] at b6
  obtain ⟨a0, a1, a2, a3, a4, a5, a6, af⟩ := (P2.below b6.1 P2.lt).cells
  clear af
  go_wp2_with fail
  clear a0 a1 a2 a3 a4 a5 a6
  refine (segput1_any ak 4 w2 _ w2.heap.size _ (by omega) (by simp [beB_length]) b6).mono ?_
  rintro e w7 ⟨rfl, b7⟩
  rw [HC4.out] at b7
  obtain ⟨a0, a1, a2, a3, a4, a5, a6, af⟩ := (P2.below b7.1 P2.lt).cells
  clear af
  go_wp2_with fail
  clear a0 a1 a2 a3 a4 a5 a6
  refine (segput1_any 80 1 w2 _ w2.heap.size _ (by omega) (by simp [beB_length]) b7).mono ?_
  rintro e w8 ⟨rfl, b8⟩
  rw [HC1.out] at b8
  obtain ⟨a0, a1, a2, a3, a4, a5, a6, af⟩ := (P2.below b8.1 P2.lt).cells
  clear af
  go_wp2_with fail
  clear a0 a1 a2 a3 a4 a5 a6
  refine (segput1_any fl 1 w2 _ w2.heap.size _ (by omega) (by simp [beB_length]) b8).mono ?_
  rintro e w9 ⟨rfl, b9⟩
  rw [HC1.out] at b9
  obtain ⟨a0, a1, a2, a3, a4, a5, a6, af⟩ := (P2.below b9.1 P2.lt).cells
  clear af
  go_wp2_with fail
  clear a0 a1 a2 a3 a4 a5 a6
  refine (segput1_any wn 2 w2 _ w2.heap.size _ (by omega) (by simp [beB_length]) b9).mono ?_
  rintro e w10 ⟨rfl, b10⟩
  rw [HC2.out] at b10
  obtain ⟨a0, a1, a2, a3, a4, a5, a6, af⟩ := (P2.below b10.1 P2.lt).cells
  clear af
  go_wp2_with fail
  clear a0 a1 a2 a3 a4 a5 a6
  refine (segput1_any 0 4 w2 _ w2.heap.size _ (by omega) (by simp [beB_length]) b10).mono ?_
  rintro e w11 ⟨rfl, b11⟩
  rw [HC4.out] at b11
  obtain ⟨a0, a1, a2, a3, a4, a5, a6, af⟩ := (P2.below b11.1 P2.lt).cells
  clear af
  have H := b11
  rw [show [] ++ beB sp 2 ++ beB dp 2 ++ beB sq 4 ++ beB ak 4 ++ beB 80 1 ++ beB fl 1 ++ beB wn 2 ++ beB 0 4 = sgH sp dp sq ak fl wn from rfl] at H
  obtain ⟨h1, h2, h3, h4, A4, n4, c4, h7, h8⟩ := H
  have hn4 : n4 = 20 := by rw [← h8.len, sgH_length]
  subst hn4
  go_wp2_with (at_builtin; refine wp_appX (Bd := w2.heap.size + 1) rfl _ _ rfl (Below.refl (w2.heap.size + 1) w11) (by omega) (Nat.le_refl _) (by omega) A4 20 c4 _ rfl h8 A n c xs rfl (hr.below (below_then B2 h1)) (by omega) (20 + n) (sgH sp dp sq ak fl wn ++ xs) rfl rfl ?_; intro A5 c5 w5 ho5 hb5 hg5; have e5 := (hb5.cell (p := ⟨w2.heap.size, 0, none⟩) (by simp)).trans h7; have f5 := (hb5.frozen (p := ⟨w2.heap.size, 0, none⟩) (by simp)).trans h4)
  obtain ⟨V, hV⟩ : ∃ V, V = w5.setCell ⟨w2.heap.size, 0, none⟩ (.slice A5 (20 + n) c5) := ⟨_, rfl⟩
  rw [← hV]
  have cV : V.cell? ⟨w2.heap.size, 0, none⟩ = some (.slice A5 (20 + n) c5) := by rw [hV]; exact World.cell?_setCell_same _ _ _ e5
  have oV : OwnB V (w2.heap.size + 1) A5 (20 + n) c5 (sgH sp dp sq ak fl wn ++ xs) := by rw [hV]; exact own_far ho5 _ _ (by show w2.heap.size < _; omega)
  have bV : Below w2.heap.size w2 V := by rw [hV]; exact (h1.trans (hb5.mono (by omega))).setCell (Nat.le_refl _) _
  have zV : w2.heap.size + 1 ≤ V.heap.size := by rw [hV]; simp; have := hb5.size; omega
  have HV := Lib.hid hV
  clear hV e5 f5 a0 a1 a2 a3 a4 a5 a6 h7 h8 ho5 hb5 hg5
  obtain ⟨Z, hZ⟩ : ∃ Z, sgH sp dp sq ak fl wn ++ xs = Z := ⟨_, rfl⟩
  rw [hZ] at oV
  have hZl : Z.length = 20 + n := oV.len
  obtain ⟨S, hS⟩ : ∃ S, ipSumN src dst 6 Z = S := ⟨ipSumN src dst 6 Z, rfl⟩
  have hS2 : S < 65536 := by rw [← hS]; exact ipSumN_lt ..
  have wS := w64n (k := S) (by omega)
  have hfin : sgL src dst Z = Z.take 16 ++ (beB S 2 ++ Z.drop 18) := by unfold sgL; rw [hS]
  obtain ⟨ga, rfl, hga, hgl⟩ := oV.addr (by omega)
  have hc4 := oV.rd.2.2.1
  have hc63 := oV.rd.c63
  have kc1 : ¬ (c5 = 16) := by omega
  have kc2 : (20 : Int) + (n : Int) ≤ (c5 : Int) := by omega
  have kc3 : (16 : Int) ≤ 20 + (n : Int) := by omega
  rw [hZ, hfin]
  have HF := Lib.hid hfin
  have HZ := Lib.hid hZ
  have HS := Lib.hid hS
  clear hZ hS hfin
  refine wp_region_last (S := fun w' => Below (w2.heap.size + 1) V w') 8 #[true, true, true, true, true, true, true, true, false] [(0, true), (1, true), (2, true), (3, true), (4, true), (5, false), (6, true), (7, false)] (by kernel_rfl) (by kernel_rfl) (fun _ _ d _ _ h => by cases d <;> exact h) ((Below.refl _ V).drew) ?_
  iterate 5 (refine seg_take (v := ?_) rfl (Or.inl ⟨by rfl, ?_⟩) ?_; rotate_left; (focus (intro w' hw'; have j2 := (hw'.cell (p := ⟨w2.heap.size, 0, none⟩) (by show w2.heap.size < _; omega)).trans cV; go_simp <;> with_reducible rfl)); try simp only [Act.put, List.setIfInBounds_toArray, List.set_cons_zero, List.set_cons_succ])
  refine seg_run rfl (fun K hK => ?_)
  go_simp
  have hh := ipSum_any src dst 6 (some ⟨ga, 0, none⟩) (20 + n) c5 Z V.drew hsrc hdst oV.rd.drew (by omega)
  rw [HS.out] at hh
  refine hh.mono ?_
  clear hh
  rintro e v1 ⟨rfl, hb13⟩
  refine hK.out _ _ ((Below.refl _ V).drew.trans (hb13.mono (by simp; omega))) ?_
  clear hK
  try simp only [Act.put, List.setIfInBounds_toArray, List.set_cons_zero, List.set_cons_succ]
  iterate 1 (refine seg_take (v := ?_) rfl (Or.inl ⟨by rfl, ?_⟩) ?_; rotate_left; (focus (intro w' hw'; have j2 := (hw'.cell (p := ⟨w2.heap.size, 0, none⟩) (by show w2.heap.size < _; omega)).trans cV; go_simp <;> with_reducible rfl)); try simp only [Act.put, List.setIfInBounds_toArray, List.set_cons_zero, List.set_cons_succ])
  refine seg_run rfl (fun K hK => ?_)
  go_simp
  refine (be_any S 2 v1 (by omega)).mono ?_
  rintro e w14 ⟨A14, n14, c14, rfl, ho14, hb14⟩
  rw [HC2.out] at ho14
  refine hK.out _ _ (((Below.refl _ V).drew.trans (hb13.mono (by simp; omega))).trans (hb14.mono (by have := hb13.size; simp at this; omega))) ?_
  clear hK
  try simp only [Act.put, List.setIfInBounds_toArray, List.set_cons_zero, List.set_cons_succ]
  refine seg_done ?_
  refine last_run rfl (fun K hK => ?_)
  have hn14 : n14 = 2 := by rw [← ho14.len, beB_length]
  subst hn14
  have B14 : Below (w2.heap.size + 1) V w14 := ((Below.refl _ V).drew.trans (hb13.mono (by simp; omega))).trans (hb14.mono (by have := hb13.size; simp at this; omega))
  have o14 := (oV.below (undrew hb13)).below hb14
  refine op_copyB rfl _ _ rfl B14 (Nat.le_refl _) ga (20 + n) c5 Z o14 16 2 (20 + n - 16) (c5 - 16) rfl _ _ _ rfl ho14.rd (by omega) (by omega) (by omega) ?_
  intro w15 ho15 hb15
  refine hK.out _ _ ?_
  clear hK
  try simp only [Act.put, List.setIfInBounds_toArray, List.set_cons_zero, List.set_cons_succ]
  have c15 := (hb15.cell (p := ⟨w2.heap.size, 0, none⟩) (by show w2.heap.size < _; omega)).trans cV
  have B15 := below_then B2 (bV.trans (hb15.mono (by omega)))
  have z2 := B2.size
  go_wp2
  go_ret2
  have o15 := OwnB.mono ho15 (show w.heap.size ≤ w2.heap.size + 1 by omega)
  exact ⟨_, _, _, rfl, by first | exact o15 | (rw [HZ.out, HF.out]; exact o15), B15⟩

theorem segPut_any (src dst : Nat) (sp dp : Int) (sq ak : Nat) (fl wn : Int) (A : Option Addr) (n c : Nat) (xs : List UInt8) (w : World) (hsrc : src < 4294967296) (hdst : dst < 4294967296) (hq : sq < 4294967296) (ha : ak < 4294967296) (hr : RdB w A n c xs) :
    Calls Try.prog 15 #[.int .u32 src, .int .u32 dst, .agg #[.int .i64 sp, .int .i64 dp, .int .u32 sq, .int .u32 ak, .int .i64 fl, .int .i64 wn, .slice A n c]] w (RetBE w (sgPutL src dst sp dp sq ak fl wn xs) (sgPutE sp dp fl wn xs)) := by
  unfold sgPutL sgPutE
  rw [hr.2.1]
  cases hck : sgCheck sp dp fl wn n with
  | false =>
    rw [if_neg (by decide), if_neg (by decide)]
    exact segPut_no src dst sp dp sq ak fl wn A n c xs w hr hck
  | true =>
    rw [if_pos rfl, if_pos rfl]
    obtain ⟨⟨g1, g2⟩, ⟨g3, g4⟩, ⟨g5, g6⟩, ⟨g7, g8⟩, g9⟩ := (sgCheck_iff _ _ _ _ _).1 hck
    obtain ⟨p, rfl⟩ : ∃ p : Nat, sp = (p : Int) := ⟨sp.toNat, by omega⟩
    obtain ⟨d, rfl⟩ : ∃ d : Nat, dp = (d : Int) := ⟨dp.toNat, by omega⟩
    obtain ⟨f, rfl⟩ : ∃ f : Nat, fl = (f : Int) := ⟨fl.toNat, by omega⟩
    obtain ⟨v, rfl⟩ : ∃ v : Nat, wn = (v : Int) := ⟨wn.toNat, by omega⟩
    exact segPut_yes src dst p d sq ak f v A n c xs w hsrc hdst hq ha hr hck
end Go.Proofs.Ytndabecdfccjlaa
