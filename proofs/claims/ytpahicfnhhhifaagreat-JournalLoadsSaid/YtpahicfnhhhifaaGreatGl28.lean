/-
 Proved here, for the statement JournalLoads:
 Layer 14 (the document): Base, split.
 Layer 12: records (the document): body.
-/
import Derived.Test.YtpahicfnhhhifaaGreatGl27
set_option linter.unusedVariables false
set_option linter.unusedSimpArgs false
namespace Go.Proofs.YtpahicfnhhhifaaGreat
set_option maxRecDepth 20000
open Go.RowKit
set_option maxHeartbeats 4000000
theorem refBase14_any (A : Option Addr) (n c : Nat) (xs : List UInt8) (w : World) (hr : RdB w A n c xs) (hn : n ≤ 999000) :
  Calls Tryz.prog 29 #[.slice A n c] w (RetDg w (jnBase xs)) := by
 obtain ⟨D0, hD0⟩ : ∃ D0 : Array Value, #[.int .u8 0, .int .u8 0, .int .u8 0, .int .u8 0, .int .u8 0, .int .u8 0, .int .u8 0, .int .u8 0, .int .u8 0, .int .u8 0, .int .u8 0, .int .u8 0, .int .u8 0, .int .u8 0, .int .u8 0, .int .u8 0, .int .u8 0, .int .u8 0, .int .u8 0, .int .u8 0, .int .u8 0, .int .u8 0, .int .u8 0, .int .u8 0, .int .u8 0, .int .u8 0, .int .u8 0, .int .u8 0, .int .u8 0, .int .u8 0, .int .u8 0, .int .u8 0] = D0 := ⟨#[.int .u8 0, .int .u8 0, .int .u8 0, .int .u8 0, .int .u8 0, .int .u8 0, .int .u8 0, .int .u8 0, .int .u8 0, .int .u8 0, .int .u8 0, .int .u8 0, .int .u8 0, .int .u8 0, .int .u8 0, .int .u8 0, .int .u8 0, .int .u8 0, .int .u8 0, .int .u8 0, .int .u8 0, .int .u8 0, .int .u8 0, .int .u8 0, .int .u8 0, .int .u8 0, .int .u8 0, .int .u8 0, .int .u8 0, .int .u8 0, .int .u8 0, .int .u8 0], rfl⟩
 have hD0s : D0.size = 32 := by rw [← hD0]; rfl
 obtain ⟨W1, hW1⟩ : ∃ W1, W1 = w.alloc (.cells D0 30) := ⟨_, rfl⟩
 have b1 : Below w.heap.size w W1 := by rw [hW1]; exact (below_self w).alloc (Nat.le_refl _) _
 have r1 : W1.heap[w.heap.size]? = some (.cells D0 30 (0, 0)) := by rw [hW1]; exact drw_at _ rfl
 have z1 : W1.heap.size = w.heap.size + 1 := by rw [hW1]; simp
 obtain ⟨W2, hW2⟩ : ∃ W2, W2 = W1.alloc (.cells #[] 5) := ⟨_, rfl⟩
 have b2 : Below W1.heap.size W1 W2 := by rw [hW2]; exact (below_self W1).alloc (Nat.le_refl _) _
 have o2 : OwnB W2 W1.heap.size (some ⟨w.heap.size + 1, 0, none⟩) 0 0 [] := by rw [← z1, hW2]; exact own_at0 (drw_at _ rfl) (Nat.le_refl _)
 have r2 := (hr.below b1).below b2
 have HD0 := Lib.hid hD0
 have HW1 := Lib.hid hW1
 have HW2 := Lib.hid hW2
 have R1 := Lib.hid r1
 have O2 := Lib.hid o2
 have Z1 := Lib.hid z1
 have hxl := hr.2.1
 clear hD0 hW1 hW2 r1 o2 z1
 go_enter Tryz.func29, Tryz.ntmps29
 go_wp2_with (at_builtin; first
  | (rw [HD0.out, ← HW1.out, ← HW2.out]; refine wp_appB rfl _ _ rfl b2 (Nat.le_refl _) b2.size (some ⟨w.heap.size + 1, 0, none⟩) 0 0 [] rfl O2.out A n c xs rfl r2 (by omega) n xs (by omega) (by simp) ?_; intro A3 c3 w3 ho3 hb3 hg3)
  | ((refine wp_appB rfl _ _ rfl (hb3.alloc hb3.size (.cells #[.int .u8 1] 5)) (Nat.le_refl _) (by simp; have := hb3.size; omega) A3 n c3 xs rfl (OwnB.below ho3 ((below_self w3).alloc (Nat.le_refl _) _)) (some ⟨w3.heap.size, 0, none⟩) 1 1 [1] rfl (rdK rfl #[.int .u8 1] [1] 1 rfl rfl (by simp [maxLen])) (by omega) (n + 1) (xs ++ [1]) rfl rfl ?_; intro A4 c4 w4 ho4 hb4 hg4)))
 refine (refShaOf_any A4 (n + 1) c4 (xs ++ [1]) w4 ho4.rd (by omega)).mono ?_
 rintro e w5 ⟨rfl, hb5⟩
 obtain ⟨DG, hDG⟩ : ∃ DG, jnBase xs = DG := ⟨jnBase xs, rfl⟩
 rw [show shOf (xs ++ [1]) = DG from hDG, hDG]
 have hDl : DG.length = 32 := by rw [← hDG]; exact shOf_len _
 have B5 := below_then hb4 hb5
 have R5 := Lib.hid ((B5.block (w.heap.size) (by have := Z1.out; omega)).trans R1.out)
 have B6 : Below w.heap.size w w5 := below_then b1 B5
 have HDG := Lib.hid hDG
 clear hDG
 go_wp2_with (refine dig_store rfl _ _ rfl (w.heap.size) rfl DG D0 rfl 30 R5.out hDl hD0s ?_)
 refine bodyPost_ret (results_cell_row Tryz.results29 _ _ (w.heap.size) 30 (dgA DG) (0, 0) _ rfl (setRow_heap _ _ _ (dgA DG) _ _ R5.out) Tryz.underlying30 rfl (infoD DG hDl)) rfl ?_
 exact ⟨by rw [HDG.out], below_setRow B6 (by omega) _⟩
def spC (state : List UInt8) (i k : Nat) : List UInt8 := ((state.drop (256 * i)).take k ++ List.replicate 256 0).take 256
theorem spC_zero (state : List UInt8) (i : Nat) : spC state i 0 = List.replicate 256 0 := by unfold spC; simp
theorem spC_next (state : List UInt8) (i k : Nat) (hk : k < 256) (h : 256 * i + k < state.length) : (spC state i k).set k (state.getD (256 * i + k) 0) = spC state i (k + 1) := by
 unfold spC
 have h1 : ((state.drop (256 * i)).take k).length = k := by rw [List.length_take, List.length_drop]; omega
 have h2 : (state.drop (256 * i)).take (k + 1) = (state.drop (256 * i)).take k ++ [state.getD (256 * i + k) 0] := by
  rw [List.take_add_one, List.getElem?_drop, List.getElem?_eq_getElem h, List.getD_eq_getElem?_getD, List.getElem?_eq_getElem h]; rfl
 rw [h2]
 apply List.ext_getElem?
 intro j
 rw [List.getElem?_set, List.getElem?_take, List.getElem?_take, List.append_assoc]
 by_cases hj : k = j
 ·subst hj
  rw [if_pos rfl, if_pos (by simp; omega), if_pos hk, List.getElem?_append_right (by omega), h1, Nat.sub_self]; rfl
 ·rw [if_neg hj]
  by_cases hj2 : j < 256
  ·rw [if_pos hj2, if_pos hj2]
   rcases Nat.lt_or_ge j k with hl | hl
   ·rw [List.getElem?_append_left (by omega), List.getElem?_append_left (by omega)]
   ·rw [List.getElem?_append_right (by omega), List.getElem?_append_right (by omega), h1]
    obtain ⟨q, hq⟩ : ∃ q, j - k = q + 1 := ⟨j - k - 1, by omega⟩
    rw [hq, List.singleton_append, List.getElem?_cons_succ, List.getElem?_replicate, List.getElem?_replicate, if_pos (by omega), if_pos (by omega)]
  ·rw [if_neg hj2, if_neg hj2]
theorem spC_all (state : List UInt8) (i k : Nat) (h : k = 256 ∨ 256 * i + k = state.length) (hk : k ≤ 256) : spC state i k = jnSec state i := by
 rcases h with rfl | h
 ·rfl
 ·unfold spC jnSec
  have : (state.drop (256 * i)).take k = (state.drop (256 * i)).take 256 := by
   rw [List.take_of_length_le (by rw [List.length_drop]; omega), List.take_of_length_le (by rw [List.length_drop]; omega)]
  rw [this]
def Sp14I (w : World) (at0 M : Nat) (state : List UInt8) (vo vi vb vk : Value) (wr : World) : Prop := ∃ (i : Nat) (A : Option Addr) (c : Nat), i ≤ M ∧ vo = .slice A i c ∧ vi = .int .i64 (i : Int) ∧ Hid (OwJ wr w.heap.size A i c (jnSplitK state (at0 : Int) i)) ∧ Below w.heap.size w wr
def Sp14K (W : World) (g i : Nat) (state : List UInt8) (vk : Value) (wr : World) : Prop := ∃ k : Nat, k ≤ 256 ∧ 256 * i + k ≤ state.length ∧ vk = .int .i64 (k : Int) ∧ OwnB wr g (some ⟨g, 0, none⟩) 256 256 (spC state i k) ∧ Below W.heap.size W wr
theorem refSplit14_any (A : Option Addr) (L c : Nat) (state : List UInt8) (slot : Int) (w : World) (hr : RdB w A L c state) (hL : L ≤ 100000) :
  Calls Tryz.prog 60 #[.slice A L c, .int .i64 slot] w (RetJs w (jnSplit state slot)) := by
 obtain ⟨at0, hat⟩ : ∃ k : Nat, (if slot = 0 then (2 : Int) else 50) = (k : Int) := by
  by_cases h : slot = 0
  ·exact ⟨2, by rw [if_pos h]; rfl⟩
  ·exact ⟨50, by rw [if_neg h]; rfl⟩
 have hat50 : at0 ≤ 50 := by
  by_cases h : slot = 0
  ·rw [if_pos h] at hat; omega
  ·rw [if_neg h] at hat; omega
 obtain ⟨M, hM⟩ : ∃ M, M = (L + 255) / 256 := ⟨_, rfl⟩
 have hM4 : M ≤ 500 := by omega
 have hsl := hr.2.1
 have heq : jnSplit state slot = jnSplitK state (at0 : Int) M := by unfold jnSplit; rw [hat, hsl, hM]
 rw [heq]
 have HP := Lib.hid (refsuPlace_any slot)
 rw [hat] at HP
 have HR := Lib.hid hr
 have HSL := Lib.hid hsl
 have HM := Lib.hid hM
 clear heq hat hr hsl hM
 go_enter Tryz.func60, Tryz.ntmps60
 go_wp2_with fail
 refine (HP.out w).mono ?_
 rintro e w1 ⟨rfl, rfl⟩
 go_wp2_with fail
 go_loopw [5, 7, 8, 9] (Sp14I w at0 M state) (fun _ i _ _ _ => M - (intOf i).toNat)
 case atStart => exact ⟨0, none, 0, by omega, rfl, rfl, Lib.hid (owJ_nil _ _), Below.refl _ _⟩
 case round =>
 obtain ⟨i, A5, c5, hi, rfl, rfl, hO, hB⟩ := hrel
 obtain ⟨W0, rfl⟩ : ∃ z, z = wr := ⟨wr, rfl⟩
 have HBo := Lib.hid hB
 have wi : IntKind.i64.wrap (256 * (i : Int)) = 256 * (i : Int) := IntWalk.i64_in _ (by omega)
 have wi1 : IntKind.i64.wrap ((i : Int) + 1) = (i : Int) + 1 := IntWalk.i64_in _ (by omega)
 by_cases hlt : 256 * i < L
 ·have l1 : 256 * (i : Int) < (L : Int) := by omega
  have d1 : decide (256 * (i : Int) < (L : Int)) = true := decide_eq_true l1
  have hiM : i < M := by have := HM.out; omega
  clear hB
  go_wp2_with (refine wp_makeK rfl _ _ rfl .i64 .i64 256 rfl rfl (by omega) W0.heap.size rfl ?_; intro w3 o3 b3)
  go_loopw [9] (Sp14K W0 W0.heap.size i state) (fun k _ => 256 - (intOf k).toNat)
  case atStart => exact ⟨0, by omega, by have := HSL.out; omega, rfl, by rw [spC_zero]; exact o3, b3⟩
  case round =>
  clear o3 b3
  obtain ⟨k, hk, hkL, rfl, oK, bK⟩ := hrel
  have HBk := Lib.hid bK
  by_cases hk2 : k < 256 ∧ 256 * i + k < L
  ·obtain ⟨hk1, hk2⟩ := hk2
   have l2 : (k : Int) < 256 := by omega
   have d2 : decide ((k : Int) < 256) = true := decide_eq_true l2
   have wk : IntKind.i64.wrap (256 * (i : Int) + (k : Int)) = ((256 * i + k : Nat) : Int) := by rw [IntWalk.i64_in _ (by omega)]; omega
   have wk1 : IntKind.i64.wrap ((k : Int) + 1) = (k : Int) + 1 := IntWalk.i64_in _ (by omega)
   have l3 : ((256 * i + k : Nat) : Int) < (L : Int) := by omega
   have d3 : decide (((256 * i + k : Nat) : Int) < (L : Int)) = true := decide_eq_true l3
   obtain ⟨b, o, v, rfl, hb, hv, hcell⟩ := ((HR.out.below HBo.out).below bK).at_ (256 * i + k) hk2
   obtain ⟨u, hu, hcell2⟩ := oK.cell_ k hk1
   have hfree := oK.free k
   have hnx := spC_next state i k hk1 (by rw [HSL.out]; exact hk2)
   rw [List.getD_eq_getElem?_getD, hv, Option.getD_some] at hnx
   have HNX := Lib.hid hnx
   have OK := Lib.hid oK
   have hk1' : ¬ (256 : Int) ≤ (k : Int) := by omega
   clear hnx hu oK bK hv
   go_wp2_with fail
   go_roundw
   case rel => exact ⟨k + 1, by omega, by rw [HSL.out]; omega, by rw [Int.natCast_add]; rfl, by rw [← HNX.out]; exact OK.out.set_ k v, HBk.out.setCell (Nat.le_refl _) _⟩
   case measure => simp [intOf]; omega
  ·have hsec := spC_all state i k (by have := HSL.out; omega) hk
   rw [hsec] at oK
   have OK := Lib.hid oK
   have O2 := Lib.hid (hO.out.below HBk.out)
   obtain ⟨us, u1, u2⟩ := O2.out
   have hz := HBk.out.size
   have wat : IntKind.i64.wrap ((at0 : Int) + (i : Int)) = (at0 : Int) + (i : Int) := IntWalk.i64_in _ (by omega)
   have U1 := Lib.hid u1
   have U2 := Lib.hid u2
   have hz0 := HBo.out.size
   have hjk := jnSplitK_snoc state (at0 : Int) i
   have HJK := Lib.hid hjk
   have al := (below_self wr).alloc (Nat.le_refl _) (.cells #[.int .i64 ((at0 : Int) + (i : Int)), .slice (some ⟨W0.heap.size, 0, none⟩) 256 256] 60)
   have UA := Lib.hid (down_keep U1.out al)
   have UP := Lib.hid (U2.out.keep (fun A n c xs hx => OwnB.below hx al))
   have SK := Lib.hid (show OwnB _ w.heap.size _ _ _ _ from OwnB.mono (OwnB.below OK.out al) hz0)
   have BA := Lib.hid ((HBo.out.trans (HBk.out.mono hz0)).trans (al.mono (by omega)))
   clear hjk u1 u2 oK bK hsec hO al
   rcases (show (k : Int) < 256 ∧ ¬ ((256 * i + k : Nat) : Int) < (L : Int) ∨ ¬ (k : Int) < 256 by omega) with ⟨l2, l3⟩ | l2
   ·have d2 : decide ((k : Int) < 256) = true := decide_eq_true l2
    have wk : IntKind.i64.wrap (256 * (i : Int) + (k : Int)) = ((256 * i + k : Nat) : Int) := by rw [IntWalk.i64_in _ (by omega)]; omega
    have d3 : decide (((256 * i + k : Nat) : Int) < (L : Int)) = false := decide_eq_false l3
    go_wp2_with (at_builtin; refine wp_appJ rfl _ _ rfl w.heap.size _ i us rfl UA.out (some ⟨wr.heap.size, 0, none⟩) 1 1 [.int .i64 ((at0 : Int) + (i : Int)), .slice (some ⟨W0.heap.size, 0, none⟩) 256 256] rfl (Rd.new wr _ _) rfl (by intro u hu; simp at hu; rcases hu with rfl | rfl <;> rfl) (by omega) (by simp; omega) (i + 1) _ rfl rfl ?_; intro A7 c7 w7 o7 g7)
    have J7 := Lib.hid (OwJ.app UA.out UP.out o7 g7 SK.out (by omega))
    have B7 := Lib.hid (BA.out.grown g7 (by simp; omega) (fun q hq => (UA.out.lt q hq).1))
    clear o7 g7
    go_wp2_with fail
    go_roundw
    case rel => exact ⟨i + 1, A7, c7, by omega, rfl, by rw [Int.natCast_add]; rfl, Lib.hid (by rw [HJK.out]; exact J7.out), B7.out⟩
    case measure => simp [intOf]; omega
   ·have d2 : decide ((k : Int) < 256) = false := decide_eq_false l2
    go_wp2_with (at_builtin; refine wp_appJ rfl _ _ rfl w.heap.size _ i us rfl UA.out (some ⟨wr.heap.size, 0, none⟩) 1 1 [.int .i64 ((at0 : Int) + (i : Int)), .slice (some ⟨W0.heap.size, 0, none⟩) 256 256] rfl (Rd.new wr _ _) rfl (by intro u hu; simp at hu; rcases hu with rfl | rfl <;> rfl) (by omega) (by simp; omega) (i + 1) _ rfl rfl ?_; intro A7 c7 w7 o7 g7)
    have J7 := Lib.hid (OwJ.app UA.out UP.out o7 g7 SK.out (by omega))
    have B7 := Lib.hid (BA.out.grown g7 (by simp; omega) (fun q hq => (UA.out.lt q hq).1))
    clear o7 g7
    go_wp2_with fail
    go_roundw
    case rel => exact ⟨i + 1, A7, c7, by omega, rfl, by rw [Int.natCast_add]; rfl, Lib.hid (by rw [HJK.out]; exact J7.out), B7.out⟩
    case measure => simp [intOf]; omega
 ·obtain rfl : i = M := by have := HM.out; omega
  have l1 : ¬ 256 * (i : Int) < (L : Int) := by omega
  have d1 : decide (256 * (i : Int) < (L : Int)) = false := decide_eq_false l1
  clear hB
  go_wp2_with fail
  go_ret
  exact ⟨A5, i, c5, rfl, hO.out, HBo.out⟩
set_option maxHeartbeats 8000000
theorem rcBody_eq2 (r : Rc) (kn n : Nat) (hk : r.k = (kn : Int)) (hn : r.b.length = n) (M : Nat) (hM : M = 34 + n) :
  [80, 72, 82, 67] ++ leB r.g 4 ++ leB r.s 4 ++ leB r.m 4 ++ leB r.t 8 ++ [UInt8.ofNat kn, UInt8.ofNat n] ++ leB r.c 8 ++ r.b ++ List.replicate (220 - M) 0 = rcBody r := by
 subst hM
 unfold rcBody
 rw [hk, Int.toNat_natCast, hn, show 220 - (34 + n) = 186 - n by omega]
 simp only [List.append_assoc, List.cons_append, List.nil_append]
theorem refBody_any (r : Rc) (A : Option Addr) (n c : Nat) (w : World) (hok : r.ok) (hchk : r.chk = true) (hr : RdB w A n c r.b) :
  Calls Tryz.prog 94 #[.agg (rcV r A n c).toArray] w (RetB w (rcBody r)) := by
 have hn63 := hr.n63
 have hl := hr.2.1
 obtain ⟨hb_, hk1, hk3, hcc⟩ := rcChk_len hchk
 obtain ⟨kn, hkn⟩ : ∃ j : Nat, r.k = (j : Int) := ⟨r.k.toNat, by omega⟩
 obtain ⟨hgl, hsl, hml, htl, -, hcl, hD⟩ := hok
 have hn180 : n ≤ 180 := by omega
 have hfin := rcBody_eq2 r kn n hkn hl (34 + n) rfl
 have wk : IntKind.u8.wrap (kn : Int) = ((UInt8.ofNat kn).toNat : Int) := by rw [UInt8.toNat_ofNat', IntKind.wrap_u8]; omega
 have wn : IntKind.u8.wrap (n : Int) = ((UInt8.ofNat n).toNat : Int) := by rw [UInt8.toNat_ofNat', IntKind.wrap_u8]; omega
 have wg := w64n (k := r.g) (by omega)
 have ws := w64n (k := r.s) (by omega)
 have wm := w64n (k := r.m) (by omega)
 obtain ⟨V, hV⟩ : ∃ V, V = w.alloc (.cells (rcV r A n c).toArray 90) := ⟨_, rfl⟩
 have bV : Below w.heap.size w V := by rw [hV]; exact (below_self w).alloc (Nat.le_refl _) _
 have rV := hr.below bV
 have zV : V.heap.size = w.heap.size + 1 := by rw [hV]; simp
 have Q := Lib.hid (show RcAt V w.heap.size r A n c by rw [hV]; exact rw_at _ rfl)
 have k0 := (Q.out.up ((below_self V).alloc (Nat.le_refl _) (.cells #[.int .u8 80, .int .u8 72, .int .u8 82, .int .u8 67] 5))).c0
 obtain ⟨R1, hR1⟩ : ∃ z, z = (rcV r A n c).toArray := ⟨_, rfl⟩
 rw [← hR1] at hV ⊢
 rw [hV] at k0
 have HV := Lib.hid hV
 have HFIN := Lib.hid hfin
 have HK := Lib.hid hkn
 clear hV hR1 hfin hkn hchk
 go_enter Tryz.func94, Tryz.ntmps94
 go_wp2_with fail
 rw [← HV.out]
 refine named ?_
 intro W1 hW1
 have bW1 : Below V.heap.size V W1 := by rw [hW1]; repeat' (first | exact Below.refl _ _ | (refine Below.alloc ?_ ?_ _; rotate_left; (simp <;> omega)) | refine Below.drew ?_)
 have zW1 := bW1.size
 have HW1 := Lib.hid hW1
 clear hW1
 have o1 : OwnB W1 V.heap.size (some ⟨w.heap.size + 1, 0, none⟩) 4 4 [80, 72, 82, 67] := by rw [HW1.out, ← zV]; exact OwnB.lit _ _ _ _ rfl rfl (by simp [maxLen])
 have b1 : Below V.heap.size V W1 := by rw [HW1.out]; exact (below_self V).alloc (Nat.le_refl _) _
 refine (refLe_any r.g 4 W1 (by omega)).mono ?_
 rw [show clamp 4 = 4 from rfl]
 rintro e u1 ⟨E1, n1, d1, rfl, le1, hb1⟩
 obtain rfl : n1 = 4 := by rw [← le1.len, leB_length]
 have B1 := below_then b1 hb1
 go_wp2_with (at_builtin; refine wp_appB rfl _ _ rfl B1 (Nat.le_refl _) B1.size (some ⟨w.heap.size + 1, 0, none⟩) 4 4 ([80, 72, 82, 67]) rfl (o1.below hb1) E1 4 d1 (leB r.g 4) rfl le1.rd (by omega) 8 ([80, 72, 82, 67] ++ leB r.g 4) rfl rfl ?_; intro X1 y1 z1 ao1 ab1 ag1; have jc1 := (Q.out.up ab1).c1)
 refine (refLe_any r.s 4 z1 (by omega)).mono ?_
 rw [show clamp 4 = 4 from rfl]
 rintro e u2 ⟨E2, n2, d2, rfl, le2, hb2⟩
 obtain rfl : n2 = 4 := by rw [← le2.len, leB_length]
 have B2 := below_then ab1 hb2
 go_wp2_with (at_builtin; refine wp_appB rfl _ _ rfl B2 (Nat.le_refl _) B2.size X1 8 y1 ([80, 72, 82, 67] ++ leB r.g 4) rfl (ao1.below hb2) E2 4 d2 (leB r.s 4) rfl le2.rd (by omega) 12 ([80, 72, 82, 67] ++ leB r.g 4 ++ leB r.s 4) rfl rfl ?_; intro X2 y2 z2 ao2 ab2 ag2; have jc2 := (Q.out.up ab2).c2)
 refine (refLe_any r.m 4 z2 (by omega)).mono ?_
 rw [show clamp 4 = 4 from rfl]
 rintro e u3 ⟨E3, n3, d3, rfl, le3, hb3⟩
 obtain rfl : n3 = 4 := by rw [← le3.len, leB_length]
 have B3 := below_then ab2 hb3
 go_wp2_with (at_builtin; refine wp_appB rfl _ _ rfl B3 (Nat.le_refl _) B3.size X2 12 y2 ([80, 72, 82, 67] ++ leB r.g 4 ++ leB r.s 4) rfl (ao2.below hb3) E3 4 d3 (leB r.m 4) rfl le3.rd (by omega) 16 ([80, 72, 82, 67] ++ leB r.g 4 ++ leB r.s 4 ++ leB r.m 4) rfl rfl ?_; intro X3 y3 z3 ao3 ab3 ag3; have jc3 := (Q.out.up ab3).c3)
 refine (refLe_any r.t 8 z3 (by omega)).mono ?_
 rw [show clamp 8 = 8 from rfl]
 rintro e u4 ⟨E4, n4, d4, rfl, le4, hb4⟩
 obtain rfl : n4 = 8 := by rw [← le4.len, leB_length]
 have B4 := below_then ab3 hb4
 go_wp2_with (first
  | (at_builtin; refine wp_appB rfl _ _ rfl (ab4.alloc ab4.size _) (Nat.le_refl _) (by have := ab4.size; simp; omega) X4 24 y4 ([80, 72, 82, 67] ++ leB r.g 4 ++ leB r.s 4 ++ leB r.m 4 ++ leB r.t 8) rfl (ao4.alloc _) (some ⟨z4.heap.size, 0, none⟩) 2 2 [UInt8.ofNat kn, UInt8.ofNat n] rfl (rdK rfl _ _ _ (by rfl) rfl (by simp [maxLen])) (by omega) 26 ([80, 72, 82, 67] ++ leB r.g 4 ++ leB r.s 4 ++ leB r.m 4 ++ leB r.t 8 ++ [UInt8.ofNat kn, UInt8.ofNat n]) rfl rfl ?_; intro X9 y9 z9 ao9 ab9 ag9; have jc5 := (Q.out.up ab9).c5)
  | (at_builtin; refine wp_appB rfl _ _ rfl B4 (Nat.le_refl _) B4.size X3 16 y3 ([80, 72, 82, 67] ++ leB r.g 4 ++ leB r.s 4 ++ leB r.m 4) rfl (ao3.below hb4) E4 8 d4 (leB r.t 8) rfl le4.rd (by omega) 24 ([80, 72, 82, 67] ++ leB r.g 4 ++ leB r.s 4 ++ leB r.m 4 ++ leB r.t 8) rfl rfl ?_; intro X4 y4 z4 ao4 ab4 ag4; have jc4 := (Q.out.up ab4).c4; have jc6 := (Q.out.up ab4).c6; rw [HK.out] at jc4))
 refine (refLe_any r.c 8 z9 (by omega)).mono ?_
 rw [show clamp 8 = 8 from rfl]
 rintro e u5 ⟨E5, n5, d5, rfl, le5, hb5⟩
 obtain rfl : n5 = 8 := by rw [← le5.len, leB_length]
 have B5 := below_then ab9 hb5
 go_wp2_with (first
  | (at_builtin; refine wp_appZ rfl _ _ rfl ab11 (Nat.le_refl _) ab11.size X11 (34 + n) y11 ([80, 72, 82, 67] ++ leB r.g 4 ++ leB r.s 4 ++ leB r.m 4 ++ leB r.t 8 ++ [UInt8.ofNat kn, UInt8.ofNat n] ++ leB r.c 8 ++ r.b) rfl ao11 (220 - (34 + n)) .i64 _ rfl (by omega) (by omega) 220 (rcBody r) (by omega) HFIN.out ?_; intro X12 y12 z12 ao12 ab12 ag12)
  | (at_builtin; refine wp_appB rfl _ _ rfl ab10 (Nat.le_refl _) ab10.size X10 34 y10 ([80, 72, 82, 67] ++ leB r.g 4 ++ leB r.s 4 ++ leB r.m 4 ++ leB r.t 8 ++ [UInt8.ofNat kn, UInt8.ofNat n] ++ leB r.c 8) rfl ao10 A n c r.b rfl (rV.below ab10) (by omega) (34 + n) ([80, 72, 82, 67] ++ leB r.g 4 ++ leB r.s 4 ++ leB r.m 4 ++ leB r.t 8 ++ [UInt8.ofNat kn, UInt8.ofNat n] ++ leB r.c 8 ++ r.b) rfl rfl ?_; intro X11 y11 z11 ao11 ab11 ag11)
  | (at_builtin; refine wp_appB rfl _ _ rfl B5 (Nat.le_refl _) B5.size X9 26 y9 ([80, 72, 82, 67] ++ leB r.g 4 ++ leB r.s 4 ++ leB r.m 4 ++ leB r.t 8 ++ [UInt8.ofNat kn, UInt8.ofNat n]) rfl (ao9.below hb5) E5 8 d5 (leB r.c 8) rfl le5.rd (by omega) 34 ([80, 72, 82, 67] ++ leB r.g 4 ++ leB r.s 4 ++ leB r.m 4 ++ leB r.t 8 ++ [UInt8.ofNat kn, UInt8.ofNat n] ++ leB r.c 8) rfl rfl ?_; intro X10 y10 z10 ao10 ab10 ag10; have jc6 := (Q.out.up ab10).c6))
 go_ret
 exact ⟨_, _, _, rfl, OwnB.mono ao12 bV.size, below_then bV ab12⟩
set_option maxHeartbeats 8000000
theorem refPut12_no (r : Rc) (A : Option Addr) (n c : Nat) (w : World) (hr : RdB w A n c r.b) (hchk : r.chk = false) :
  Calls Tryz.prog 53 #[.agg (rcV r A n c).toArray] w (RetBE w [] 2) := by
 have hn := hr.n63
 have hl := hr.2.1
 obtain ⟨V, hV⟩ : ∃ V, V = w.alloc (.cells (rcV r A n c).toArray 90) := ⟨_, rfl⟩
 have bV : Below w.heap.size w V := by rw [hV]; exact (below_self w).alloc (Nat.le_refl _) _
 have q : RcAt V w.heap.size r A n c := by rw [hV]; exact rw_at _ rfl
 have hc := refCheck12_any r.t r.k r.c A n c V hn
 rw [show rcChk r.k r.c n = false by rw [← hl]; exact hchk] at hc
 have a3 := q.c3
 have a4 := q.c4
 have a5 := q.c5
 have a6 := q.c6
 rw [hV] at a3 a4 a5 a6
 have HC := Lib.hid hc
 have HV := Lib.hid hV
 obtain ⟨RV, hRV⟩ : ∃ z, z = (rcV r A n c).toArray := ⟨_, rfl⟩
 rw [← hRV] at HV a3 a4 a5 a6 ⊢
 clear hV hc q hRV hchk
 go_enter Tryz.func53, Tryz.ntmps53
 go_wp2_with fail
 rw [← HV.out]
 refine HC.out.mono ?_
 rintro e w2 ⟨rfl, hb2⟩
 clear a3 a4 a5 a6
 go_wp2
 go_ret2
 exact ⟨none, 0, 0, rfl, OwnB.nilB _ _, below_then bV hb2⟩
theorem refPut12_yes (r : Rc) (A : Option Addr) (n c : Nat) (w : World) (hok : r.ok) (hr : RdB w A n c r.b) (hchk : r.chk = true) :
  Calls Tryz.prog 53 #[.agg (rcV r A n c).toArray] w (RetBE w (rcL r) 0) := by
 have hn := hr.n63
 have hl := hr.2.1
 have hD := hok.2.2.2.2.2.2
 have hb186 := (rcChk_len hchk).1
 obtain ⟨V, hV⟩ : ∃ V, V = w.alloc (.cells (rcV r A n c).toArray 90) := ⟨_, rfl⟩
 have bV : Below w.heap.size w V := by rw [hV]; exact (below_self w).alloc (Nat.le_refl _) _
 have q : RcAt V w.heap.size r A n c := by rw [hV]; exact rw_at _ rfl
 have hc := refCheck12_any r.t r.k r.c A n c V hn
 rw [show rcChk r.k r.c n = true by rw [← hl]; exact hchk] at hc
 have a3 := q.c3
 have a4 := q.c4
 have a5 := q.c5
 have a6 := q.c6
 rw [hV] at a3 a4 a5 a6
 have HC := Lib.hid hc
 have HV := Lib.hid hV
 have Q := Lib.hid q
 have HLn := Lib.hid (fun W (h : RdB W A n c r.b) => refBody_any r A n c W hok hchk h)
 have hb186' : r.b.length ≤ 186 := by omega
 have HBD := Lib.hid (rcBody_len r hb186')
 have HLD := Lib.hid hD
 obtain ⟨RV, hRV⟩ : ∃ z, z = (rcV r A n c).toArray := ⟨_, rfl⟩
 have HRV := Lib.hid hRV
 rw [← hRV] at HV a3 a4 a5 a6 HLn ⊢
 clear hV hc q hRV hchk hok hD
 go_enter Tryz.func53, Tryz.ntmps53
 go_wp2_with fail
 rw [← HV.out]
 refine HC.out.mono ?_
 rintro e w2 ⟨rfl, hb2⟩
 have B2 := below_then bV hb2
 have Q2 := Lib.hid (Q.out.up hb2)
 clear a3 a4 a5 a6
 go_wp2_with fail
 refine wp_region_seg (S := fun w' => Below w2.heap.size w2 w') 0 (brw9 8 255) [(0, true), (2, true), (3, true), (1, false), (4, false), (5, false), (6, true), (7, true)] (by kernel_rfl) (by kernel_rfl) (fun _ _ d _ _ h => by first | (cases d <;> exact h) | cases h.1) ((Below.refl w2.heap.size w2).drew) ?_
 have HB := (Below.refl w2.heap.size w2).drew
 refine seg_take (v := .agg RV) rfl (Or.inl ⟨by rfl, fun w' hw' => ?_⟩) ?_
 focus (exact rex_load rfl rfl (HRV.out ▸ load_rc (rw_up Q2.out hw') HLD.out))
 try simp only [Act.put, pst3]
 iterate 2 (refine seg_take (v := ?_) rfl (Or.inl ⟨by rfl, ?_⟩) ?_; rotate_left; (focus (intro w' hw'; go_simp <;> with_reducible rfl)); try simp only [Act.put, pst3])
 refine seg_run rfl (fun K hK => ?_)
 go_simp
 refine (HLn.out _ (hr.below (below_then B2 HB))).mono ?_
 rintro e_ w3 ⟨gb, nb, db, rfl, rb, hb3⟩
 obtain rfl : nb = 220 := by rw [← rb.len, HBD.out]
 have HB0 := HB.size
 have HB := below_then HB hb3
 refine hK.out _ _ (HB) ?_
 clear hK
 try simp only [Act.put, pst3]
 refine seg_run rfl (fun K hK => ?_)
 rw [if_pos (by rfl)]
 refine op_appB _ _ rfl HB (Nat.le_refl _) HB.size gb 220 db (rcBody r) rfl (rb.mono HB0) (some ⟨w.heap.size, 7, none⟩) 32 32 r.D rfl ((Q2.out.dig HLD.out).below HB) (by omega) 252 (rcBody r ++ r.D) rfl rfl ?_
 intro AJ cJ wJ oJ HJb HJg
 have HB := HJb
 refine hK.out _ _ (HB) ?_
 clear hK
 try simp only [Act.put, pst3]
 refine seg_run rfl (fun K hK => ?_)
 go_simp
 refine (refClosed_any AJ 252 cJ _ _ oJ.rd (by omega)).mono ?_
 rintro e_ wC ⟨AC, nC, cC, rfl, oC, HCb⟩
 have HB0 := HB.size
 have HB := below_then HB HCb
 refine hK.out _ _ (HB) ?_
 clear hK
 try simp only [Act.put, pst3]
 iterate 2 (refine seg_take (v := ?_) rfl (Or.inl ⟨by rfl, ?_⟩) ?_; rotate_left; (focus (intro w' hw'; go_simp <;> with_reducible rfl)); try simp only [Act.put, pst3])
 refine seg_done (fun _ => ?_)
 refine wpAnyH_done (by kernel_rfl) ?_ _
 go_wp2
 go_ret2
 have zz := B2.size
 refine ⟨_, _, _, rfl, ?_, below_then B2 HB⟩
 show OwnB wC w.heap.size AC nC cC (crcClosed (rcBody r ++ r.D))
 exact OwnB.mono oC (by omega)
theorem refPut12_any (r : Rc) (A : Option Addr) (n c : Nat) (w : World) (hok : r.ok) (hr : RdB w A n c r.b) :
  Calls Tryz.prog 53 #[.agg (rcV r A n c).toArray] w (RetBE w (rcPutL r) (rcPutE r)) := by
 unfold rcPutL rcPutE
 cases h : r.chk with
 | false => rw [if_neg (by decide), if_neg (by decide)]; exact refPut12_no r A n c w hr h
 | true => rw [if_pos rfl, if_pos rfl]; exact refPut12_yes r A n c w hok hr h
set_option maxHeartbeats 8000000
theorem refFollow12_err (hGet : ∀ (A : Option Addr) (n c : Nat) (xs : List UInt8) (w : World), RdB w A n c xs → Calls Tryz.prog 118 #[.slice A n c] w (RetRc w (rcGet xs) (rcGetE xs))) (P : List UInt8) (hP : P.length = 32) (g s : Nat) (A : Option Addr) (n c : Nat) (xs : List UInt8) (w : World) (hr : RdB w A n c xs) (hE0 : rcGetE xs ≠ 0) :
  Calls Tryz.prog 77 #[.agg (dgA P), .int .u32 (g : Int), .int .u32 (s : Int), .slice A n c] w (RetRc w rcZ (rcGetE xs)) := by
 have hn := hr.n63
 have hL := hr.2.1
 have hc := hr.2.2.1
 obtain ⟨V, hV⟩ : ∃ V, V = (w.alloc (.cells (dgA P) 30)).alloc (.cells zz3 90) := ⟨_, rfl⟩
 have bV : Below w.heap.size w V := by rw [hV]; exact ((below_self w).alloc (Nat.le_refl _) _).alloc (by simp) _
 have zV : V.heap.size = w.heap.size + 2 := by rw [hV]; simp
 have QP : Hid (V.heap[w.heap.size]? = some (.cells (dgA P) 30 (0, 0))) := by rw [hV]; exact Lib.hid (rw_old _ (rw_at _ rfl))
 have Q : Hid (RcAt V (w.heap.size + 1) rcZ none 0 0) := by rw [hV]; exact Lib.hid (zeroAt (by simp))
 have HV := Lib.hid hV
 have hG := hGet A n c xs V (hr.below bV)
 obtain ⟨hok9, hb9⟩ := rcGet_okk xs
 obtain ⟨E, hE⟩ : ∃ E, rcGetE xs = E := ⟨_, rfl⟩
 obtain ⟨R, hR⟩ : ∃ R, rcGet xs = R := ⟨_, rfl⟩
 rw [hE, hR] at hG
 rw [hR] at hok9
 have n0 : ¬ (E = 0) := by rw [← hE]; exact hE0
 have n1 : (E != 0) = true := bne_iff_ne.2 n0
 have HG := Lib.hid hG
 have HE := Lib.hid hE
 have HR := Lib.hid hR
 have HRD := Lib.hid hok9.2.2.2.2.2.2
 have HP := Lib.hid hP
 have ZV := Lib.hid zV
 have HB9 := Lib.hid hb9
 clear hV hG hE hR hP zV hb9
 go_enter Tryz.func77, Tryz.ntmps77
 go_wp2_with fail
 rw [← HV.out]
 refine HG.out.mono ?_
 rintro e w3 ⟨A4, n4, c4, rfl, hRb, hRf, hb3⟩
 have Q3 := Lib.hid (Q.out.up hb3)
 obtain ⟨Z3, hZ3⟩ : ∃ W, W = w3.alloc (.cells zz3 90) := ⟨_, rfl⟩
 have QZ : Hid (RcAt Z3 w3.heap.size rcZ none 0 0) := by rw [hZ3]; exact Lib.hid (zeroAt rfl)
 have bZ : Below w3.heap.size w3 Z3 := by rw [hZ3]; exact (below_self _).alloc (Nat.le_refl _) _
 obtain ⟨X, hX⟩ : ∃ W, W = Z3.setRow w3.heap.size (rcV R A4 n4 c4).toArray := ⟨_, rfl⟩
 have bX : Below w3.heap.size w3 X := by rw [hX]; exact below_setRow bZ (Nat.le_refl _) _
 have QX : Hid (RcAt X w3.heap.size R A4 n4 c4) := by rw [hX]; exact Lib.hid QZ.out.setRow
 have QR : Hid (RcAt X (w.heap.size + 1) rcZ none 0 0) := Lib.hid (Q3.out.up bX)
 have QP := Lib.hid (rw_up QP.out (below_then hb3 bX))
 have B := below_then (below_then bV hb3) bX
 have hrX := hr.below B
 have hRbX := hRb.below bX
 have z3 := hb3.size
 have k0 := RcAt.c0 QX.out
 have k1 := RcAt.c1 QX.out
 rw [hX] at k0 k1
 have HX3 := Lib.hid hX
 have HZ3 := Lib.hid hZ3
 clear hX hZ3
 clear hE0
 go_wp2_with (first | (rw [← HZ3.out]; refine rc_store rfl _ _ rfl rfl rfl QZ.out HRD.out rcZD ?_) | (rw [← HX3.out]; refine rc_store rfl _ _ rfl rfl (r := rcZ) (A := none) (n := 0) (c := 0) (congrArg Value.agg zeroRc) QR.out rcZD rcZD ?_))
 refine bodyPost_ret (rresults_row_tmp Tryz.results77 _ _ (w.heap.size + 1) 90 _ (0, 0) _ rfl (RcAt.setRow (r' := rcZ) (A' := none) (n' := 0) (c' := 0) QR.out) Tryz.underlying90 rfl (rcInfo rcZ none 0 0 rcZD)) rfl ?_
 exact ⟨none, 0, 0, by rw [HE.out]; rfl, RdB.nilB _, fun h => absurd h (Nat.lt_irrefl 0), below_setRow (B) (by omega) _⟩
theorem refFollow12_gen (hGet : ∀ (A : Option Addr) (n c : Nat) (xs : List UInt8) (w : World), RdB w A n c xs → Calls Tryz.prog 118 #[.slice A n c] w (RetRc w (rcGet xs) (rcGetE xs))) (P : List UInt8) (hP : P.length = 32) (g s : Nat) (A : Option Addr) (n c : Nat) (xs : List UInt8) (w : World) (hr : RdB w A n c xs) (hE0 : rcGetE xs = 0) (hne : (rcGet xs).g ≠ g) :
  Calls Tryz.prog 77 #[.agg (dgA P), .int .u32 (g : Int), .int .u32 (s : Int), .slice A n c] w (RetRc w rcZ 120) := by
 have hn := hr.n63
 have hL := hr.2.1
 have hc := hr.2.2.1
 obtain ⟨V, hV⟩ : ∃ V, V = (w.alloc (.cells (dgA P) 30)).alloc (.cells zz3 90) := ⟨_, rfl⟩
 have bV : Below w.heap.size w V := by rw [hV]; exact ((below_self w).alloc (Nat.le_refl _) _).alloc (by simp) _
 have zV : V.heap.size = w.heap.size + 2 := by rw [hV]; simp
 have QP : Hid (V.heap[w.heap.size]? = some (.cells (dgA P) 30 (0, 0))) := by rw [hV]; exact Lib.hid (rw_old _ (rw_at _ rfl))
 have Q : Hid (RcAt V (w.heap.size + 1) rcZ none 0 0) := by rw [hV]; exact Lib.hid (zeroAt (by simp))
 have HV := Lib.hid hV
 have hG := hGet A n c xs V (hr.below bV)
 obtain ⟨hok9, hb9⟩ := rcGet_okk xs
 obtain ⟨E, hE⟩ : ∃ E, rcGetE xs = E := ⟨_, rfl⟩
 obtain ⟨R, hR⟩ : ∃ R, rcGet xs = R := ⟨_, rfl⟩
 rw [hE, hR] at hG
 rw [hR] at hok9
 have hE1 : E = 0 := by rw [← hE]; exact hE0
 subst hE1
 have n0 : ¬ ((R.g : Int) = (g : Int)) := by rw [← hR]; omega
 have n1 : ((R.g : Int) != (g : Int)) = true := bne_iff_ne.2 n0
 have HG := Lib.hid hG
 have HE := Lib.hid hE
 have HR := Lib.hid hR
 have HRD := Lib.hid hok9.2.2.2.2.2.2
 have HP := Lib.hid hP
 have ZV := Lib.hid zV
 have HB9 := Lib.hid hb9
 clear hV hG hE hR hP zV hb9
 go_enter Tryz.func77, Tryz.ntmps77
 go_wp2_with fail
 rw [← HV.out]
 refine HG.out.mono ?_
 rintro e w3 ⟨A4, n4, c4, rfl, hRb, hRf, hb3⟩
 have Q3 := Lib.hid (Q.out.up hb3)
 obtain ⟨Z3, hZ3⟩ : ∃ W, W = w3.alloc (.cells zz3 90) := ⟨_, rfl⟩
 have QZ : Hid (RcAt Z3 w3.heap.size rcZ none 0 0) := by rw [hZ3]; exact Lib.hid (zeroAt rfl)
 have bZ : Below w3.heap.size w3 Z3 := by rw [hZ3]; exact (below_self _).alloc (Nat.le_refl _) _
 obtain ⟨X, hX⟩ : ∃ W, W = Z3.setRow w3.heap.size (rcV R A4 n4 c4).toArray := ⟨_, rfl⟩
 have bX : Below w3.heap.size w3 X := by rw [hX]; exact below_setRow bZ (Nat.le_refl _) _
 have QX : Hid (RcAt X w3.heap.size R A4 n4 c4) := by rw [hX]; exact Lib.hid QZ.out.setRow
 have QR : Hid (RcAt X (w.heap.size + 1) rcZ none 0 0) := Lib.hid (Q3.out.up bX)
 have QP := Lib.hid (rw_up QP.out (below_then hb3 bX))
 have B := below_then (below_then bV hb3) bX
 have hrX := hr.below B
 have hRbX := hRb.below bX
 have z3 := hb3.size
 have k0 := RcAt.c0 QX.out
 have k1 := RcAt.c1 QX.out
 rw [hX] at k0 k1
 have HX3 := Lib.hid hX
 have HZ3 := Lib.hid hZ3
 clear hX hZ3
 clear hE0 hne
 go_wp2_with (first | (rw [← HZ3.out]; refine rc_store rfl _ _ rfl rfl rfl QZ.out HRD.out rcZD ?_) | (rw [← HX3.out]; refine rc_store rfl _ _ rfl rfl (r := rcZ) (A := none) (n := 0) (c := 0) (congrArg Value.agg zeroRc) QR.out rcZD rcZD ?_))
 refine bodyPost_ret (rresults_row_tmp Tryz.results77 _ _ (w.heap.size + 1) 90 _ (0, 0) _ rfl (RcAt.setRow (r' := rcZ) (A' := none) (n' := 0) (c' := 0) QR.out) Tryz.underlying90 rfl (rcInfo rcZ none 0 0 rcZD)) rfl ?_
 exact ⟨none, 0, 0, rfl, RdB.nilB _, fun h => absurd h (Nat.lt_irrefl 0), below_setRow (B) (by omega) _⟩
theorem refFollow12_seq (hGet : ∀ (A : Option Addr) (n c : Nat) (xs : List UInt8) (w : World), RdB w A n c xs → Calls Tryz.prog 118 #[.slice A n c] w (RetRc w (rcGet xs) (rcGetE xs))) (P : List UInt8) (hP : P.length = 32) (g s : Nat) (A : Option Addr) (n c : Nat) (xs : List UInt8) (w : World) (hr : RdB w A n c xs) (hE0 : rcGetE xs = 0) (hg : (rcGet xs).g = g) (hne : (rcGet xs).s ≠ s) :
  Calls Tryz.prog 77 #[.agg (dgA P), .int .u32 (g : Int), .int .u32 (s : Int), .slice A n c] w (RetRc w rcZ 121) := by
 have hn := hr.n63
 have hL := hr.2.1
 have hc := hr.2.2.1
 obtain ⟨V, hV⟩ : ∃ V, V = (w.alloc (.cells (dgA P) 30)).alloc (.cells zz3 90) := ⟨_, rfl⟩
 have bV : Below w.heap.size w V := by rw [hV]; exact ((below_self w).alloc (Nat.le_refl _) _).alloc (by simp) _
 have zV : V.heap.size = w.heap.size + 2 := by rw [hV]; simp
 have QP : Hid (V.heap[w.heap.size]? = some (.cells (dgA P) 30 (0, 0))) := by rw [hV]; exact Lib.hid (rw_old _ (rw_at _ rfl))
 have Q : Hid (RcAt V (w.heap.size + 1) rcZ none 0 0) := by rw [hV]; exact Lib.hid (zeroAt (by simp))
 have HV := Lib.hid hV
 have hG := hGet A n c xs V (hr.below bV)
 obtain ⟨hok9, hb9⟩ := rcGet_okk xs
 obtain ⟨E, hE⟩ : ∃ E, rcGetE xs = E := ⟨_, rfl⟩
 obtain ⟨R, hR⟩ : ∃ R, rcGet xs = R := ⟨_, rfl⟩
 rw [hE, hR] at hG
 rw [hR] at hok9
 have hE1 : E = 0 := by rw [← hE]; exact hE0
 subst hE1
 have m0 : R.g = g := by rw [← hR]; exact hg
 subst m0
 have n0 : ¬ ((R.s : Int) = (s : Int)) := by rw [← hR]; omega
 have n1 : ((R.s : Int) != (s : Int)) = true := bne_iff_ne.2 n0
 have HG := Lib.hid hG
 have HE := Lib.hid hE
 have HR := Lib.hid hR
 have HRD := Lib.hid hok9.2.2.2.2.2.2
 have HP := Lib.hid hP
 have ZV := Lib.hid zV
 have HB9 := Lib.hid hb9
 clear hV hG hE hR hP zV hb9
 go_enter Tryz.func77, Tryz.ntmps77
 go_wp2_with fail
 rw [← HV.out]
 refine HG.out.mono ?_
 rintro e w3 ⟨A4, n4, c4, rfl, hRb, hRf, hb3⟩
 have Q3 := Lib.hid (Q.out.up hb3)
 obtain ⟨Z3, hZ3⟩ : ∃ W, W = w3.alloc (.cells zz3 90) := ⟨_, rfl⟩
 have QZ : Hid (RcAt Z3 w3.heap.size rcZ none 0 0) := by rw [hZ3]; exact Lib.hid (zeroAt rfl)
 have bZ : Below w3.heap.size w3 Z3 := by rw [hZ3]; exact (below_self _).alloc (Nat.le_refl _) _
 obtain ⟨X, hX⟩ : ∃ W, W = Z3.setRow w3.heap.size (rcV R A4 n4 c4).toArray := ⟨_, rfl⟩
 have bX : Below w3.heap.size w3 X := by rw [hX]; exact below_setRow bZ (Nat.le_refl _) _
 have QX : Hid (RcAt X w3.heap.size R A4 n4 c4) := by rw [hX]; exact Lib.hid QZ.out.setRow
 have QR : Hid (RcAt X (w.heap.size + 1) rcZ none 0 0) := Lib.hid (Q3.out.up bX)
 have QP := Lib.hid (rw_up QP.out (below_then hb3 bX))
 have B := below_then (below_then bV hb3) bX
 have hrX := hr.below B
 have hRbX := hRb.below bX
 have z3 := hb3.size
 have k0 := RcAt.c0 QX.out
 have k1 := RcAt.c1 QX.out
 rw [hX] at k0 k1
 have HX3 := Lib.hid hX
 have HZ3 := Lib.hid hZ3
 clear hX hZ3
 clear hE0 hne hg
 go_wp2_with (first | (rw [← HZ3.out]; refine rc_store rfl _ _ rfl rfl rfl QZ.out HRD.out rcZD ?_) | (rw [← HX3.out]; refine rc_store rfl _ _ rfl rfl (r := rcZ) (A := none) (n := 0) (c := 0) (congrArg Value.agg zeroRc) QR.out rcZD rcZD ?_))
 refine bodyPost_ret (rresults_row_tmp Tryz.results77 _ _ (w.heap.size + 1) 90 _ (0, 0) _ rfl (RcAt.setRow (r' := rcZ) (A' := none) (n' := 0) (c' := 0) QR.out) Tryz.underlying90 rfl (rcInfo rcZ none 0 0 rcZD)) rfl ?_
 exact ⟨none, 0, 0, rfl, RdB.nilB _, fun h => absurd h (Nat.lt_irrefl 0), below_setRow (B) (by omega) _⟩
theorem refFollow12_chain (hGet : ∀ (A : Option Addr) (n c : Nat) (xs : List UInt8) (w : World), RdB w A n c xs → Calls Tryz.prog 118 #[.slice A n c] w (RetRc w (rcGet xs) (rcGetE xs))) (P : List UInt8) (hP : P.length = 32) (g s : Nat) (A : Option Addr) (n c : Nat) (xs : List UInt8) (w : World) (hr : RdB w A n c xs) (hE0 : rcGetE xs = 0) (hg : (rcGet xs).g = g) (hs : (rcGet xs).s = s) (hch : (rcGet xs).D ≠ shLink P (rcBody (rcGet xs))) :
  Calls Tryz.prog 77 #[.agg (dgA P), .int .u32 (g : Int), .int .u32 (s : Int), .slice A n c] w (RetRc w rcZ 122) := by
 have hn := hr.n63
 have hL := hr.2.1
 have hc := hr.2.2.1
 obtain ⟨V, hV⟩ : ∃ V, V = (w.alloc (.cells (dgA P) 30)).alloc (.cells zz3 90) := ⟨_, rfl⟩
 have bV : Below w.heap.size w V := by rw [hV]; exact ((below_self w).alloc (Nat.le_refl _) _).alloc (by simp) _
 have zV : V.heap.size = w.heap.size + 2 := by rw [hV]; simp
 have QP : Hid (V.heap[w.heap.size]? = some (.cells (dgA P) 30 (0, 0))) := by rw [hV]; exact Lib.hid (rw_old _ (rw_at _ rfl))
 have Q : Hid (RcAt V (w.heap.size + 1) rcZ none 0 0) := by rw [hV]; exact Lib.hid (zeroAt (by simp))
 have HV := Lib.hid hV
 have hG := hGet A n c xs V (hr.below bV)
 obtain ⟨hok9, hb9⟩ := rcGet_okk xs
 obtain ⟨E, hE⟩ : ∃ E, rcGetE xs = E := ⟨_, rfl⟩
 obtain ⟨R, hR⟩ : ∃ R, rcGet xs = R := ⟨_, rfl⟩
 rw [hE, hR] at hG
 rw [hR] at hok9
 have hE1 : E = 0 := by rw [← hE]; exact hE0
 subst hE1
 have m0 : R.g = g := by rw [← hR]; exact hg
 subst m0
 have m1 : R.s = s := by rw [← hR]; exact hs
 subst m1
 obtain ⟨t1, t2, t3, t4, t5, t6, t7⟩ := rcGet_ok xs hE0
 have hCKR : R.chk = true := by rw [← hR]; exact t4
 have HCKR := Lib.hid hCKR
 have HOKR := Lib.hid hok9
 have HBD := Lib.hid (rcBody_len R (by have := (rcChk_len hCKR).1; omega))
 have hn256 : n = 256 := by rw [← hL]; exact t2
 subst hn256
 have htk : xs.take 220 = rcBody R := by rw [← hR]; exact rcGet_take xs hE0
 obtain ⟨LK, hLK⟩ : ∃ d, d = shLink P (rcBody R) := ⟨_, rfl⟩
 have hLKl : LK.length = 32 := by rw [hLK]; exact shLink_len _ _
 have hq : decide (LK = R.D) = false := by rw [hLK, ← hR]; exact decide_eq_false (fun h => hch h.symm)
 have KQ := Lib.hid (fun W => hq ▸ rdig_eq LK R.D hLKl hok9.2.2.2.2.2.2 W)
 have HTK := Lib.hid htk
 have HLK := Lib.hid hLK
 have ci : (220 : Int) ≤ (c : Int) := by omega
 clear t1 t2 t3 t4 t5 t6 t7 hch htk hLK hLKl hq hL
 have HG := Lib.hid hG
 have HE := Lib.hid hE
 have HR := Lib.hid hR
 have HRD := Lib.hid hok9.2.2.2.2.2.2
 have HP := Lib.hid hP
 have ZV := Lib.hid zV
 have HB9 := Lib.hid hb9
 clear hV hG hE hR hP zV hb9
 go_enter Tryz.func77, Tryz.ntmps77
 go_wp2_with fail
 rw [← HV.out]
 refine HG.out.mono ?_
 rintro e w3 ⟨A4, n4, c4, rfl, hRb, hRf, hb3⟩
 have Q3 := Lib.hid (Q.out.up hb3)
 obtain ⟨Z3, hZ3⟩ : ∃ W, W = w3.alloc (.cells zz3 90) := ⟨_, rfl⟩
 have QZ : Hid (RcAt Z3 w3.heap.size rcZ none 0 0) := by rw [hZ3]; exact Lib.hid (zeroAt rfl)
 have bZ : Below w3.heap.size w3 Z3 := by rw [hZ3]; exact (below_self _).alloc (Nat.le_refl _) _
 obtain ⟨X, hX⟩ : ∃ W, W = Z3.setRow w3.heap.size (rcV R A4 n4 c4).toArray := ⟨_, rfl⟩
 have bX : Below w3.heap.size w3 X := by rw [hX]; exact below_setRow bZ (Nat.le_refl _) _
 have QX : Hid (RcAt X w3.heap.size R A4 n4 c4) := by rw [hX]; exact Lib.hid QZ.out.setRow
 have QR : Hid (RcAt X (w.heap.size + 1) rcZ none 0 0) := Lib.hid (Q3.out.up bX)
 have QP := Lib.hid (rw_up QP.out (below_then hb3 bX))
 have B := below_then (below_then bV hb3) bX
 have hrX := hr.below B
 have hRbX := hRb.below bX
 have z3 := hb3.size
 have k0 := RcAt.c0 QX.out
 have k1 := RcAt.c1 QX.out
 rw [hX] at k0 k1
 have HX3 := Lib.hid hX
 have HZ3 := Lib.hid hZ3
 clear hX hZ3
 clear hE0 hg hs
 rw [HX3.out.symm] at k0 k1
 have k0' := k0
 have k1' := k1
 rw [HX3.out] at k0 k1
 go_wp2_with (rw [← HZ3.out]; refine rc_store rfl _ _ rfl rfl rfl QZ.out HRD.out rcZD ?_)
 try rw [← HX3.out]
 have lP := rw_lt QP.out
 refine wp_region_seg (S := fun w' => Below X.heap.size X w') 0 (brw9 8 255) [(0, true), (1, true), (4, true), (5, true), (2, false), (3, false), (6, true), (7, true)] (by kernel_rfl) (by kernel_rfl) (fun _ _ d _ _ h => by first | (cases d <;> exact h) | cases h.1) ((Below.refl X.heap.size X).drew) ?_
 have HB := (Below.refl X.heap.size X).drew
 refine seg_take (v := .agg (dgA P)) rfl (Or.inl ⟨by rfl, fun w' hw' => ?_⟩) ?_
 focus (exact rex_load rfl rfl (run_loadVar_row w' w.heap.size _ 30 _ _ _ (rw_up QP.out hw') Tryz.underlying30 rfl (infoD P HP.out)))
 try simp only [Act.put, pst3]
 refine seg_take (v := .agg (rcV R A4 n4 c4).toArray) rfl (Or.inl ⟨by rfl, fun w' hw' => ?_⟩) ?_
 focus (exact rex_load rfl rfl (load_rc (QX.out.up hw') HRD.out))
 try simp only [Act.put, pst3]
 iterate 1 (refine seg_take (v := ?_) rfl (Or.inl ⟨by rfl, ?_⟩) ?_; rotate_left; (focus (intro w' hw'; go_simp <;> with_reducible rfl)); try simp only [Act.put, pst3])
 refine seg_take (v := .agg (dgA R.D)) rfl (Or.inl ⟨by rfl, fun w' hw' => ?_⟩) ?_
 focus (exact rex_load rfl rfl (mid_dig (QX.out.up hw') HRD.out))
 try simp only [Act.put, pst3]
 refine seg_run rfl (fun K hK => ?_)
 go_simp
 refine (refBody_any R A4 n4 c4 _ HOKR.out HCKR.out (hRbX.below HB)).mono ?_
 rintro e_ w6 ⟨gb, nb, db, rfl, rb, hb6⟩
 obtain rfl : nb = 220 := by rw [← rb.len, HBD.out]
 have HB := below_then HB hb6
 refine hK.out _ _ (HB) ?_
 clear hK
 try simp only [Act.put, pst3]
 refine seg_run rfl (fun K hK => ?_)
 go_simp
 refine (refLink_any P HP.out _ 220 db (rcBody R) _ rb.rd (by omega)).mono ?_
 rintro e_ w7 ⟨rfl, hb7⟩
 rw [← HLK.out]
 have HB := below_then HB hb7
 refine hK.out _ _ (HB) ?_
 clear hK
 try simp only [Act.put, pst3]
 refine seg_take (v := .bool true) rfl (Or.inl ⟨by rfl, fun w' hw' => ?_⟩) ?_
 focus ((have jj := KQ.out w'; go_simp))
 try simp only [Act.put, pst3]
 iterate 1 (refine seg_take (v := ?_) rfl (Or.inl ⟨by rfl, ?_⟩) ?_; rotate_left; (focus (intro w' hw'; go_simp <;> with_reducible rfl)); try simp only [Act.put, pst3])
 refine seg_done (fun _ => ?_)
 refine wpAnyH_done (by kernel_rfl) ?_ _
 have QX7 := Lib.hid (QX.out.up HB)
 have QR7 := Lib.hid (QR.out.up HB)
 have B7 := below_then B HB
 go_wp2_with (refine rc_store rfl _ _ rfl rfl (r := rcZ) (A := none) (n := 0) (c := 0) (congrArg Value.agg zeroRc) QR7.out rcZD rcZD ?_)
 refine bodyPost_ret (rresults_row_tmp Tryz.results77 _ _ (w.heap.size + 1) 90 _ (0, 0) _ rfl (RcAt.setRow (r' := rcZ) (A' := none) (n' := 0) (c' := 0) QR7.out) Tryz.underlying90 rfl (rcInfo rcZ none 0 0 rcZD)) rfl ?_
 exact ⟨none, 0, 0, rfl, RdB.nilB _, fun h => absurd h (Nat.lt_irrefl 0), below_setRow (B7) (by omega) _⟩
theorem refFollow12_yes (hGet : ∀ (A : Option Addr) (n c : Nat) (xs : List UInt8) (w : World), RdB w A n c xs → Calls Tryz.prog 118 #[.slice A n c] w (RetRc w (rcGet xs) (rcGetE xs))) (P : List UInt8) (hP : P.length = 32) (g s : Nat) (A : Option Addr) (n c : Nat) (xs : List UInt8) (w : World) (hr : RdB w A n c xs) (hE0 : rcGetE xs = 0) (hg : (rcGet xs).g = g) (hs : (rcGet xs).s = s) (hch : (rcGet xs).D = shLink P (rcBody (rcGet xs))) :
  Calls Tryz.prog 77 #[.agg (dgA P), .int .u32 (g : Int), .int .u32 (s : Int), .slice A n c] w (RetRc w (rcGet xs) 0) := by
 have hn := hr.n63
 have hL := hr.2.1
 have hc := hr.2.2.1
 obtain ⟨V, hV⟩ : ∃ V, V = (w.alloc (.cells (dgA P) 30)).alloc (.cells zz3 90) := ⟨_, rfl⟩
 have bV : Below w.heap.size w V := by rw [hV]; exact ((below_self w).alloc (Nat.le_refl _) _).alloc (by simp) _
 have zV : V.heap.size = w.heap.size + 2 := by rw [hV]; simp
 have QP : Hid (V.heap[w.heap.size]? = some (.cells (dgA P) 30 (0, 0))) := by rw [hV]; exact Lib.hid (rw_old _ (rw_at _ rfl))
 have Q : Hid (RcAt V (w.heap.size + 1) rcZ none 0 0) := by rw [hV]; exact Lib.hid (zeroAt (by simp))
 have HV := Lib.hid hV
 have hG := hGet A n c xs V (hr.below bV)
 obtain ⟨hok9, hb9⟩ := rcGet_okk xs
 obtain ⟨E, hE⟩ : ∃ E, rcGetE xs = E := ⟨_, rfl⟩
 obtain ⟨R, hR⟩ : ∃ R, rcGet xs = R := ⟨_, rfl⟩
 rw [hE, hR] at hG
 rw [hR] at hok9
 have hE1 : E = 0 := by rw [← hE]; exact hE0
 subst hE1
 have m0 : R.g = g := by rw [← hR]; exact hg
 subst m0
 have m1 : R.s = s := by rw [← hR]; exact hs
 subst m1
 obtain ⟨t1, t2, t3, t4, t5, t6, t7⟩ := rcGet_ok xs hE0
 have hCKR : R.chk = true := by rw [← hR]; exact t4
 have HCKR := Lib.hid hCKR
 have HOKR := Lib.hid hok9
 have HBD := Lib.hid (rcBody_len R (by have := (rcChk_len hCKR).1; omega))
 have hn256 : n = 256 := by rw [← hL]; exact t2
 subst hn256
 have htk : xs.take 220 = rcBody R := by rw [← hR]; exact rcGet_take xs hE0
 obtain ⟨LK, hLK⟩ : ∃ d, d = shLink P (rcBody R) := ⟨_, rfl⟩
 have hLKl : LK.length = 32 := by rw [hLK]; exact shLink_len _ _
 have hq : decide (LK = R.D) = true := by rw [hLK, ← hR]; exact decide_eq_true hch.symm
 have KQ := Lib.hid (fun W => hq ▸ rdig_eq LK R.D hLKl hok9.2.2.2.2.2.2 W)
 have HTK := Lib.hid htk
 have HLK := Lib.hid hLK
 have ci : (220 : Int) ≤ (c : Int) := by omega
 clear t1 t2 t3 t4 t5 t6 t7 hch htk hLK hLKl hq hL
 have HG := Lib.hid hG
 have HE := Lib.hid hE
 have HR := Lib.hid hR
 have HRD := Lib.hid hok9.2.2.2.2.2.2
 have HP := Lib.hid hP
 have ZV := Lib.hid zV
 have HB9 := Lib.hid hb9
 clear hV hG hE hR hP zV hb9
 go_enter Tryz.func77, Tryz.ntmps77
 go_wp2_with fail
 rw [← HV.out]
 refine HG.out.mono ?_
 rintro e w3 ⟨A4, n4, c4, rfl, hRb, hRf, hb3⟩
 have Q3 := Lib.hid (Q.out.up hb3)
 obtain ⟨Z3, hZ3⟩ : ∃ W, W = w3.alloc (.cells zz3 90) := ⟨_, rfl⟩
 have QZ : Hid (RcAt Z3 w3.heap.size rcZ none 0 0) := by rw [hZ3]; exact Lib.hid (zeroAt rfl)
 have bZ : Below w3.heap.size w3 Z3 := by rw [hZ3]; exact (below_self _).alloc (Nat.le_refl _) _
 obtain ⟨X, hX⟩ : ∃ W, W = Z3.setRow w3.heap.size (rcV R A4 n4 c4).toArray := ⟨_, rfl⟩
 have bX : Below w3.heap.size w3 X := by rw [hX]; exact below_setRow bZ (Nat.le_refl _) _
 have QX : Hid (RcAt X w3.heap.size R A4 n4 c4) := by rw [hX]; exact Lib.hid QZ.out.setRow
 have QR : Hid (RcAt X (w.heap.size + 1) rcZ none 0 0) := Lib.hid (Q3.out.up bX)
 have QP := Lib.hid (rw_up QP.out (below_then hb3 bX))
 have B := below_then (below_then bV hb3) bX
 have hrX := hr.below B
 have hRbX := hRb.below bX
 have z3 := hb3.size
 have k0 := RcAt.c0 QX.out
 have k1 := RcAt.c1 QX.out
 rw [hX] at k0 k1
 have HX3 := Lib.hid hX
 have HZ3 := Lib.hid hZ3
 clear hX hZ3
 clear hE0 hg hs
 rw [HX3.out.symm] at k0 k1
 have k0' := k0
 have k1' := k1
 rw [HX3.out] at k0 k1
 go_wp2_with (rw [← HZ3.out]; refine rc_store rfl _ _ rfl rfl rfl QZ.out HRD.out rcZD ?_)
 try rw [← HX3.out]
 have lP := rw_lt QP.out
 refine wp_region_seg (S := fun w' => Below X.heap.size X w') 0 (brw9 8 255) [(0, true), (1, true), (4, true), (5, true), (2, false), (3, false), (6, true), (7, true)] (by kernel_rfl) (by kernel_rfl) (fun _ _ d _ _ h => by first | (cases d <;> exact h) | cases h.1) ((Below.refl X.heap.size X).drew) ?_
 have HB := (Below.refl X.heap.size X).drew
 refine seg_take (v := .agg (dgA P)) rfl (Or.inl ⟨by rfl, fun w' hw' => ?_⟩) ?_
 focus (exact rex_load rfl rfl (run_loadVar_row w' w.heap.size _ 30 _ _ _ (rw_up QP.out hw') Tryz.underlying30 rfl (infoD P HP.out)))
 try simp only [Act.put, pst3]
 refine seg_take (v := .agg (rcV R A4 n4 c4).toArray) rfl (Or.inl ⟨by rfl, fun w' hw' => ?_⟩) ?_
 focus (exact rex_load rfl rfl (load_rc (QX.out.up hw') HRD.out))
 try simp only [Act.put, pst3]
 iterate 1 (refine seg_take (v := ?_) rfl (Or.inl ⟨by rfl, ?_⟩) ?_; rotate_left; (focus (intro w' hw'; go_simp <;> with_reducible rfl)); try simp only [Act.put, pst3])
 refine seg_take (v := .agg (dgA R.D)) rfl (Or.inl ⟨by rfl, fun w' hw' => ?_⟩) ?_
 focus (exact rex_load rfl rfl (mid_dig (QX.out.up hw') HRD.out))
 try simp only [Act.put, pst3]
 refine seg_run rfl (fun K hK => ?_)
 go_simp
 refine (refBody_any R A4 n4 c4 _ HOKR.out HCKR.out (hRbX.below HB)).mono ?_
 rintro e_ w6 ⟨gb, nb, db, rfl, rb, hb6⟩
 obtain rfl : nb = 220 := by rw [← rb.len, HBD.out]
 have HB := below_then HB hb6
 refine hK.out _ _ (HB) ?_
 clear hK
 try simp only [Act.put, pst3]
 refine seg_run rfl (fun K hK => ?_)
 go_simp
 refine (refLink_any P HP.out _ 220 db (rcBody R) _ rb.rd (by omega)).mono ?_
 rintro e_ w7 ⟨rfl, hb7⟩
 rw [← HLK.out]
 have HB := below_then HB hb7
 refine hK.out _ _ (HB) ?_
 clear hK
 try simp only [Act.put, pst3]
 refine seg_take (v := .bool false) rfl (Or.inl ⟨by rfl, fun w' hw' => ?_⟩) ?_
 focus ((have jj := KQ.out w'; go_simp))
 try simp only [Act.put, pst3]
 iterate 1 (refine seg_take (v := ?_) rfl (Or.inl ⟨by rfl, ?_⟩) ?_; rotate_left; (focus (intro w' hw'; go_simp <;> with_reducible rfl)); try simp only [Act.put, pst3])
 refine seg_done (fun _ => ?_)
 refine wpAnyH_done (by kernel_rfl) ?_ _
 have QX7 := Lib.hid (QX.out.up HB)
 have QR7 := Lib.hid (QR.out.up HB)
 have B7 := below_then B HB
 go_wp2_with (first | (refine rc_load rfl _ rfl rfl QX7.out HRD.out ?_) | (refine rc_store rfl _ _ rfl rfl rfl QR7.out HRD.out rcZD ?_))
 rw [HR.out]
 refine bodyPost_ret (rresults_row_tmp Tryz.results77 _ _ (w.heap.size + 1) 90 _ (0, 0) _ rfl (RcAt.setRow (r' := R) (A' := A4) (n' := n4) (c' := c4) QR7.out) Tryz.underlying90 rfl (rcInfo R A4 n4 c4 HRD.out)) rfl ?_
 exact ⟨A4, n4, c4, rfl, rd_row (hRbX.below HB) (w.heap.size + 1) _ (fun h0 a e => by have := hRf h0 a e; have := ZV.out; omega), fun h0 a e => by have := hRf h0 a e; have := ZV.out; omega, below_setRow (B7) (by omega) _⟩
theorem refFollow12_any (hGet : ∀ (A : Option Addr) (n c : Nat) (xs : List UInt8) (w : World), RdB w A n c xs → Calls Tryz.prog 118 #[.slice A n c] w (RetRc w (rcGet xs) (rcGetE xs))) (P : List UInt8) (hP : P.length = 32) (g s : Nat) (A : Option Addr) (n c : Nat) (xs : List UInt8) (w : World) (hr : RdB w A n c xs) :
  Calls Tryz.prog 77 #[.agg (dgA P), .int .u32 (g : Int), .int .u32 (s : Int), .slice A n c] w (RetRc w (rcFol P g s xs) (rcFolE P g s xs)) := by
 by_cases hE : rcGetE xs = 0
 ·by_cases hg : (rcGet xs).g = g
  ·by_cases hs : (rcGet xs).s = s
   ·by_cases hch : (rcGet xs).D = shLink P (rcBody (rcGet xs))
    ·have e : rcFolE P g s xs = 0 := by unfold rcFolE; rw [if_pos hE, if_neg (fun h => h hg), if_neg (fun h => h hs), if_neg (fun h => h hch)]
     have e2 : rcFol P g s xs = rcGet xs := by unfold rcFol; rw [if_pos e]
     rw [e, e2]; exact refFollow12_yes hGet P hP g s A n c xs w hr hE hg hs hch
    ·have e : rcFolE P g s xs = 122 := by unfold rcFolE; rw [if_pos hE, if_neg (fun h => h hg), if_neg (fun h => h hs), if_pos hch]
     have e2 : rcFol P g s xs = rcZ := by unfold rcFol; rw [if_neg (by rw [e]; decide)]
     rw [e, e2]; exact refFollow12_chain hGet P hP g s A n c xs w hr hE hg hs hch
   ·have e : rcFolE P g s xs = 121 := by unfold rcFolE; rw [if_pos hE, if_neg (fun h => h hg), if_pos hs]
    have e2 : rcFol P g s xs = rcZ := by unfold rcFol; rw [if_neg (by rw [e]; decide)]
    rw [e, e2]; exact refFollow12_seq hGet P hP g s A n c xs w hr hE hg hs
  ·have e : rcFolE P g s xs = 120 := by unfold rcFolE; rw [if_pos hE, if_pos hg]
   have e2 : rcFol P g s xs = rcZ := by unfold rcFol; rw [if_neg (by rw [e]; decide)]
   rw [e, e2]; exact refFollow12_gen hGet P hP g s A n c xs w hr hE hg
 ·have e : rcFolE P g s xs = rcGetE xs := by unfold rcFolE; rw [if_neg hE]
  have e2 : rcFol P g s xs = rcZ := by unfold rcFol; rw [if_neg (by rw [e]; exact hE)]
  rw [e, e2]; exact refFollow12_err hGet P hP g s A n c xs w hr hE
end Go.Proofs.YtpahicfnhhhifaaGreat
