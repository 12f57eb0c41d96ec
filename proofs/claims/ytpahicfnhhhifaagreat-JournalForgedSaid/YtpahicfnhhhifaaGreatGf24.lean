/-
 Proved here, for the statement JournalForged:
 Layer 14: the law JournalForged (plain): two chains that end in one digest are t
 Layer 14 (the document): Records of equal rows.
-/
import Derived.Test.YtpahicfnhhhifaaGreatGf21
set_option linter.unusedVariables false
set_option linter.unusedSimpArgs false
namespace Go.Proofs.YtpahicfnhhhifaaGreat
set_option maxRecDepth 20000
set_option maxHeartbeats 1000000
def txR (P : List UInt8) : List Rc → List (List UInt8)
 | [] => []
 | r :: l => (P ++ rcBody r) :: txR r.D l
def txA (st : List UInt8) (l : List Rc) : List (List UInt8) := (st ++ [1]) :: txR (jnBase st) l
theorem txR_len : ∀ (l : List Rc) (P : List UInt8), (txR P l).length = l.length
 | [], _ => rfl
 | r :: l, P => by simp [txR, txR_len l]
theorem txA_len (st : List UInt8) (l : List Rc) : (txA st l).length = l.length + 1 := by simp [txA, txR_len]
theorem txR_snoc (r : Rc) : ∀ (l : List Rc) (P : List UInt8), txR P (l ++ [r]) = txR P l ++ [rcEnd P l ++ rcBody r]
 | [], P => rfl
 | x :: l, P => by simp [txR, txR_snoc r l, rcEnd]
theorem txA_snoc (st : List UInt8) (r : Rc) (l : List Rc) : txA st (l ++ [r]) = txA st l ++ [rcEnd (jnBase st) l ++ rcBody r] := by simp [txA, txR_snoc]
theorem txA_at (st : List UInt8) (r : Rc) (l : List Rc) : (txA st (l ++ [r])).getD (l.length + 1) [] = rcEnd (jnBase st) l ++ rcBody r := by
 rw [txA_snoc, List.getD_eq_getElem?_getD, List.getElem?_append_right (by rw [txA_len]; omega), txA_len]; simp
theorem txA_old (st : List UInt8) (r : Rc) (l : List Rc) (i : Nat) (hi : i < l.length + 1) : (txA st (l ++ [r])).getD i [] = (txA st l).getD i [] := by
 rw [txA_snoc, List.getD_eq_getElem?_getD, List.getElem?_append_left (by rw [txA_len]; exact hi), List.getD_eq_getElem?_getD]
theorem rcChain_init (r : Rc) (g : Nat) : ∀ (l : List Rc) (P : List UInt8) (i : Nat), RcChain P g i (l ++ [r]) → RcChain P g i l ∧ (r.ok ∧ r.chk = true ∧ r.D = shLink (rcEnd P l) (rcBody r))
 | [], P, i, h => ⟨trivial, h.1.1, h.1.2.1, h.1.2.2.2.2⟩
 | x :: l, P, i, h => by
  obtain ⟨h1, h2⟩ := rcChain_init r g l x.D (i + 1) h.2
  exact ⟨⟨h.1, h1⟩, h2⟩
theorem rcEnd_len32 (g : Nat) : ∀ (l : List Rc) (P : List UInt8) (i : Nat), P.length = 32 → RcChain P g i l → (rcEnd P l).length = 32
 | [], P, i, h, _ => h
 | r :: l, P, i, h, hc => rcEnd_len32 g l r.D (i + 1) (by rw [hc.1.2.2.2.2]; exact shOf_len _) hc.2
theorem jnBase_len' (st : List UInt8) : (jnBase st).length = 32 := shOf_len _
theorem jnRecs_is (D : Dk) (g : Nat) : ∀ (k i : Nat) (P : List UInt8), RcChain P g i (jnRecs D g k i P)
 | 0, i, P => trivial
 | k + 1, i, P => by
  unfold jnRecs
  by_cases h : rcFolE P g i (dkRead D (98 + (i : Int))) = 0
  ·rw [if_pos h]
   generalize dkRead D (98 + (i : Int)) = b at h ⊢
   refine ⟨?_, jnRecs_is D g k (i + 1) _⟩
   unfold rcFolE at h
   by_cases h0 : rcGetE b = 0
   ·rw [if_pos h0] at h
    obtain ⟨_, _, _, hc, _, _, hok⟩ := rcGet_ok b h0
    by_cases h1 : (rcGet b).g ≠ g
    ·rw [if_pos h1] at h; cases h
    ·rw [if_neg h1] at h
     by_cases h2 : (rcGet b).s ≠ i
     ·rw [if_pos h2] at h; cases h
     ·rw [if_neg h2] at h
      by_cases h3 : (rcGet b).D ≠ shLink P (rcBody (rcGet b))
      ·rw [if_pos h3] at h; cases h
      ·exact ⟨hok, hc, by simpa using h1, by simpa using h2, by simpa using h3⟩
   ·rw [if_neg h0] at h; exact absurd h h0
  ·rw [if_neg h]; exact trivial
theorem jnLoadR_is (D : Dk) : RcChain (jnLoadS D).D (jnLoadS D).g 0 (jnLoadR D) := jnRecs_is D _ _ _ _
theorem rc_body {r s : Rc} (h1 : r.ok) (h2 : r.chk = true) (k1 : s.ok) (k2 : s.chk = true) (hb : rcBody r = rcBody s) (hD : r.D = s.D) : r = s := by
 have e1 := (rcGet_put r h1 h2).2
 have e2 := (rcGet_put s k1 k2).2
 have : rcPutL r = rcPutL s := by unfold rcPutL rcL; rw [if_pos h2, if_pos k2, hb, hD]
 rw [← e1, this, e2]
theorem body_last (r : Rc) (h : r.chk = true) (X : List UInt8) : (X ++ rcBody r).getLast? = some 0 := by
 have hl := (rcChk_len (k := r.k) (c := r.c) (n := r.b.length) h).1
 unfold rcBody
 obtain ⟨m, hm⟩ : ∃ m, 186 - r.b.length = m + 1 := ⟨185 - r.b.length, by omega⟩
 rw [hm, List.replicate_succ']
 simp only [← List.append_assoc]
 rw [List.getLast?_append]
 rfl
def Apart (st : List UInt8) (l : List Rc) (st' : List UInt8) (l' : List Rc) : Prop := ∀ i k, i < l.length + 1 → k < l'.length + 1 → (txA st l).getD i [] ≠ (txA st' l').getD k [] → shOf ((txA st l).getD i []) ≠ shOf ((txA st' l').getD k [])
theorem forged (st st' : List UInt8) (g g' : Nat) : ∀ (n : Nat) (l l' : List Rc), l.length = n → RcChain (jnBase st) g 0 l → RcChain (jnBase st') g' 0 l' → rcEnd (jnBase st) l = rcEnd (jnBase st') l' → Apart st l st' l' → st = st' ∧ l = l' := by
 intro n
 induction n with
 | zero =>
  intro l l' hn hc hc' he hA
  obtain rfl : l = [] := List.length_eq_zero_iff.1 hn
  rcases List.eq_nil_or_concat l' with rfl | ⟨m', r', rfl⟩
  ·have h0 := hA 0 0 (by simp) (by simp)
   have e0 : (txA st []).getD 0 [] = st ++ [1] := rfl
   have e1 : (txA st' []).getD 0 [] = st' ++ [1] := rfl
   rw [e0, e1] at h0
   have : st ++ [1] = st' ++ [1] := Classical.byContradiction fun hne => h0 hne he
   exact ⟨List.append_cancel_right this, rfl⟩
  ·exfalso
   rw [List.concat_eq_append] at hc' he hA
   obtain ⟨h1, h2, h3, h4⟩ := rcChain_init r' g' m' _ _ hc'
   rw [rcEnd_snoc, h4] at he
   have h0 := hA 0 (m'.length + 1) (by simp) (by simp)
   have e0 : (txA st []).getD 0 [] = st ++ [1] := rfl
   rw [e0, txA_at] at h0
   have e : st ++ [1] = rcEnd (jnBase st') m' ++ rcBody r' := Classical.byContradiction fun hne => h0 hne he
   have := body_last r' h3 (rcEnd (jnBase st') m')
   rw [← e] at this
   simp at this
 | succ n ih =>
  intro l l' hn hc hc' he hA
  rcases List.eq_nil_or_concat l with rfl | ⟨m, r, rfl⟩
  ·simp at hn
  rw [List.concat_eq_append] at hn hc he hA ⊢
  obtain ⟨h1, h2, h3, h4⟩ := rcChain_init r g m _ _ hc
  have hm : m.length = n := by simpa using hn
  rcases List.eq_nil_or_concat l' with rfl | ⟨m', r', rfl⟩
  ·exfalso
   rw [rcEnd_snoc, h4] at he
   have h0 := hA (m.length + 1) 0 (by simp) (by simp)
   have e0 : (txA st' []).getD 0 [] = st' ++ [1] := rfl
   rw [e0, txA_at] at h0
   have e : rcEnd (jnBase st) m ++ rcBody r = st' ++ [1] := Classical.byContradiction fun hne => h0 hne he
   have := body_last r h3 (rcEnd (jnBase st) m)
   rw [e] at this
   simp at this
  ·rw [List.concat_eq_append] at hc' he hA ⊢
   obtain ⟨k1, k2, k3, k4⟩ := rcChain_init r' g' m' _ _ hc'
   rw [rcEnd_snoc, rcEnd_snoc] at he
   have h0 := hA (m.length + 1) (m'.length + 1) (by simp) (by simp)
   rw [txA_at, txA_at] at h0
   have e : rcEnd (jnBase st) m ++ rcBody r = rcEnd (jnBase st') m' ++ rcBody r' := Classical.byContradiction fun hne => h0 hne (by rw [h4, k4] at he; exact he)
   have l1 := rcEnd_len32 g m _ _ (jnBase_len' st) h1
   have l2 := rcEnd_len32 g' m' _ _ (jnBase_len' st') k1
   obtain ⟨a1, a2⟩ := List.append_inj e (by rw [l1, l2])
   have er : r = r' := rc_body h2 h3 k2 k3 a2 he
   have hA' : Apart st m st' m' := fun i k hi hk => by
    have := hA i k (by simp; omega) (by simp; omega)
    rw [txA_old st r m i hi, txA_old st' r' m' k hk] at this
    exact this
   obtain ⟨s1, s2⟩ := ih m m' hm h1 k1 a1 hA'
   exact ⟨s1, by rw [s2, er]⟩
set_option maxRecDepth 20000
open Go.RowKit
set_option maxHeartbeats 4000000
def RdRs (w : World) (A : Option Addr) (n : Nat) (l : List Rc) : Prop := l.length = n ∧ n ≤ 9223372036854775807 ∧ ∀ k, k < n → ∃ bo oo B m d, A = some ⟨bo, oo, none⟩ ∧ bo < w.heap.size ∧ (∀ i, i < 39 → w.cell? ⟨bo, oo + k * 39 + i, none⟩ = (rcV (l.getD k rcZ) B m d)[i]?) ∧ RdB w B m d (l.getD k rcZ).b ∧ (l.getD k rcZ).ok
theorem RcRow.at_ {w : World} {base : Nat} {Z : Option Nat} : ∀ {us : List Value} {l : List Rc} (k : Nat), RcRow w base Z us l → k < l.length → ∃ B m d, (∀ i, i < 39 → us[k * 39 + i]? = (rcV (l.getD k rcZ) B m d)[i]?) ∧ RdB w B m d (l.getD k rcZ).b ∧ (l.getD k rcZ).ok
 | us, r :: l, 0, ⟨B, m, d, rest, h1, h2, h3, h4, h5⟩, _ => ⟨B, m, d, fun i hi => by
   rw [h1, Nat.zero_mul, Nat.zero_add, List.getElem?_append_left (by rw [rcV_len _ _ _ _ h2.2.2.2.2.2.2]; exact hi)]; rfl, h3, h2⟩
 | us, r :: l, k + 1, ⟨B, m, d, rest, h1, h2, h3, h4, h5⟩, hk => by
  obtain ⟨B', m', d', e1, e2, e3⟩ := RcRow.at_ k h5 (by simpa using hk)
  refine ⟨B', m', d', fun i hi => ?_, e2, e3⟩
  have hl := rcV_len r B m d h2.2.2.2.2.2.2
  rw [h1, List.getElem?_append_right (by rw [hl, Nat.add_mul]; omega), hl]
  have := e1 i hi
  rw [List.getD_cons_succ, ← this]
  congr 1; rw [Nat.add_mul]; omega
theorem OwR.rds {w : World} {base : Nat} {A : Option Addr} {n c : Nat} {l : List Rc} (h : OwR w base A n c l) : RdRs w A n l := by
 have hl := h.len
 obtain ⟨us, ⟨h1, h2⟩, h3⟩ := h
 refine ⟨hl, by rcases h2 with ⟨-, e⟩ | ⟨g, cap, cur, hv, hg, hrow, hn, hcap, hsz, hcur⟩; omega; unfold maxLen at *; omega, fun k hk => ?_⟩
 rcases h2 with ⟨-, e⟩ | ⟨g, cap, cur, hv, hg, hrow, hn, hcap, hsz, hcur⟩
 ·omega
 ·injection hv with hA hn1 hc
  obtain ⟨B, m, d, e1, e2, e3⟩ := h3.at_ k (by omega)
  refine ⟨g, 0, B, m, d, hA, drw_lt hrow, fun i hi => ?_, e2, e3⟩
  rw [cell_of_row w g _ _ _ _ hrow, ← e1 i hi, ← hcur, List.getElem?_take, if_pos (by omega)]
  simp
theorem RdRs.below {w w' : World} {A : Option Addr} {n : Nat} {l : List Rc} (h : RdRs w A n l) (hb : Below w.heap.size w w') : RdRs w' A n l := by
 refine ⟨h.1, h.2.1, fun k hk => ?_⟩
 obtain ⟨bo, oo, B, m, d, h1, h2, h3, h4, h5⟩ := h.2.2 k hk
 exact ⟨bo, oo, B, m, d, h1, Nat.lt_of_lt_of_le h2 hb.size, fun i hi => (World.cell?_of_block (hb.block bo h2)).trans (h3 i hi), h4.below hb, h5⟩
theorem recs_load {w w' : World} {bo f : Nat} {r : Rc} {B : Option Addr} {m d : Nat} (hr : r.ok) (hb : bo < w.heap.size) (h : ∀ i, i < 39 → w.cell? ⟨bo, f + i, none⟩ = (rcV r B m d)[i]?) (hw : Below w.heap.size w w') : (loadVar 90 ⟨bo, f, none⟩).run Tryz.prog w' = .ok (.agg (rcV r B m d).toArray) w' :=
 run_loadVar_mid w' bo f 90 (rcV r B m d) _ (fun j v hv => by
  have hl := rcV_len r B m d hr.2.2.2.2.2.2
  have hj := (List.getElem?_eq_some_iff.1 hv).1
  rw [World.cell?_of_block (hw.block bo hb), h j (by omega)]; exact hv) Tryz.underlying90 rfl (by rw [rcV_len r B m d hr.2.2.2.2.2.2]; kernel_rfl)
def RrI14 (n : Nat) (w : World) (i : Value) (wr : World) : Prop := ∃ k : Nat, k ≤ n ∧ i = .int .i64 (k : Int) ∧ Below w.heap.size w wr
end Go.Proofs.YtpahicfnhhhifaaGreat
namespace Go.Proofs.YtpahicfnhhhifaaGreat
set_option maxRecDepth 20000
open Go.RowKit
set_option maxHeartbeats 8000000
theorem rcBody_eq2 (r : Rc) (kn n : Nat) (hk : r.k = (kn : Int)) (hn : r.b.length = n) (M : Nat) (hM : M = 34 + n) :
  [80, 72, 82, 67] ++ leB r.g 4 ++ leB r.s 4 ++ leB r.m 4 ++ leB r.t 8 ++ [UInt8.ofNat kn, UInt8.ofNat n] ++ leB r.c 8 ++ r.b ++ List.replicate (220 - M) 0 = rcBody r := by
 subst hM
 unfold rcBody
 rw [hk, Int.toNat_natCast, hn, show 220 - (34 + n) = 186 - n by omega]
 simp only [List.append_assoc, List.cons_append, List.nil_append]
theorem refBody_any (r : Rc) (A : Option Addr) (n c : Nat) (w : World) (hok : r.ok) (hchk : r.chk = true) (hr : RdB w A n c r.b) :
  Calls Tryz.prog 94 #[.agg (rcV r A n c).toArray] w (RetB w (rcBody r)) := by
 have hn63 := hr.n63
 have hl := hr.2.1
 obtain ⟨hb_, hk1, hk3, hcc⟩ := rcChk_len hchk
 obtain ⟨kn, hkn⟩ : ∃ j : Nat, r.k = (j : Int) := ⟨r.k.toNat, by omega⟩
 obtain ⟨hgl, hsl, hml, htl, -, hcl, hD⟩ := hok
 have hn180 : n ≤ 180 := by omega
 have hfin := rcBody_eq2 r kn n hkn hl (34 + n) rfl
 have wk : IntKind.u8.wrap (kn : Int) = ((UInt8.ofNat kn).toNat : Int) := by rw [UInt8.toNat_ofNat', IntKind.wrap_u8]; omega
 have wn : IntKind.u8.wrap (n : Int) = ((UInt8.ofNat n).toNat : Int) := by rw [UInt8.toNat_ofNat', IntKind.wrap_u8]; omega
 have wg := w64n (k := r.g) (by omega)
 have ws := w64n (k := r.s) (by omega)
 have wm := w64n (k := r.m) (by omega)
 obtain ⟨V, hV⟩ : ∃ V, V = w.alloc (.cells (rcV r A n c).toArray 90) := ⟨_, rfl⟩
 have bV : Below w.heap.size w V := by rw [hV]; exact (below_self w).alloc (Nat.le_refl _) _
 have rV := hr.below bV
 have zV : V.heap.size = w.heap.size + 1 := by rw [hV]; simp
 have Q := Lib.hid (show RcAt V w.heap.size r A n c by rw [hV]; exact rw_at _ rfl)
 have k0 := (Q.out.up ((below_self V).alloc (Nat.le_refl _) (.cells #[.int .u8 80, .int .u8 72, .int .u8 82, .int .u8 67] 5))).c0
 obtain ⟨R1, hR1⟩ : ∃ z, z = (rcV r A n c).toArray := ⟨_, rfl⟩
 rw [← hR1] at hV ⊢
 rw [hV] at k0
 have HV := Lib.hid hV
 have HFIN := Lib.hid hfin
 have HK := Lib.hid hkn
 clear hV hR1 hfin hkn hchk
 go_enter Tryz.func94, Tryz.ntmps94
 go_wp2_with fail
 rw [← HV.out]
 refine named ?_
 intro W1 hW1
 have bW1 : Below V.heap.size V W1 := by rw [hW1]; repeat' (first | exact Below.refl _ _ | (refine Below.alloc ?_ ?_ _; rotate_left; (simp <;> omega)) | refine Below.drew ?_)
 have zW1 := bW1.size
 have HW1 := Lib.hid hW1
 clear hW1
 have o1 : OwnB W1 V.heap.size (some ⟨w.heap.size + 1, 0, none⟩) 4 4 [80, 72, 82, 67] := by rw [HW1.out, ← zV]; exact OwnB.lit _ _ _ _ rfl rfl (by simp [maxLen])
 have b1 : Below V.heap.size V W1 := by rw [HW1.out]; exact (below_self V).alloc (Nat.le_refl _) _
 refine (refLe_any r.g 4 W1 (by omega)).mono ?_
 rw [show clamp 4 = 4 from rfl]
 rintro e u1 ⟨E1, n1, d1, rfl, le1, hb1⟩
 obtain rfl : n1 = 4 := by rw [← le1.len, leB_length]
 have B1 := below_then b1 hb1
 go_wp2_with (at_builtin; refine wp_appB rfl _ _ rfl B1 (Nat.le_refl _) B1.size (some ⟨w.heap.size + 1, 0, none⟩) 4 4 ([80, 72, 82, 67]) rfl (o1.below hb1) E1 4 d1 (leB r.g 4) rfl le1.rd (by omega) 8 ([80, 72, 82, 67] ++ leB r.g 4) rfl rfl ?_; intro X1 y1 z1 ao1 ab1 ag1; have jc1 := (Q.out.up ab1).c1)
 refine (refLe_any r.s 4 z1 (by omega)).mono ?_
 rw [show clamp 4 = 4 from rfl]
 rintro e u2 ⟨E2, n2, d2, rfl, le2, hb2⟩
 obtain rfl : n2 = 4 := by rw [← le2.len, leB_length]
 have B2 := below_then ab1 hb2
 go_wp2_with (at_builtin; refine wp_appB rfl _ _ rfl B2 (Nat.le_refl _) B2.size X1 8 y1 ([80, 72, 82, 67] ++ leB r.g 4) rfl (ao1.below hb2) E2 4 d2 (leB r.s 4) rfl le2.rd (by omega) 12 ([80, 72, 82, 67] ++ leB r.g 4 ++ leB r.s 4) rfl rfl ?_; intro X2 y2 z2 ao2 ab2 ag2; have jc2 := (Q.out.up ab2).c2)
 refine (refLe_any r.m 4 z2 (by omega)).mono ?_
 rw [show clamp 4 = 4 from rfl]
 rintro e u3 ⟨E3, n3, d3, rfl, le3, hb3⟩
 obtain rfl : n3 = 4 := by rw [← le3.len, leB_length]
 have B3 := below_then ab2 hb3
 go_wp2_with (at_builtin; refine wp_appB rfl _ _ rfl B3 (Nat.le_refl _) B3.size X2 12 y2 ([80, 72, 82, 67] ++ leB r.g 4 ++ leB r.s 4) rfl (ao2.below hb3) E3 4 d3 (leB r.m 4) rfl le3.rd (by omega) 16 ([80, 72, 82, 67] ++ leB r.g 4 ++ leB r.s 4 ++ leB r.m 4) rfl rfl ?_; intro X3 y3 z3 ao3 ab3 ag3; have jc3 := (Q.out.up ab3).c3)
 refine (refLe_any r.t 8 z3 (by omega)).mono ?_
 rw [show clamp 8 = 8 from rfl]
 rintro e u4 ⟨E4, n4, d4, rfl, le4, hb4⟩
 obtain rfl : n4 = 8 := by rw [← le4.len, leB_length]
 have B4 := below_then ab3 hb4
 go_wp2_with (first
  | (at_builtin; refine wp_appB rfl _ _ rfl (ab4.alloc ab4.size _) (Nat.le_refl _) (by have := ab4.size; simp; omega) X4 24 y4 ([80, 72, 82, 67] ++ leB r.g 4 ++ leB r.s 4 ++ leB r.m 4 ++ leB r.t 8) rfl (ao4.alloc _) (some ⟨z4.heap.size, 0, none⟩) 2 2 [UInt8.ofNat kn, UInt8.ofNat n] rfl (rdK rfl _ _ _ (by rfl) rfl (by simp [maxLen])) (by omega) 26 ([80, 72, 82, 67] ++ leB r.g 4 ++ leB r.s 4 ++ leB r.m 4 ++ leB r.t 8 ++ [UInt8.ofNat kn, UInt8.ofNat n]) rfl rfl ?_; intro X9 y9 z9 ao9 ab9 ag9; have jc5 := (Q.out.up ab9).c5)
  | (at_builtin; refine wp_appB rfl _ _ rfl B4 (Nat.le_refl _) B4.size X3 16 y3 ([80, 72, 82, 67] ++ leB r.g 4 ++ leB r.s 4 ++ leB r.m 4) rfl (ao3.below hb4) E4 8 d4 (leB r.t 8) rfl le4.rd (by omega) 24 ([80, 72, 82, 67] ++ leB r.g 4 ++ leB r.s 4 ++ leB r.m 4 ++ leB r.t 8) rfl rfl ?_; intro X4 y4 z4 ao4 ab4 ag4; have jc4 := (Q.out.up ab4).c4; have jc6 := (Q.out.up ab4).c6; rw [HK.out] at jc4))
 refine (refLe_any r.c 8 z9 (by omega)).mono ?_
 rw [show clamp 8 = 8 from rfl]
 rintro e u5 ⟨E5, n5, d5, rfl, le5, hb5⟩
 obtain rfl : n5 = 8 := by rw [← le5.len, leB_length]
 have B5 := below_then ab9 hb5
 go_wp2_with (first
  | (at_builtin; refine wp_appZ rfl _ _ rfl ab11 (Nat.le_refl _) ab11.size X11 (34 + n) y11 ([80, 72, 82, 67] ++ leB r.g 4 ++ leB r.s 4 ++ leB r.m 4 ++ leB r.t 8 ++ [UInt8.ofNat kn, UInt8.ofNat n] ++ leB r.c 8 ++ r.b) rfl ao11 (220 - (34 + n)) .i64 _ rfl (by omega) (by omega) 220 (rcBody r) (by omega) HFIN.out ?_; intro X12 y12 z12 ao12 ab12 ag12)
  | (at_builtin; refine wp_appB rfl _ _ rfl ab10 (Nat.le_refl _) ab10.size X10 34 y10 ([80, 72, 82, 67] ++ leB r.g 4 ++ leB r.s 4 ++ leB r.m 4 ++ leB r.t 8 ++ [UInt8.ofNat kn, UInt8.ofNat n] ++ leB r.c 8) rfl ao10 A n c r.b rfl (rV.below ab10) (by omega) (34 + n) ([80, 72, 82, 67] ++ leB r.g 4 ++ leB r.s 4 ++ leB r.m 4 ++ leB r.t 8 ++ [UInt8.ofNat kn, UInt8.ofNat n] ++ leB r.c 8 ++ r.b) rfl rfl ?_; intro X11 y11 z11 ao11 ab11 ag11)
  | (at_builtin; refine wp_appB rfl _ _ rfl B5 (Nat.le_refl _) B5.size X9 26 y9 ([80, 72, 82, 67] ++ leB r.g 4 ++ leB r.s 4 ++ leB r.m 4 ++ leB r.t 8 ++ [UInt8.ofNat kn, UInt8.ofNat n]) rfl (ao9.below hb5) E5 8 d5 (leB r.c 8) rfl le5.rd (by omega) 34 ([80, 72, 82, 67] ++ leB r.g 4 ++ leB r.s 4 ++ leB r.m 4 ++ leB r.t 8 ++ [UInt8.ofNat kn, UInt8.ofNat n] ++ leB r.c 8) rfl rfl ?_; intro X10 y10 z10 ao10 ab10 ag10; have jc6 := (Q.out.up ab10).c6))
 go_ret
 exact ⟨_, _, _, rfl, OwnB.mono ao12 bV.size, below_then bV ab12⟩
set_option maxHeartbeats 8000000
theorem refPut12_no (r : Rc) (A : Option Addr) (n c : Nat) (w : World) (hr : RdB w A n c r.b) (hchk : r.chk = false) :
  Calls Tryz.prog 53 #[.agg (rcV r A n c).toArray] w (RetBE w [] 2) := by
 have hn := hr.n63
 have hl := hr.2.1
 obtain ⟨V, hV⟩ : ∃ V, V = w.alloc (.cells (rcV r A n c).toArray 90) := ⟨_, rfl⟩
 have bV : Below w.heap.size w V := by rw [hV]; exact (below_self w).alloc (Nat.le_refl _) _
 have q : RcAt V w.heap.size r A n c := by rw [hV]; exact rw_at _ rfl
 have hc := refCheck12_any r.t r.k r.c A n c V hn
 rw [show rcChk r.k r.c n = false by rw [← hl]; exact hchk] at hc
 have a3 := q.c3
 have a4 := q.c4
 have a5 := q.c5
 have a6 := q.c6
 rw [hV] at a3 a4 a5 a6
 have HC := Lib.hid hc
 have HV := Lib.hid hV
 obtain ⟨RV, hRV⟩ : ∃ z, z = (rcV r A n c).toArray := ⟨_, rfl⟩
 rw [← hRV] at HV a3 a4 a5 a6 ⊢
 clear hV hc q hRV hchk
 go_enter Tryz.func53, Tryz.ntmps53
 go_wp2_with fail
 rw [← HV.out]
 refine HC.out.mono ?_
 rintro e w2 ⟨rfl, hb2⟩
 clear a3 a4 a5 a6
 go_wp2
 go_ret2
 exact ⟨none, 0, 0, rfl, OwnB.nilB _ _, below_then bV hb2⟩
theorem refPut12_yes (r : Rc) (A : Option Addr) (n c : Nat) (w : World) (hok : r.ok) (hr : RdB w A n c r.b) (hchk : r.chk = true) :
  Calls Tryz.prog 53 #[.agg (rcV r A n c).toArray] w (RetBE w (rcL r) 0) := by
 have hn := hr.n63
 have hl := hr.2.1
 have hD := hok.2.2.2.2.2.2
 have hb186 := (rcChk_len hchk).1
 obtain ⟨V, hV⟩ : ∃ V, V = w.alloc (.cells (rcV r A n c).toArray 90) := ⟨_, rfl⟩
 have bV : Below w.heap.size w V := by rw [hV]; exact (below_self w).alloc (Nat.le_refl _) _
 have q : RcAt V w.heap.size r A n c := by rw [hV]; exact rw_at _ rfl
 have hc := refCheck12_any r.t r.k r.c A n c V hn
 rw [show rcChk r.k r.c n = true by rw [← hl]; exact hchk] at hc
 have a3 := q.c3
 have a4 := q.c4
 have a5 := q.c5
 have a6 := q.c6
 rw [hV] at a3 a4 a5 a6
 have HC := Lib.hid hc
 have HV := Lib.hid hV
 have Q := Lib.hid q
 have HLn := Lib.hid (fun W (h : RdB W A n c r.b) => refBody_any r A n c W hok hchk h)
 have hb186' : r.b.length ≤ 186 := by omega
 have HBD := Lib.hid (rcBody_len r hb186')
 have HLD := Lib.hid hD
 obtain ⟨RV, hRV⟩ : ∃ z, z = (rcV r A n c).toArray := ⟨_, rfl⟩
 have HRV := Lib.hid hRV
 rw [← hRV] at HV a3 a4 a5 a6 HLn ⊢
 clear hV hc q hRV hchk hok hD
 go_enter Tryz.func53, Tryz.ntmps53
 go_wp2_with fail
 rw [← HV.out]
 refine HC.out.mono ?_
 rintro e w2 ⟨rfl, hb2⟩
 have B2 := below_then bV hb2
 have Q2 := Lib.hid (Q.out.up hb2)
 clear a3 a4 a5 a6
 go_wp2_with fail
 refine wp_region_seg (S := fun w' => Below w2.heap.size w2 w') 0 (brw9 8 255) [(0, true), (2, true), (3, true), (1, false), (4, false), (5, false), (6, true), (7, true)] (by kernel_rfl) (by kernel_rfl) (fun _ _ d _ _ h => by first | (cases d <;> exact h) | cases h.1) ((Below.refl w2.heap.size w2).drew) ?_
 have HB := (Below.refl w2.heap.size w2).drew
 refine seg_take (v := .agg RV) rfl (Or.inl ⟨by rfl, fun w' hw' => ?_⟩) ?_
 focus (exact rex_load rfl rfl (HRV.out ▸ load_rc (rw_up Q2.out hw') HLD.out))
 try simp only [Act.put, pst3]
 iterate 2 (refine seg_take (v := ?_) rfl (Or.inl ⟨by rfl, ?_⟩) ?_; rotate_left; (focus (intro w' hw'; go_simp <;> with_reducible rfl)); try simp only [Act.put, pst3])
 refine seg_run rfl (fun K hK => ?_)
 go_simp
 refine (HLn.out _ (hr.below (below_then B2 HB))).mono ?_
 rintro e_ w3 ⟨gb, nb, db, rfl, rb, hb3⟩
 obtain rfl : nb = 220 := by rw [← rb.len, HBD.out]
 have HB0 := HB.size
 have HB := below_then HB hb3
 refine hK.out _ _ (HB) ?_
 clear hK
 try simp only [Act.put, pst3]
 refine seg_run rfl (fun K hK => ?_)
 rw [if_pos (by rfl)]
 refine op_appB _ _ rfl HB (Nat.le_refl _) HB.size gb 220 db (rcBody r) rfl (rb.mono HB0) (some ⟨w.heap.size, 7, none⟩) 32 32 r.D rfl ((Q2.out.dig HLD.out).below HB) (by omega) 252 (rcBody r ++ r.D) rfl rfl ?_
 intro AJ cJ wJ oJ HJb HJg
 have HB := HJb
 refine hK.out _ _ (HB) ?_
 clear hK
 try simp only [Act.put, pst3]
 refine seg_run rfl (fun K hK => ?_)
 go_simp
 refine (refClosed_any AJ 252 cJ _ _ oJ.rd (by omega)).mono ?_
 rintro e_ wC ⟨AC, nC, cC, rfl, oC, HCb⟩
 have HB0 := HB.size
 have HB := below_then HB HCb
 refine hK.out _ _ (HB) ?_
 clear hK
 try simp only [Act.put, pst3]
 iterate 2 (refine seg_take (v := ?_) rfl (Or.inl ⟨by rfl, ?_⟩) ?_; rotate_left; (focus (intro w' hw'; go_simp <;> with_reducible rfl)); try simp only [Act.put, pst3])
 refine seg_done (fun _ => ?_)
 refine wpAnyH_done (by kernel_rfl) ?_ _
 go_wp2
 go_ret2
 have zz := B2.size
 refine ⟨_, _, _, rfl, ?_, below_then B2 HB⟩
 show OwnB wC w.heap.size AC nC cC (crcClosed (rcBody r ++ r.D))
 exact OwnB.mono oC (by omega)
theorem refPut12_any (r : Rc) (A : Option Addr) (n c : Nat) (w : World) (hok : r.ok) (hr : RdB w A n c r.b) :
  Calls Tryz.prog 53 #[.agg (rcV r A n c).toArray] w (RetBE w (rcPutL r) (rcPutE r)) := by
 unfold rcPutL rcPutE
 cases h : r.chk with
 | false => rw [if_neg (by decide), if_neg (by decide)]; exact refPut12_no r A n c w hr h
 | true => rw [if_pos rfl, if_pos rfl]; exact refPut12_yes r A n c w hok hr h
set_option maxHeartbeats 8000000
theorem refWords_short (A : Option Addr) (n c : Nat) (xs : List UInt8) (w : World) (hr : RdB w A n c xs) (h : n ≠ 64) :
  Calls Tryz.prog 123 #[.slice A n c] w (RetW w (shWords xs)) := by
 have hn := hr.n63
 have e : shWords xs = z64 := by unfold shWords; rw [if_neg (by rw [hr.2.1]; exact h)]; rfl
 rw [e]
 have d1 : ((n : Int) != 64) = true := by rw [bne_iff_ne]; omega
 have H0 := Lib.hid (show ((w.alloc (.cells zz2 166)).alloc (.cells zz2 166)).heap[w.heap.size]? = some (.cells (wsV z64) 166 (0, 0)) by rw [z64_V]; exact row2a ..)
 have H1 := Lib.hid (show ((w.alloc (.cells zz2 166)).alloc (.cells zz2 166)).heap[w.heap.size + 1]? = some (.cells (wsV z64) 166 (0, 0)) by rw [z64_V]; exact row2b ..)
 clear h e
 go_enter Tryz.func123, Tryz.ntmps123
 go_wp2_with (first
  | (refine w64_load rfl _ rfl (w.heap.size + 1) rfl z64 166 H1.out rfl ?_)
  | (refine w64_store rfl _ _ rfl w.heap.size rfl z64 z64 rfl 166 H0.out rfl rfl ?_))
 refine bodyPost_ret (results_cell_row Tryz.results123 _ _ w.heap.size 166 (wsV z64) (0, 0) _ rfl (setRow_heap _ _ _ (wsV z64) _ _ H0.out) Tryz.underlying166 rfl (info64 z64 rfl)) rfl ?_
 exact ⟨rfl, below_setRow (((below_self w).alloc (Nat.le_refl _) _).alloc (by simp) _) (Nat.le_refl _) _⟩
set_option maxRecDepth 100000 in
theorem refWords_long (A : Option Addr) (c : Nat) (xs : List UInt8) (w : World) (hr : RdB w A 64 c xs) :
  Calls Tryz.prog 123 #[.slice A 64 c] w (RetW w (shWords xs)) := by
 have hl := hr.2.1
 have hc := hr.2.2.1
 have hc63 := hr.c63
 have e : shWords xs = shWs xs 64 := by unfold shWords; rw [if_pos hl]
 rw [e]
 have d1 : ((64 : Int) != 64) = false := by decide
 obtain ⟨b, o, u, rfl, hbl, _⟩ := hr.at_ 0 (by omega)
 have HL := Lib.hid hl
 clear hl e
 go_enter Tryz.func123, Tryz.ntmps123
 go_wp2_with fail
 obtain ⟨W, hW⟩ : ∃ W, W = (w.alloc (.cells zz2 166)).alloc (.cells zz2 166) := ⟨_, rfl⟩
 have bW : Below w.heap.size w W := by rw [hW]; exact ((below_self w).alloc (Nat.le_refl _) _).alloc (by simp) _
 have h0 : W.heap[w.heap.size]? = some (.cells (wsV z64) 166 (0, 0)) := by rw [hW, z64_V]; exact row2a ..
 have h1 : W.heap[w.heap.size + 1]? = some (.cells (wsV z64) 166 (0, 0)) := by rw [hW, z64_V]; exact row2b ..
 have zW : w.heap.size + 1 < W.heap.size := by rw [hW]; simp
 rw [← hW]
 clear hW
 go_loopw [4] (fun v wr => WrI w xs v wr ∧ intOf v ≤ 16) (fun i _ => 16 - (intOf i).toNat)
 case atStart => exact ⟨⟨0, by omega, rfl, by rw [wsP_zero]; exact h1, h0, bW, zW⟩, by simp [intOf]⟩
 case round =>
  obtain ⟨⟨k, hk, rfl, r3, r2, HB, hz⟩, hk16⟩ := hrel
  simp only [intOf] at hk16
  clear h0 h1 zW bW
  by_cases h16 : k < 16
  ·have hlt : k < 64 := by omega
   have R3 := Lib.hid r3
   have R2 := Lib.hid r2
   have hset := wsP_set xs k hlt
   have HS := Lib.hid hset
   have old := (cell_of_row wr _ k _ _ _ r3).trans (wsV_get _ k (by rw [wsP_len _ _ (by omega)]; exact hlt))
   have frz : wr.frozen? ⟨w.heap.size + 1, k, none⟩ = false := frozen_of_row _ _ _ _ _ r3
   have HOLD := Lib.hid old
   clear r3 r2 hset old
   obtain ⟨p, hp⟩ : ∃ p, p = 4 * k := ⟨_, rfl⟩
   have rc := ((hr.below HB).cutS p (64 - p) (by omega) (by omega)).take 4 (by omega)
   have hF : fromBe ((xs.drop p).take 4) = shWord xs (shWs xs k) k := by
    unfold fromBe shWord; rw [if_pos h16, List.take_take, hp]; rfl
   have hF2 : shWord xs (shWs xs k) k < 4294967296 := shWord_lt _ _ _
   generalize shWord xs (shWs xs k) k = M at *
   have HF := Lib.hid hF
   have wM : IntKind.u32.wrap (M : Int) = M := by rw [IntKind.wrap_u32]; omega
   have oo := HOLD.out
   obtain ⟨u9, hu9⟩ : ∃ u : Nat, (wsP xs k).getD k 0 = u := ⟨_, rfl⟩
   rw [hu9] at oo
   obtain ⟨q, hq⟩ : ∃ q, q = p + 4 := ⟨_, rfl⟩
   have a1 : (4 : Int) * (k : Int) = (p : Int) := by omega
   have a2 : (p : Int) + 4 = (q : Int) := by omega
   have a3 : (q : Int) ≤ (c : Int) := by omega
   have a4 : ¬ (c = p) := by omega
   have a5 : q - p = 4 := by omega
   have a6 : (p : Int) ≤ (q : Int) := by omega
   clear hF hu9 hp hq
   go_wp2_with fail
   refine (refFromBe_any _ _ _ _ _ rc).mono ?_
   rintro e w1 ⟨rfl, rfl⟩
   rw [HF.out]
   go_wp2_with fail
   go_roundw
   case rel => exact ⟨⟨k + 1, by omega, by go_num, by rw [setc_rowT R3.out, wsV_set, HS.out], (Below.heap_setCell _ _ _ _ (by simp)).trans R2.out, HB.setCell (p := ⟨w.heap.size + 1, k, none⟩) (by simp) _, by simp [World.setCell]; omega⟩, by simp [intOf]; omega⟩
   case measure => simp [intOf]; omega
  ·obtain rfl : k = 16 := by omega
   rw [show ((16 : Nat) : Int) = 16 from rfl]
   go_wp2_with fail
   go_loopw [5, 6, 7] (fun v _ _ w2 => WrI w xs v w2 ∧ 16 ≤ intOf v) (fun i _ _ _ => 64 - (intOf i).toNat)
   case atStart => exact ⟨⟨16, by omega, rfl, r3, r2, HB, hz⟩, by simp [intOf]⟩
   case round =>
    clear r3 r2 HB hz hk hk16
    obtain ⟨⟨k, hk, rfl, r3, r2, HB, hz⟩, hk16⟩ := hrel
    simp only [intOf] at hk16
    by_cases hlt : k < 64
    ·have R3 := Lib.hid r3
     have R2 := Lib.hid r2
     have hset := wsP_set xs k hlt
     have HS := Lib.hid hset
     have old := (cell_of_row wr _ k _ _ _ r3).trans (wsV_get _ k (by rw [wsP_len _ _ (by omega)]; exact hlt))
     have frz : wr.frozen? ⟨w.heap.size + 1, k, none⟩ = false := frozen_of_row _ _ _ _ _ r3
     have cell : ∀ j, j < k → wr.cell? ⟨w.heap.size + 1, j, none⟩ = some (.int .u32 (((shWs xs k).getD j 0 : Nat) : Int)) := fun j hj => by
      rw [← wsP_get xs k j hj]
      exact (cell_of_row wr _ j _ _ _ R3.out).trans (wsV_get _ j (by rw [wsP_len _ _ (by omega)]; omega))
     have hword : shWord xs (shWs xs k) k = shSig (shWs xs k) k := by unfold shWord; rw [if_neg (by omega)]
     have l15 := ws_lt xs k (k - 15)
     have l2 := ws_lt xs k (k - 2)
     have l7 := ws_lt xs k (k - 7)
     have l16 := ws_lt xs k (k - 16)
     have c15 := cell (k - 15) (by omega)
     have c2 := cell (k - 2) (by omega)
     have c7 := cell (k - 7) (by omega)
     have c16 := cell (k - 16) (by omega)
     have hsig : shSig (shWs xs k) k = ((shMix ((shWs xs k).getD (k - 2) 0) [17, 19] ^^^ (shWs xs k).getD (k - 2) 0 / 1024) + ((shWs xs k).getD (k - 7) 0 + (shWs xs k).getD (k - 16) 0 + (shMix ((shWs xs k).getD (k - 15) 0) [7, 18] ^^^ (shWs xs k).getD (k - 15) 0 / 8))) % 4294967296 := rfl
     rw [shMix2, shMix2] at hsig
     rw [hword, hsig] at HS
     obtain ⟨u9, hu9⟩ : ∃ u : Nat, (wsP xs k).getD k 0 = u := ⟨_, rfl⟩
     rw [hu9] at old
     generalize (shWs xs k).getD (k - 15) 0 = far at *
     generalize (shWs xs k).getD (k - 2) 0 = near at *
     generalize (shWs xs k).getD (k - 7) 0 = s7 at *
     generalize (shWs xs k).getD (k - 16) 0 = s16 at *
     obtain ⟨j15, e15⟩ : ∃ j, j = k - 15 := ⟨_, rfl⟩
     obtain ⟨j2, e2⟩ : ∃ j, j = k - 2 := ⟨_, rfl⟩
     obtain ⟨j7, e7⟩ : ∃ j, j = k - 7 := ⟨_, rfl⟩
     obtain ⟨j16, e16⟩ : ∃ j, j = k - 16 := ⟨_, rfl⟩
     rw [← e15] at c15
     rw [← e2] at c2
     rw [← e7] at c7
     rw [← e16] at c16
     have m15 : (k : Int) - 15 = (j15 : Int) := by omega
     have m2 : (k : Int) - 2 = (j2 : Int) := by omega
     have m7 : (k : Int) - 7 = (j7 : Int) := by omega
     have m16 : (k : Int) - 16 = (j16 : Int) := by omega
     have b15 : j15 < 64 := by omega
     have b2 : j2 < 64 := by omega
     have b7 : j7 < 64 := by omega
     have b16 : j16 < 64 := by omega
     have b15i : (j15 : Int) < 64 := by omega
     have b2i : (j2 : Int) < 64 := by omega
     have b7i : (j7 : Int) < 64 := by omega
     have b16i : (j16 : Int) < 64 := by omega
     have bki : (k : Int) < 64 := by omega
     have w15 := wi64n (k := j15) (by omega)
     have w2 := wi64n (k := j2) (by omega)
     have w7 := wi64n (k := j7) (by omega)
     have w16 := wi64n (k := j16) (by omega)
     obtain ⟨n10, hn10⟩ : ∃ n, near / 1024 = n := ⟨_, rfl⟩
     obtain ⟨f3, hf3⟩ : ∃ n, far / 8 = n := ⟨_, rfl⟩
     have q10 : (near : Int) / 1024 = (n10 : Int) := by omega
     have q3 : (far : Int) / 8 = (f3 : Int) := by omega
     rw [hn10, hf3] at HS
     have t7 := ror_lt 7 l15
     have t18 := ror_lt 18 l15
     have t17 := ror_lt 17 l2
     have t19 := ror_lt 19 l2
     have x1 := u32_xor_nat (ror far 7) (ror far 18) t7 t18
     have x1l := xor_lt32 t7 t18
     have x2 := u32_xor_nat (ror near 17) (ror near 19) t17 t19
     have x2l := xor_lt32 t17 t19
     have K7 := Lib.hid (fun W => refRot_any far 7 W l15 (by omega) (by omega))
     have K18 := Lib.hid (fun W => refRot_any far 18 W l15 (by omega) (by omega))
     have K17 := Lib.hid (fun W => refRot_any near 17 W l2 (by omega) (by omega))
     have K19 := Lib.hid (fun W => refRot_any near 19 W l2 (by omega) (by omega))
     generalize ror far 7 ^^^ ror far 18 = X1 at *
     generalize ror near 17 ^^^ ror near 19 = X2 at *
     generalize ror far 7 = r7 at *
     generalize ror far 18 = r18 at *
     generalize ror near 17 = r17 at *
     generalize ror near 19 = r19 at *
     have y1 := u32_xor_nat X1 f3 x1l (by omega)
     have y1l := xor_lt32 x1l (show f3 < 4294967296 by omega)
     have y2 := u32_xor_nat X2 n10 x2l (by omega)
     have y2l := xor_lt32 x2l (show n10 < 4294967296 by omega)
     generalize X1 ^^^ f3 = Y1 at *
     generalize X2 ^^^ n10 = Y2 at *
     obtain ⟨p1, hp1⟩ : ∃ p, p = (s16 + Y1) % 4294967296 := ⟨_, rfl⟩
     obtain ⟨p2, hp2⟩ : ∃ p, p = (p1 + s7) % 4294967296 := ⟨_, rfl⟩
     obtain ⟨P, hP⟩ : ∃ p, p = (p2 + Y2) % 4294967296 := ⟨_, rfl⟩
     have v1 : IntKind.u32.wrap ((s16 : Int) + (Y1 : Int)) = (p1 : Int) := by rw [IntKind.wrap_u32]; omega
     have v2 : IntKind.u32.wrap ((p1 : Int) + (s7 : Int)) = (p2 : Int) := by rw [IntKind.wrap_u32]; omega
     have v3 : IntKind.u32.wrap ((p2 : Int) + (Y2 : Int)) = (P : Int) := by rw [IntKind.wrap_u32]; omega
     rw [show (Y2 + (s7 + s16 + Y1)) % 4294967296 = P by omega] at HS
     have HSS := Lib.hid HS.out
     have hg3 : w.heap.size + 1 < wr.heap.size := hz
     clear r3 r2 hset cell hword hsig hu9 e15 e2 e7 e16 hn10 hf3 l15 l2 l7 l16 HS t7 t18 t17 t19 x1l x2l y1l y2l hp1 hp2 hP
     go_wp2_with fail
     refine wp_region_plan (S := fun w' => Below wr.heap.size wr w') [(0, true), (1, true), (2, true), (3, true), (4, true), (5, true), (6, true), (7, true), (8, true), (9, true)] (by kernel_rfl) (by kernel_rfl) (fun _ _ d _ _ h => by cases d <;> exact h) ((Below.refl _ wr).drew) ?_
     iterate 10 (refine plan_take (v := ?_) rfl (Or.inl ⟨by rfl, ?_⟩) ?_; rotate_left; (focus (intro w' hw'; have jj := (hw'.cell (p := ⟨w.heap.size + 1, j15, none⟩) hg3).trans c15; have jk := (hw'.cell (p := ⟨w.heap.size + 1, j2, none⟩) hg3).trans c2; go_simp <;> with_reducible rfl)); try simp only [Act.put, pst3])
     refine plan_done ?_
     go_wp2_with fail
     obtain ⟨V, hV⟩ : ∃ V, V = wr.drew := ⟨_, rfl⟩
     rw [← hV]
     have bV : Below wr.heap.size wr V := by rw [hV]; exact (Below.refl _ _).drew
     have zV : w.heap.size + 1 < V.heap.size := Nat.lt_of_lt_of_le hg3 bV.size
     have oV := (bV.cell (p := ⟨w.heap.size + 1, k, none⟩) hg3).trans old
     have fV := (bV.frozen (p := ⟨w.heap.size + 1, k, none⟩) hg3).trans frz
     have c7V := (bV.cell (p := ⟨w.heap.size + 1, j7, none⟩) hg3).trans c7
     have c16V := (bV.cell (p := ⟨w.heap.size + 1, j16, none⟩) hg3).trans c16
     have R3V := Lib.hid ((bV.block _ hg3).trans R3.out)
     have R2V := Lib.hid ((bV.block _ (by omega)).trans R2.out)
     have HBV := HB.trans (bV.mono HB.size)
     clear hV c15 c2 c7 c16 old frz
     refine wp_region_last (S := fun w' => Below V.heap.size V w') 29 (brw9 30 536870911) [(0, true), (1, true), (2, true), (3, true), (4, true), (5, true), (7, true), (10, true), (11, true), (14, true), (15, true), (16, true), (17, true), (19, true), (21, true), (24, true), (25, true), (6, false), (8, false), (9, true), (12, true), (13, true), (18, true), (20, false), (22, false), (23, true), (26, true), (27, true), (28, true)] (by kernel_rfl) (by kernel_rfl) (fun _ _ d _ _ h => by cases d <;> exact h) ((Below.refl _ V).drew) ?_
     iterate 17 (refine seg_take (v := ?_) rfl (Or.inl ⟨by rfl, ?_⟩) ?_; rotate_left; (focus (intro w' hw'; have jk := (hw'.cell (p := ⟨w.heap.size + 1, j7, none⟩) zV).trans c7V; have jl := (hw'.cell (p := ⟨w.heap.size + 1, j16, none⟩) zV).trans c16V; go_simp <;> with_reducible rfl)); try simp only [Act.put, pst3])
     refine seg_run rfl (fun K hK => ?_)
     go_simp
     refine (K7.out _).mono ?_
     rintro e v1 ⟨rfl, rfl⟩
     have HB1 := (Below.refl V.heap.size V).drew
     refine hK.out _ _ (HB1) ?_
     clear hK
     try simp only [Act.put, pst3]
     refine seg_run rfl (fun K hK => ?_)
     go_simp
     refine (K18.out _).mono ?_
     rintro e v1 ⟨rfl, rfl⟩
     refine hK.out _ _ (HB1) ?_
     clear hK
     try simp only [Act.put, pst3]
     iterate 4 (refine seg_take (v := ?_) rfl (Or.inl ⟨by rfl, ?_⟩) ?_; rotate_left; (focus (intro w' hw'; have jk := (hw'.cell (p := ⟨w.heap.size + 1, j7, none⟩) zV).trans c7V; have jl := (hw'.cell (p := ⟨w.heap.size + 1, j16, none⟩) zV).trans c16V; go_simp <;> with_reducible rfl)); try simp only [Act.put, pst3])
     refine seg_run rfl (fun K hK => ?_)
     go_simp
     refine (K17.out _).mono ?_
     rintro e v1 ⟨rfl, rfl⟩
     refine hK.out _ _ (HB1) ?_
     clear hK
     try simp only [Act.put, pst3]
     refine seg_run rfl (fun K hK => ?_)
     go_simp
     refine (K19.out _).mono ?_
     rintro e v1 ⟨rfl, rfl⟩
     refine hK.out _ _ (HB1) ?_
     clear hK
     try simp only [Act.put, pst3]
     iterate 4 (refine seg_take (v := ?_) rfl (Or.inl ⟨by rfl, ?_⟩) ?_; rotate_left; (focus (intro w' hw'; have jk := (hw'.cell (p := ⟨w.heap.size + 1, j7, none⟩) zV).trans c7V; have jl := (hw'.cell (p := ⟨w.heap.size + 1, j16, none⟩) zV).trans c16V; go_simp <;> with_reducible rfl)); try simp only [Act.put, pst3])
     refine seg_done ?_
     refine last_run rfl (fun K hK => ?_)
     go_simp
     have o5 := (HB1.cell (p := ⟨w.heap.size + 1, k, none⟩) zV).trans oV
     have f5 := (HB1.frozen (p := ⟨w.heap.size + 1, k, none⟩) zV).trans fV
     go_simp
     refine hK.out _ _ ?_
     clear hK
     try simp only [Act.put, pst3]
     have z5 := HB1.size
     have R35 := Lib.hid ((HB1.block _ zV).trans R3V.out)
     have R25 := Lib.hid ((HB1.block _ (by omega)).trans R2V.out)
     clear o5 f5
     go_wp2_with fail
     go_roundw
     case rel =>
      refine ⟨⟨k + 1, by omega, by go_num, ?_, ?_, (HBV.setCell (p := ⟨w.heap.size + 1, k, none⟩) (by simp) _).drew, by simp [World.setCell, World.drew]; omega⟩, by simp [intOf]; omega⟩
      ·show (V.setCell ⟨w.heap.size + 1, k, none⟩ _).heap[w.heap.size + 1]? = _
       rw [setc_rowT R3V.out, wsV_set, HSS.out]
      ·show (V.setCell ⟨w.heap.size + 1, k, none⟩ _).heap[w.heap.size]? = _
       exact (Below.heap_setCell _ _ _ _ (by simp)).trans R2V.out
     case measure => simp [intOf]; omega
    ·obtain rfl : k = 64 := by omega
     rw [wsP_all] at r3
     have R3 := Lib.hid r3
     have R2 := Lib.hid r2
     have hl := Lib.hid (shWs_len xs 64)
     clear r3 r2
     go_wp2_with (first
      | (refine w64_load rfl _ rfl (w.heap.size + 1) rfl (shWs xs 64) 166 R3.out hl.out ?_)
      | (refine w64_store rfl _ _ rfl w.heap.size rfl (shWs xs 64) z64 rfl 166 R2.out hl.out rfl ?_))
     refine bodyPost_ret (results_cell_row Tryz.results123 _ _ w.heap.size 166 (wsV (shWs xs 64)) (0, 0) _ rfl (setRow_heap _ _ _ (wsV (shWs xs 64)) _ _ R2.out) Tryz.underlying166 rfl (info64 _ hl.out)) rfl ?_
     exact ⟨rfl, below_setRow HB (Nat.le_refl _) _⟩
theorem refWords_any (A : Option Addr) (n c : Nat) (xs : List UInt8) (w : World) (hr : RdB w A n c xs) : Calls Tryz.prog 123 #[.slice A n c] w (RetW w (shWords xs)) := by
 by_cases h : n = 64
 ·subst h; exact refWords_long A c xs w hr
 ·exact refWords_short A n c xs w hr h
section
variable {P : Program} {ops : Array Oper} {Q : Exit → Act → World → Prop} {S : World → Prop}
theorem wpAnyH_dp {J : Type} (lst : J → Array Bool) (cand : J → List (Nat × J)) (mu : J → Nat) (k0 : Nat) (I : J → Act → World → Prop)
  (hB : ∀ x, cand x = [] ∨ (Region.ready .any ops (lst x) == (cand x).map (·.1) && (cand x).all (fun p => lst p.2 == (lst x).setIfInBounds p.1 true && mu p.2 + 1 == mu x)) = true)
  (hstep : ∀ x a w, I x a w → S w → ∀ p ∈ cand x, wpOp P ops Q p.1 (fun a' w' => S w' ∧ I p.2 a' w') a w)
  (hfin : ∀ x a w, cand x = [] → I x a w → S w → wpAnyH P .any ops Q S k0 (lst x) a w) (h0 : ∀ x, cand x = [] → mu x = 0) :
  ∀ (m : Nat) x a w, mu x = m → I x a w → S w → wpAnyH P .any ops Q S (k0 + m) (lst x) a w := by
 intro m
 induction m with
 | zero =>
  intro x a w hm hI hS
  by_cases hc : cand x = []
  ·exact hfin x a w hc hI hS
  ·rcases hB x with h | h
   ·exact absurd h hc
   ·obtain ⟨p, hp⟩ := List.exists_mem_of_ne_nil _ hc
    rw [Bool.and_eq_true] at h
    have h2 := List.all_eq_true.1 h.2 p hp
    simp only [Bool.and_eq_true, beq_iff_eq] at h2
    omega
 | succ m ih =>
  intro x a w hm hI hS
  have hc : cand x ≠ [] := fun h => by have := h0 x h; omega
  rcases hB x with h | h
  ·exact absurd h hc
  ·rw [Bool.and_eq_true] at h
   refine wpAnyH_all (rs := (cand x).map (·.1)) (by simpa using h.1) (by simpa using hc) (fun j hj => ?_)
   obtain ⟨p, hp, rfl⟩ := List.mem_map.1 hj
   have h2 := List.all_eq_true.1 h.2 p hp
   simp only [Bool.and_eq_true, beq_iff_eq] at h2
   refine wpOp_mono (fun a' w' hh => ⟨hh.1, ?_⟩) (hstep x a w hI hS p hp)
   rw [← h2.1]
   exact ih p.2 a' w' (by omega) hh.2 hh.1
end
theorem ex_loadP {P : Program} {o : Oper} {a : Act} {w : World} {ty : TypeId} {x : Operand} {p : Addr} {v : Value} (ho : o.op = .load ty x) (hx : a.eval x = .pointer (some p)) (hl : (loadVar ty p).run P w = .ok v w) : (execOp a.eval o).run P w = .ok (.value v) w := by
 unfold execOp
 simp only [ho, hx, Instr.loadAt, Instr.sureAddr, Sem.run_bind, Sem.run_pure, Result.andThen_ok, hl]
end Go.Proofs.YtpahicfnhhhifaaGreat
