/-
 Proved here, for the statement JournalForged:
 Layer 14: the law JournalForged.
-/
import Derived.Test.YtpahicfnhhhifaaGreatGf23
import Derived.Test.YtpahicfnhhhifaaGreatGf26
set_option linter.unusedVariables false
set_option linter.unusedSimpArgs false
namespace Go.Proofs.YtpahicfnhhhifaaGreat
set_option maxRecDepth 20000
open Go.RowKit
set_option maxHeartbeats 8000000
theorem chain_each (g : Nat) : ∀ (l : List Rc) (P : List UInt8) (i : Nat), RcChain P g i l → ∀ r ∈ l, r.chk = true ∧ r.D.length = 32
 | [], _, _, _, r, hr => by simp at hr
 | x :: l, P, i, h, r, hr => by
  rcases List.mem_cons.1 hr with rfl | hr
  ·exact ⟨h.1.2.1, by rw [h.1.2.2.2.2]; exact shOf_len _⟩
  ·exact chain_each g l x.D (i + 1) h.2 r hr
theorem jnRecs_len (D : Dk) (g : Nat) : ∀ (k i : Nat) (P : List UInt8), (jnRecs D g k i P).length ≤ k
 | 0, i, P => Nat.le_refl _
 | k + 1, i, P => by
  unfold jnRecs
  split
  ·have := jnRecs_len D g k (i + 1) (rcGet (dkRead D (98 + (i : Int)))).D
   simp; omega
  ·simp
theorem jnLoad_facts (D : Dk) (h : jnLoadE D = 0) : (jnHad D (jnLoadS D)).length ≤ 12288 ∧ (jnLoadR D).length ≤ 158 ∧ RcChain (jnBase (jnHad D (jnLoadS D))) (jnLoadS D).g 0 (jnLoadR D) := by
 unfold jnLoadE at h
 cases hok : dkOk D with
 | false => rw [if_pos hok] at h; cases h
 | true =>
  rw [if_neg (by simp [hok])] at h
  by_cases hl : D.s.length < 98
  ·rw [if_pos hl] at h; cases h
  ·rw [if_neg hl] at h
   by_cases hE : suChE (dkRead D 0) (dkRead D 1) = 0
   ·rw [if_neg (fun x => x hE)] at h
    by_cases hB : jnBase (jnHad D (jnLoadS D)) = (jnLoadS D).D
    ·have hck : suCheck (jnLoadS D).s (jnLoadS D).l = true := suCh_chk _ _ hE
     have h1 := of_decide_eq_true hck
     have h2 := ((dkOk_iff D).1 hok).1
     refine ⟨by unfold jnHad; rw [List.length_take]; omega, Nat.le_trans (jnRecs_len D _ _ _ _) (by omega), ?_⟩
     rw [hB]; exact jnLoadR_is D
    ·rw [if_pos hB] at h; cases h
   ·rw [if_pos hE] at h; exact absurd h hE
theorem load_some (D : Dk) : ∃ (S : Su) (st : List UInt8) (rs : List Rc), (∀ AV W, DkVal AV W D → Calls Tryz.prog 31 #[.agg AV] W (RetLd W S st rs (jnLoadE D))) ∧ S.D.length = 32 ∧ (jnLoadE D = 0 → st.length ≤ 12288 ∧ rs.length ≤ 158 ∧ ∃ g, RcChain (jnBase st) g 0 rs) := by
 by_cases h : jnLoadE D = 0
 ·refine ⟨jnLoadS D, jnHad D (jnLoadS D), jnLoadR D, fun AV W v => (jrnLoad_any AV D W v).mono fun e w' hh => by rw [h]; exact hh.1 h, ?_, fun _ => ?_⟩
  ·show (suCh _ _).D.length = 32
   unfold suCh
   split
   ·exact suGet_len _
   ·split
    ·exact suGet_len _
    ·rfl
  ·obtain ⟨h1, h2, h3⟩ := jnLoad_facts D h
   exact ⟨h1, h2, _, h3⟩
 ·exact ⟨suZ, [], [], fun AV W v => (jrnLoad_any AV D W v).mono fun e w' hh => hh.2 h, rfl, fun e => absurd e h⟩
theorem txR_bound (B : Nat) (hB : 252 ≤ B) (g : Nat) : ∀ (l : List Rc) (P : List UInt8) (i : Nat), P.length = 32 → RcChain P g i l → ∀ y ∈ txR P l, y.length ≤ B
 | [], P, i, _, _, y, hy => by simp [txR] at hy
 | r :: l, P, i, hP, h, y, hy => by
  rcases List.mem_cons.1 hy with rfl | hy
  ·have := (rcChk_len h.1.2.1).1
   rw [List.length_append, rcBody_len r (by omega), hP]; omega
  ·exact txR_bound B hB g l r.D (i + 1) (by rw [h.1.2.2.2.2]; exact shOf_len _) h.2 y hy
theorem txA_bound (st : List UInt8) (g : Nat) (l : List Rc) (h : st.length ≤ 12288) (hc : RcChain (jnBase st) g 0 l) (k : Nat) (hk : k < l.length + 1) : ((txA st l).getD k []).length ≤ 20000 := by
 have hm : (txA st l).getD k [] ∈ txA st l := by rw [List.getD_eq_getElem?_getD, List.getElem?_eq_getElem (by rw [txA_len]; exact hk)]; exact List.getElem_mem _
 rcases List.mem_cons.1 (show _ ∈ (st ++ [1]) :: txR (jnBase st) l from hm) with e | e
 ·rw [e]; simp; omega
 ·exact Nat.le_trans (txR_bound 252 (by omega) g l _ 0 (jnBase_len' st) hc _ e) (by omega)
theorem su_freshF {ops : Array Oper} {rest : List Oper} {o : Oper} {a : Act} {w : World} {Q : Exit → Act → World → Prop} {h : Nat} (y : Su) (hgd : o.guard = none) (x z : Operand) (ho : o.op = .store 33 x z) (hx : a.eval x = .pointer (some ⟨h, 0, none⟩)) (hz : a.eval z = .agg y.v) (w0 : World) (hw : w = w0.alloc (.cells zz1 33)) (hh : w0.heap.size = h) (hl : y.D.length = 32)
  (hK : ∀ X, Hid (X.heap[h]? = some (.cells y.v 33 (0, 0))) → Below w0.heap.size w0 X → wpList Tryz.prog ops Q rest (a.put o.dst undef) X) : wpList Tryz.prog ops Q (o :: rest) a w := by
 subst hw
 have hrow : (w0.alloc (.cells zz1 33)).heap[h]? = some (.cells suZ.v 33 (0, 0)) := by rw [suZ_v]; exact drw_at _ hh
 exact su_store hgd x z ho h hx y suZ hz hrow hl suZ_len (hK _ (Lib.hid (setRow_heap _ _ _ y.v _ _ hrow)) (below_setRow ((below_self w0).alloc (Nat.le_refl _) _) (by omega) _))
theorem dg_fresh {ops : Array Oper} {rest : List Oper} {o : Oper} {a : Act} {w : World} {Q : Exit → Act → World → Prop} {h : Nat} (D : List UInt8) (hgd : o.guard = none) (x z : Operand) (ho : o.op = .store 30 x z) (hx : a.eval x = .pointer (some ⟨h, 0, none⟩)) (hz : a.eval z = .agg (dgA D)) (w0 : World) (hw : w = w0.alloc (.cells zz4 30)) (hh : w0.heap.size = h) (hl : D.length = 32)
  (hK : ∀ X, Hid (X.heap[h]? = some (.cells (dgA D) 30 (0, 0))) → Below w0.heap.size w0 X → wpList Tryz.prog ops Q rest (a.put o.dst undef) X) : wpList Tryz.prog ops Q (o :: rest) a w := by
 subst hw
 have hrow : (w0.alloc (.cells zz4 30)).heap[h]? = some (.cells zz4 30 (0, 0)) := drw_at _ hh
 exact dig_store hgd x z ho h hx D _ hz 30 hrow hl rfl (hK _ (Lib.hid (setRow_heap _ _ _ (dgA D) _ _ hrow)) (below_setRow ((below_self w0).alloc (Nat.le_refl _) _) (by omega) _))
theorem fdig_eq (P Q : List UInt8) (hP : P.length = 32) (hQ : Q.length = 32) (W : World) : (Op.equalIn 10000 30 (.agg (dgA P)) (.agg (dgA Q))).run Tryz.prog W = .ok (decide (P = Q)) W := run_eqIn_digest 9996 W P Q hP hQ
def RetTxN (w : World) (N : Nat) (yss : List (List UInt8)) (D : List UInt8) (e : Ending) (w' : World) : Prop := ∃ A c vs, e = .returned (.tuple #[.slice A N c, .agg (dgA D)]) ∧ RdSS w' A N c vs yss ∧ Below w.heap.size w w'
def FoO (w : World) (N1 N2 : Nat) (ys ys' : List (List UInt8)) (v : Value) (wr : World) : Prop := ∃ i : Nat, i ≤ N1 ∧ v = .int .i64 (i : Int) ∧ (∀ i' k', i' < i → k' < N2 → ys.getD i' [] ≠ ys'.getD k' [] → shOf (ys.getD i' []) ≠ shOf (ys'.getD k' [])) ∧ Below w.heap.size w wr
def FoI (w : World) (N1 N2 i : Nat) (ys ys' : List (List UInt8)) (v : Value) (wr : World) : Prop := ∃ k : Nat, k ≤ N2 ∧ v = .int .i64 (k : Int) ∧ (∀ i' k', i' < i → k' < N2 → ys.getD i' [] ≠ ys'.getD k' [] → shOf (ys.getD i' []) ≠ shOf (ys'.getD k' [])) ∧ (∀ k', k' < k → ys.getD i [] ≠ ys'.getD k' [] → shOf (ys.getD i []) ≠ shOf (ys'.getD k' [])) ∧ Below w.heap.size w wr
theorem jrnForged_law (S : Option Addr) (sn sc : Nat) (K : Option Addr) (kn kc : Nat) (D : Dk) (S' : Option Addr) (sn' sc' : Nat) (K' : Option Addr) (kn' kc' : Nat) (D' : Dk) (w : World) (hr : RdDk w S sn sc K kn kc D) (hr' : RdDk w S' sn' sc' K' kn' kc' D') :
  Calls Tryz.prog 8 #[.agg #[.slice S sn sc, .slice K kn kc], .agg #[.slice S' sn' sc', .slice K' kn' kc']] w (RetV w (.bool true)) := by
 have v1 : DkVal #[.slice S sn sc, .slice K kn kc] w D := ⟨_, _, _, _, _, _, rfl, hr⟩
 have v2 : DkVal #[.slice S' sn' sc', .slice K' kn' kc'] w D' := ⟨_, _, _, _, _, _, rfl, hr'⟩
 generalize (#[.slice S sn sc, .slice K kn kc] : Array Value) = AV at v1 ⊢
 generalize (#[.slice S' sn' sc', .slice K' kn' kc'] : Array Value) = BV at v2 ⊢
 clear hr hr'
 obtain ⟨V, hV⟩ : ∃ V, V = (w.alloc (.cells AV 40)).alloc (.cells BV 40) := ⟨_, rfl⟩
 have bV : Below w.heap.size w V := by rw [hV]; exact ((below_self w).alloc (Nat.le_refl _) _).alloc (by simp) _
 have qa : Hid (DkV V w.heap.size AV D) := Lib.hid ⟨by rw [hV]; exact drw_old _ (drw_at _ rfl), v1.below bV⟩
 have qb : Hid (DkV V (w.heap.size + 1) BV D') := Lib.hid ⟨by rw [hV]; exact drw_at _ (by simp), v2.below bV⟩
 have HV := Lib.hid hV
 have CF := Lib.hid (fun W (h : Below V.heap.size V W) => vFew (qa.out.2.below h))
 have CF' := Lib.hid (fun W (h : Below V.heap.size V W) => vFew (qb.out.2.below h))
 obtain ⟨SU, st, rs, hL, hSU, hF⟩ := load_some D
 obtain ⟨SU', st', rs', hL', hSU', hF'⟩ := load_some D'
 have HL := Lib.hid hL
 have HL' := Lib.hid hL'
 have HSU := Lib.hid hSU
 have HSU' := Lib.hid hSU'
 have HF := Lib.hid hF
 have HF' := Lib.hid hF'
 obtain ⟨fa, hfa⟩ : ∃ z, z = dkFew D := ⟨_, rfl⟩
 obtain ⟨fb, hfb⟩ : ∃ z, z = dkFew D' := ⟨_, rfl⟩
 obtain ⟨E, hE⟩ : ∃ z, z = jnLoadE D := ⟨_, rfl⟩
 obtain ⟨E', hE'⟩ : ∃ z, z = jnLoadE D' := ⟨_, rfl⟩
 rw [← hfa] at CF
 rw [← hfb] at CF'
 rw [← hE] at HL HF
 rw [← hE'] at HL' HF'
 have BVh := Lib.hid bV
 clear hV v1 v2 hL hL' hSU hSU' hF hF' hfa hfb hE hE' bV
 go_enter Tryz.func8, Tryz.ntmps8
 go_wp2_with (first | (rw [← HV.out]; refine dk_load rfl _ rfl rfl qa.out ?_))
 refine (CF.out _ (Below.refl _ _)).mono ?_
 rintro e w1 ⟨rfl, b1⟩
 have B1 := Lib.hid b1
 have qb1 := Lib.hid (qb.out.up b1)
 have qa1 := Lib.hid (qa.out.up b1)
 clear b1
 cases fa with
 | false =>
  go_wp2_with fail
  refine (heads14 _).mono ?_
  rintro e w2 ⟨rfl, b2⟩
  go_wp2_with fail
  go_ret
  exact ⟨rfl, below_then (below_then BVh.out B1.out) b2⟩
 | true =>
 go_wp2_with (refine wpList_unguard (by rfl) (dk_load rfl _ rfl rfl qb1.out ?_))
 refine (CF'.out _ B1.out).mono ?_
 rintro e w2 ⟨rfl, b2⟩
 have B2 := Lib.hid (below_then B1.out b2)
 have qb2 := Lib.hid (qb1.out.up b2)
 have qa2 := Lib.hid (qa1.out.up b2)
 clear b2
 cases fb with
 | false =>
  go_wp2_with fail
  refine (heads14 _).mono ?_
  rintro e w3 ⟨rfl, b3⟩
  go_wp2_with fail
  go_ret
  exact ⟨rfl, below_then (below_then BVh.out B2.out) b3⟩
 | true =>
 go_wp2_with (refine dk_load rfl _ rfl rfl qa2.out ?_)
 refine (HL.out AV _ qa2.out.2).mono ?_
 rintro e w3 ⟨A5, n5, c5, R5, m5, q5, rfl, o5, r5, b5⟩
 have O5 := Lib.hid o5.rd
 have P5 := Lib.hid r5.rds
 have B5 := Lib.hid (below_then B2.out b5)
 have qb3 := Lib.hid (qb2.out.up b5)
 clear o5 r5 b5
 go_wp2_with (first | (refine su_freshF SU rfl _ _ rfl rfl rfl w3 rfl rfl HSU.out ?_; intro X4 s4 b4; have B4 := Lib.hid (below_then B5.out b4); have qb4 := Lib.hid (qb3.out.up b4); have O5' := Lib.hid (O5.out.below b4); have P5' := Lib.hid (P5.out.below b4)) | (refine dk_load rfl _ rfl rfl qb4.out ?_))
 refine (HL'.out BV _ qb4.out.2).mono ?_
 rintro e w5 ⟨A7, n7, c7, R7, m7, q7, rfl, o7, r7, b7⟩
 have O7 := Lib.hid o7.rd
 have P7 := Lib.hid r7.rds
 have B7 := Lib.hid (below_then B4.out b7)
 have O6 := Lib.hid (O5'.out.below b7)
 have P6 := Lib.hid (P5'.out.below b7)
 clear o7 r7 b7
 by_cases hE0 : E = 0
 case neg =>
  have e5 : (E != 0) = true := by simpa using hE0
  clear HF HF'
  go_wp2_with (refine su_freshF SU' rfl _ _ rfl rfl rfl w5 rfl rfl HSU'.out ?_; intro X6 s6 b6; have B6 := Lib.hid (below_then B7.out b6))
  refine (heads14 _).mono ?_
  rintro e w9 ⟨rfl, b9⟩
  go_wp2_with fail
  go_ret
  exact ⟨rfl, below_then (below_then BVh.out B6.out) b9⟩
 by_cases hE0' : E' = 0
 case neg =>
  subst hE0
  have e5 : (E' != 0) = true := by simpa using hE0'
  clear HF HF'
  go_wp2_with (refine su_freshF SU' rfl _ _ rfl rfl rfl w5 rfl rfl HSU'.out ?_; intro X6 s6 b6; have B6 := Lib.hid (below_then B7.out b6))
  refine (heads14 _).mono ?_
  rintro e w9 ⟨rfl, b9⟩
  go_wp2_with fail
  go_ret
  exact ⟨rfl, below_then (below_then BVh.out B6.out) b9⟩
 obtain ⟨ls, lm, gg, hch⟩ := HF.out hE0
 obtain ⟨ls', lm', gg', hch'⟩ := HF'.out hE0'
 subst hE0
 subst hE0'
 have hn5 : n5 ≤ 12288 := by rw [← O6.out.2.1]; exact ls
 have hn7 : n7 ≤ 12288 := by rw [← O7.out.2.1]; exact ls'
 have hm5 : m5 ≤ 158 := by rw [← P6.out.1]; exact lm
 have hm7 : m7 ≤ 158 := by rw [← P7.out.1]; exact lm'
 obtain ⟨ys, hys⟩ : ∃ z, z = txA st rs := ⟨_, rfl⟩
 obtain ⟨ys', hys'⟩ : ∃ z, z = txA st' rs' := ⟨_, rfl⟩
 obtain ⟨P, hP⟩ : ∃ z, z = rcEnd (jnBase st) rs := ⟨_, rfl⟩
 obtain ⟨Q, hQ⟩ : ∃ z, z = rcEnd (jnBase st') rs' := ⟨_, rfl⟩
 obtain ⟨N1, hN1⟩ : ∃ z, z = ys.length := ⟨_, rfl⟩
 obtain ⟨N2, hN2⟩ : ∃ z, z = ys'.length := ⟨_, rfl⟩
 have hN1' : N1 = rs.length + 1 := by rw [hN1, hys, txA_len]
 have hN2' : N2 = rs'.length + 1 := by rw [hN2, hys', txA_len]
 have n1b : N1 ≤ 159 := by omega
 have n2b : N2 ≤ 159 := by omega
 have HT1 : Hid (∀ W, RdB W A5 n5 c5 st → RdRs W R5 m5 rs → Calls Tryz.prog 43 #[.slice A5 n5 c5, .slice R5 m5 q5] W (RetTxN W N1 ys P)) := Lib.hid (fun W h1 h2 => by
  rw [hN1, hys, hP]; exact texts_any A5 n5 c5 st R5 m5 q5 rs W h1 h2 (by omega) (by omega) (fun r hr => (chain_each gg rs _ 0 hch r hr).1) (fun r hr => (chain_each gg rs _ 0 hch r hr).2))
 have HT2 : Hid (∀ W, RdB W A7 n7 c7 st' → RdRs W R7 m7 rs' → Calls Tryz.prog 43 #[.slice A7 n7 c7, .slice R7 m7 q7] W (RetTxN W N2 ys' Q)) := Lib.hid (fun W h1 h2 => by
  rw [hN2, hys', hQ]; exact texts_any A7 n7 c7 st' R7 m7 q7 rs' W h1 h2 (by omega) (by omega) (fun r hr => (chain_each gg' rs' _ 0 hch' r hr).1) (fun r hr => (chain_each gg' rs' _ 0 hch' r hr).2))
 have HPL : Hid (P.length = 32) := Lib.hid (by rw [hP]; exact rcEnd_len32 gg rs _ 0 (jnBase_len' st) hch)
 have HQL : Hid (Q.length = 32) := Lib.hid (by rw [hQ]; exact rcEnd_len32 gg' rs' _ 0 (jnBase_len' st') hch')
 have HB1 : Hid (∀ i, i < N1 → (ys.getD i []).length ≤ 20000) := Lib.hid (fun i hi => by rw [hys]; exact txA_bound st gg rs ls hch i (by omega))
 have HB2 : Hid (∀ i, i < N2 → (ys'.getD i []).length ≤ 20000) := Lib.hid (fun i hi => by rw [hys']; exact txA_bound st' gg' rs' ls' hch' i (by omega))
 have HFG : P = Q → (∀ i k, i < N1 → k < N2 → ys.getD i [] ≠ ys'.getD k [] → shOf (ys.getD i []) ≠ shOf (ys'.getD k [])) → st = st' ∧ rs = rs' := fun hpq h => by
  rw [hP, hQ] at hpq
  refine forged st st' gg gg' _ rs rs' rfl hch hch' hpq (fun i k hi hk => ?_)
  have := h i k (by omega) (by omega)
  rw [hys, hys'] at this
  exact this
 have HFGh := Lib.hid HFG
 clear hN1 hN2 HFG HF HF' hch hch' hP hQ hN1' hN2' hys hys' ls ls' lm lm'
 go_wp2_with (refine su_freshF SU' rfl _ _ rfl rfl rfl w5 rfl rfl HSU'.out ?_; intro X6 s6 b6; have B6 := Lib.hid (below_then B7.out b6); have S5 := Lib.hid (O6.out.below b6); have U5 := Lib.hid (P6.out.below b6); have S7 := Lib.hid (O7.out.below b6); have U7 := Lib.hid (P7.out.below b6))
 refine (HT1.out X6 S5.out U5.out).mono ?_
 rintro e w7 ⟨A8, c8, vs8, rfl, y8, b8⟩
 have B8 := Lib.hid (below_then B6.out b8)
 have S7 := Lib.hid (S7.out.below b8)
 have U7 := Lib.hid (U7.out.below b8)
 have S5 := Lib.hid (S5.out.below b8)
 have U5 := Lib.hid (U5.out.below b8)
 have Y1 := Lib.hid y8
 clear y8 b8
 go_wp2_with (refine dg_fresh P rfl _ _ rfl rfl rfl w7 rfl rfl HPL.out ?_; intro X8 d8 b8; have B9 := Lib.hid (below_then B8.out b8); have S7 := Lib.hid (S7.out.below b8); have U7 := Lib.hid (U7.out.below b8); have S5 := Lib.hid (S5.out.below b8); have U5 := Lib.hid (U5.out.below b8); have Y1 := Lib.hid (Y1.out.below b8))
 refine (HT2.out X8 S7.out U7.out).mono ?_
 rintro e w9 ⟨A9, c9, vs9, rfl, y9, b9⟩
 have B9 := Lib.hid (below_then B9.out b9)
 have S7 := Lib.hid (S7.out.below b9)
 have U7 := Lib.hid (U7.out.below b9)
 have S5 := Lib.hid (S5.out.below b9)
 have U5 := Lib.hid (U5.out.below b9)
 have Y1 := Lib.hid (Y1.out.below b9)
 have d9 := Lib.hid (drw_up d8.out b9)
 have Y2 := Lib.hid y9
 clear y9 b9
 -- LOOPS
 by_cases hPQ : P = Q
 case neg =>
  have HEo := (fun W => (fdig_eq P Q HPL.out HQL.out W).trans (by rw [decide_eq_false hPQ]) : ∀ W : World, _)
  go_wp2_with (first | (refine dg_fresh Q rfl _ _ rfl rfl rfl w9 rfl rfl HQL.out ?_; intro X10 d10 b10; have DP := Lib.hid (drw_up d9.out b10); have DQ := d10; have BZ := Lib.hid (below_then BVh.out (below_then B9.out b10)); have S7 := Lib.hid (S7.out.below b10); have U7 := Lib.hid (U7.out.below b10); have S5 := Lib.hid (S5.out.below b10); have U5 := Lib.hid (U5.out.below b10); have Y1 := Lib.hid (Y1.out.below b10); have Y2 := Lib.hid (Y2.out.below b10)) | (refine dig_load rfl _ rfl w7.heap.size rfl P 30 DP.out HPL.out ?_) | (refine dig_load rfl _ rfl w9.heap.size rfl Q 30 DQ.out HQL.out ?_))
  refine (heads14 _).mono ?_
  rintro e w11 ⟨rfl, b11⟩
  go_wp2_with fail
  go_ret
  exact ⟨rfl, below_then BZ.out b11⟩
 subst hPQ
 have HEo := (fun W => (fdig_eq P P HPL.out HPL.out W).trans (by rw [decide_eq_true rfl]) : ∀ W : World, _)
 have HFGk := Lib.hid (HFGh.out rfl)
 by_cases hst : st = st'
 ·go_wp2_with (first | (refine dg_fresh P rfl _ _ rfl rfl rfl w9 rfl rfl HPL.out ?_; intro X10 d10 b10; have DP := Lib.hid (drw_up d9.out b10); have DQ := d10; have BZ := Lib.hid (below_then BVh.out (below_then B9.out b10)); have S7 := Lib.hid (S7.out.below b10); have U7 := Lib.hid (U7.out.below b10); have S5 := Lib.hid (S5.out.below b10); have U5 := Lib.hid (U5.out.below b10); have Y1 := Lib.hid (Y1.out.below b10); have Y2 := Lib.hid (Y2.out.below b10)) | (refine dig_load rfl _ rfl w7.heap.size rfl P 30 DP.out HPL.out ?_) | (refine dig_load rfl _ rfl w9.heap.size rfl P 30 DQ.out HPL.out ?_))
  have hby := bytes_any A5 A7 n5 c5 n7 c7 st st' X10 S5.out S7.out
  rw [decide_eq_true hst] at hby
  refine hby.mono ?_
  rintro e_ w11 ⟨rfl, rfl⟩
  go_wp2_with fail
  refine (refRecs_any R5 m5 q5 R7 m7 q7 rs rs' X10 U5.out U7.out).mono ?_
  rintro e_ w12 ⟨v, rfl, b12, hv⟩
  have B12 := Lib.hid b12
  cases v with
  | true =>
   go_wp2_with fail
   refine (heads14 _).mono ?_
   rintro e_ w13 ⟨rfl, b13⟩
   go_wp2_with fail
   go_ret
   exact ⟨rfl, below_then (below_then BZ.out B12.out) b13⟩
  | false =>
   have HBK : Hid ((∀ i k, i < N1 → k < N2 → ys.getD i [] ≠ ys'.getD k [] → shOf (ys.getD i []) ≠ shOf (ys'.getD k [])) → false = true) := Lib.hid (fun h => hv (HFGk.out h).2)
   have BZ := Lib.hid (below_then BZ.out B12.out)
   have Y1 := Lib.hid (Y1.out.below B12.out)
   have Y2 := Lib.hid (Y2.out.below B12.out)
   clear hv b12 hby
   go_wp2_with fail
   go_loopw [17] (FoO w12 N1 N2 ys ys') (fun i _ => N1 - (intOf i).toNat)
   case atStart => exact ⟨0, by omega, rfl, fun i' k' h _ => absurd h (Nat.not_lt_zero _), Below.refl _ _⟩
   case round =>
   obtain ⟨i, hi, rfl, hno, hB⟩ := hrel
   have HNO := Lib.hid hno
   have HBo := Lib.hid hB
   clear hno
   by_cases hil : i < N1
   ·have hik : (i : Int) < (N1 : Int) := by omega
    have dik : decide ((i : Int) < (N1 : Int)) = true := decide_eq_true hik
    have wi : IntKind.i64.wrap ((i : Int) + 1) = (i : Int) + 1 := IntWalk.i64_in _ (by omega)
    clear hB
    go_wp2_with fail
    go_loopw [18] (FoI w12 N1 N2 i ys ys') (fun k _ => N2 - (intOf k).toNat)
    case atStart => exact ⟨0, by omega, rfl, HNO.out, fun k' h => absurd h (Nat.not_lt_zero _), HBo.out⟩
    case round =>
    clear HBo HNO
    obtain ⟨k, hk, rfl, hno, hni, hB⟩ := hrel
    have HNO := Lib.hid hno
    have HNI := Lib.hid hni
    have HBo := Lib.hid hB
    clear hno hni
    by_cases hkl : k < N2
    ·have hkk : (k : Int) < (N2 : Int) := by omega
     have dkk : decide ((k : Int) < (N2 : Int)) = true := decide_eq_true hkk
     have wk : IntKind.i64.wrap ((k : Int) + 1) = (k : Int) + 1 := IntWalk.i64_in _ (by omega)
     obtain ⟨gx, ox, T1, t1, tc1, hA8, hgx, cx1, r1⟩ := (Y1.out.below hB).at_ i hil
     obtain ⟨gy, oy, T2, t2, tc2, hA9, hgy, cy1, r2⟩ := (Y2.out.below hB).at_ k hkl
     subst hA8
     subst hA9
     have hl1 : t1 ≤ 20000 := by rw [← r1.2.1]; exact HB1.out i hil
     have hl2 : t2 ≤ 20000 := by rw [← r2.2.1]; exact HB2.out k hkl
     have hO1 := shOf_len (ys.getD i [])
     have hO2 := shOf_len (ys'.getD k [])
     have hnext : ∀ (h : ys.getD i [] ≠ ys'.getD k [] → shOf (ys.getD i []) ≠ shOf (ys'.getD k [])), ∀ k', k' < k + 1 → ys.getD i [] ≠ ys'.getD k' [] → shOf (ys.getD i []) ≠ shOf (ys'.getD k' []) := fun h k' hk' => by
      by_cases hkk' : k' < k
      ·exact HNI.out k' hkk'
      ·obtain rfl : k' = k := by omega
       exact h
     obtain ⟨x1, hx1⟩ : ∃ z, z = ys.getD i [] := ⟨_, rfl⟩
     obtain ⟨y1, hy1⟩ : ∃ z, z = ys'.getD k [] := ⟨_, rfl⟩
     have HNX := Lib.hid (fun (h : x1 ≠ y1 → shOf x1 ≠ shOf y1) => hnext (by rw [← hx1, ← hy1]; exact h))
     rw [← hx1] at r1 hO1
     rw [← hy1] at r2 hO2
     clear hnext hB HNI hx1 hy1
     obtain ⟨O1, hO1e⟩ : ∃ O, shOf x1 = O := ⟨_, rfl⟩
     obtain ⟨O2, hO2e⟩ : ∃ O, shOf y1 = O := ⟨_, rfl⟩
     rw [hO1e] at hO1
     rw [hO2e] at hO2
     have HO1 := Lib.hid hO1e
     have HO2 := Lib.hid hO2e
     have R1 := Lib.hid r1
     have R2 := Lib.hid r2
     have HOL1 := Lib.hid hO1
     have HOL2 := Lib.hid hO2
     clear hO1e hO2e r1 r2 hO1 hO2
     go_wp2_with fail
     by_cases hxy : x1 = y1
     ·have HBT := Lib.hid (show decide (x1 = y1) = true from decide_eq_true hxy)
      refine wp_region_seg (S := fun w' => Below wr.heap.size wr w') 0 (brw9 23 8388607) [(0, true), (1, true), (2, true), (3, true), (4, true), (5, true), (6, true), (7, true), (8, false), (9, true), (10, true), (11, true), (12, true), (13, true), (14, true), (16, true), (17, true), (18, true), (19, true), (15, false), (20, false), (21, true), (22, true)] (by kernel_rfl) (by kernel_rfl) (fun _ _ d _ _ h => by first | (cases d <;> exact h) | cases h.1) ((Below.refl wr.heap.size wr).drew) ?_
      have HB := (Below.refl wr.heap.size wr).drew
      iterate 8 (refine seg_take (v := ?_) rfl (Or.inl ⟨by rfl, ?_⟩) ?_; rotate_left; (focus (intro w' hw'; have ja := (hw'.cell (p := ⟨gx, ox + i, none⟩) hgx).trans cx1; have jb := (hw'.cell (p := ⟨gy, oy + k, none⟩) hgy).trans cy1; go_simp <;> with_reducible rfl)); try simp only [Act.put, pst3])
      refine seg_run rfl (fun K hK => ?_)
      go_simp
      have hh := bytes_any _ _ _ _ _ _ _ _ _ (R1.out.below HB) (R2.out.below HB)
      rw [HBT.out] at hh
      refine hh.mono ?_
      rintro e_ w9 ⟨rfl, rfl⟩
      refine hK.out _ _ (HB) ?_
      clear hK
      try simp only [Act.put, pst3]
      iterate 2 (refine seg_take (v := ?_) rfl (Or.inl ⟨by rfl, ?_⟩) ?_; rotate_left; (focus (intro w' hw'; have ja := (hw'.cell (p := ⟨gx, ox + i, none⟩) hgx).trans cx1; have jb := (hw'.cell (p := ⟨gy, oy + k, none⟩) hgy).trans cy1; go_simp <;> with_reducible rfl)); try simp only [Act.put, pst3])
      iterate 8 ((first | refine seg_take (v := undef) rfl (Or.inr ⟨by rfl, rfl⟩) ?_ | (refine seg_take (v := ?_) rfl (Or.inl ⟨by rfl, ?_⟩) ?_; rotate_left; (focus (intro w' hw'; have ja := (hw'.cell (p := ⟨gx, ox + i, none⟩) hgx).trans cx1; have jb := (hw'.cell (p := ⟨gy, oy + k, none⟩) hgy).trans cy1; go_simp <;> with_reducible rfl)))); try simp only [Act.put, pst3])
      refine seg_run rfl (fun K hK => ?_)
      go_simp
      refine hK.out _ _ (HB) ?_
      clear hK
      try simp only [Act.put, pst3]
      refine seg_run rfl (fun K hK => ?_)
      go_simp
      refine hK.out _ _ (HB) ?_
      clear hK
      try simp only [Act.put, pst3]
      iterate 1 ((first | refine seg_take (v := undef) rfl (Or.inr ⟨by rfl, rfl⟩) ?_ | (refine seg_take (v := ?_) rfl (Or.inl ⟨by rfl, ?_⟩) ?_; rotate_left; (focus (intro w' hw'; have ja := (hw'.cell (p := ⟨gx, ox + i, none⟩) hgx).trans cx1; have jb := (hw'.cell (p := ⟨gy, oy + k, none⟩) hgy).trans cy1; go_simp <;> with_reducible rfl)))); try simp only [Act.put, pst3])
      iterate 1 (refine seg_take (v := ?_) rfl (Or.inl ⟨by rfl, ?_⟩) ?_; rotate_left; (focus (intro w' hw'; have ja := (hw'.cell (p := ⟨gx, ox + i, none⟩) hgx).trans cx1; have jb := (hw'.cell (p := ⟨gy, oy + k, none⟩) hgy).trans cy1; go_simp <;> with_reducible rfl)); try simp only [Act.put, pst3])
      refine seg_done (fun _ => ?_)
      refine wpAnyH_done (by kernel_rfl) ?_ _
      have HBl := Lib.hid HB
      go_wp2_with fail
      go_roundw
      case rel => exact ⟨k + 1, by omega, by rw [Int.natCast_add]; rfl, HNO.out, HNX.out (fun h => absurd hxy h), HBo.out.trans (HBl.out.mono HBo.out.size)⟩
      case measure => simp [intOf]; omega
     ·have HBT := Lib.hid (show decide (x1 = y1) = false from decide_eq_false hxy)
      by_cases hO : O1 = O2
      ·subst hO
       have HE1 := Lib.hid (fun W => (fdig_eq O1 O1 HOL1.out HOL1.out W).trans (by rw [decide_eq_true rfl]))
       refine wp_region_seg (S := fun w' => Below wr.heap.size wr w') 0 (brw9 23 8388607) [(0, true), (1, true), (2, true), (3, true), (4, true), (5, true), (6, true), (7, true), (8, false), (9, true), (10, true), (11, true), (12, true), (13, true), (14, true), (16, true), (17, true), (18, true), (19, true), (15, false), (20, false), (21, true), (22, true)] (by kernel_rfl) (by kernel_rfl) (fun _ _ d _ _ h => by first | (cases d <;> exact h) | cases h.1) ((Below.refl wr.heap.size wr).drew) ?_
       have HB := (Below.refl wr.heap.size wr).drew
       iterate 8 (refine seg_take (v := ?_) rfl (Or.inl ⟨by rfl, ?_⟩) ?_; rotate_left; (focus (intro w' hw'; have ja := (hw'.cell (p := ⟨gx, ox + i, none⟩) hgx).trans cx1; have jb := (hw'.cell (p := ⟨gy, oy + k, none⟩) hgy).trans cy1; go_simp <;> with_reducible rfl)); try simp only [Act.put, pst3])
       refine seg_run rfl (fun K hK => ?_)
       go_simp
       have hh := bytes_any _ _ _ _ _ _ _ _ _ (R1.out.below HB) (R2.out.below HB)
       rw [HBT.out] at hh
       refine hh.mono ?_
       rintro e_ w9 ⟨rfl, rfl⟩
       refine hK.out _ _ (HB) ?_
       clear hK
       try simp only [Act.put, pst3]
       iterate 2 (refine seg_take (v := ?_) rfl (Or.inl ⟨by rfl, ?_⟩) ?_; rotate_left; (focus (intro w' hw'; have ja := (hw'.cell (p := ⟨gx, ox + i, none⟩) hgx).trans cx1; have jb := (hw'.cell (p := ⟨gy, oy + k, none⟩) hgy).trans cy1; go_simp <;> with_reducible rfl)); try simp only [Act.put, pst3])
       iterate 8 ((first | refine seg_take (v := undef) rfl (Or.inr ⟨by rfl, rfl⟩) ?_ | (refine seg_take (v := ?_) rfl (Or.inl ⟨by rfl, ?_⟩) ?_; rotate_left; (focus (intro w' hw'; have ja := (hw'.cell (p := ⟨gx, ox + i, none⟩) hgx).trans cx1; have jb := (hw'.cell (p := ⟨gy, oy + k, none⟩) hgy).trans cy1; go_simp <;> with_reducible rfl)))); try simp only [Act.put, pst3])
       refine seg_run rfl (fun K hK => ?_)
       go_simp
       refine (refShaOf_any T1 t1 tc1 x1 _ (R1.out.below HB) (by omega)).mono ?_
       rintro e_ w10 ⟨rfl, hb10⟩
       rw [HO1.out]
       have HB := below_then HB hb10
       refine hK.out _ _ (HB) ?_
       clear hK
       try simp only [Act.put, pst3]
       refine seg_run rfl (fun K hK => ?_)
       go_simp
       refine (refShaOf_any T2 t2 tc2 y1 _ (R2.out.below HB) (by omega)).mono ?_
       rintro e_ w11 ⟨rfl, hb11⟩
       rw [HO2.out]
       have HB := below_then HB hb11
       refine hK.out _ _ (HB) ?_
       clear hK
       try simp only [Act.put, pst3]
       refine seg_take (v := .bool true) rfl (Or.inl ⟨by rfl, fun w' hw' => ?_⟩) ?_
       focus ((have jj := HE1.out w'; go_simp))
       try simp only [Act.put, pst3]
       iterate 1 (refine seg_take (v := ?_) rfl (Or.inl ⟨by rfl, ?_⟩) ?_; rotate_left; (focus (intro w' hw'; have ja := (hw'.cell (p := ⟨gx, ox + i, none⟩) hgx).trans cx1; have jb := (hw'.cell (p := ⟨gy, oy + k, none⟩) hgy).trans cy1; go_simp <;> with_reducible rfl)); try simp only [Act.put, pst3])
       refine seg_done (fun _ => ?_)
       refine wpAnyH_done (by kernel_rfl) ?_ _
       have HBl := Lib.hid HB
       go_wp2_with fail
       refine (heads14 _).mono ?_
       rintro e_ w12 ⟨rfl, b12⟩
       go_wp2_with fail
       go_ret
       exact ⟨rfl, below_then (below_then BZ.out (HBo.out.trans (HBl.out.mono HBo.out.size))) b12⟩
      ·have HE1 := Lib.hid (fun W => (fdig_eq O1 O2 HOL1.out HOL2.out W).trans (by rw [decide_eq_false hO]))
       refine wp_region_seg (S := fun w' => Below wr.heap.size wr w') 0 (brw9 23 8388607) [(0, true), (1, true), (2, true), (3, true), (4, true), (5, true), (6, true), (7, true), (8, false), (9, true), (10, true), (11, true), (12, true), (13, true), (14, true), (16, true), (17, true), (18, true), (19, true), (15, false), (20, false), (21, true), (22, true)] (by kernel_rfl) (by kernel_rfl) (fun _ _ d _ _ h => by first | (cases d <;> exact h) | cases h.1) ((Below.refl wr.heap.size wr).drew) ?_
       have HB := (Below.refl wr.heap.size wr).drew
       iterate 8 (refine seg_take (v := ?_) rfl (Or.inl ⟨by rfl, ?_⟩) ?_; rotate_left; (focus (intro w' hw'; have ja := (hw'.cell (p := ⟨gx, ox + i, none⟩) hgx).trans cx1; have jb := (hw'.cell (p := ⟨gy, oy + k, none⟩) hgy).trans cy1; go_simp <;> with_reducible rfl)); try simp only [Act.put, pst3])
       refine seg_run rfl (fun K hK => ?_)
       go_simp
       have hh := bytes_any _ _ _ _ _ _ _ _ _ (R1.out.below HB) (R2.out.below HB)
       rw [HBT.out] at hh
       refine hh.mono ?_
       rintro e_ w9 ⟨rfl, rfl⟩
       refine hK.out _ _ (HB) ?_
       clear hK
       try simp only [Act.put, pst3]
       iterate 2 (refine seg_take (v := ?_) rfl (Or.inl ⟨by rfl, ?_⟩) ?_; rotate_left; (focus (intro w' hw'; have ja := (hw'.cell (p := ⟨gx, ox + i, none⟩) hgx).trans cx1; have jb := (hw'.cell (p := ⟨gy, oy + k, none⟩) hgy).trans cy1; go_simp <;> with_reducible rfl)); try simp only [Act.put, pst3])
       iterate 8 ((first | refine seg_take (v := undef) rfl (Or.inr ⟨by rfl, rfl⟩) ?_ | (refine seg_take (v := ?_) rfl (Or.inl ⟨by rfl, ?_⟩) ?_; rotate_left; (focus (intro w' hw'; have ja := (hw'.cell (p := ⟨gx, ox + i, none⟩) hgx).trans cx1; have jb := (hw'.cell (p := ⟨gy, oy + k, none⟩) hgy).trans cy1; go_simp <;> with_reducible rfl)))); try simp only [Act.put, pst3])
       refine seg_run rfl (fun K hK => ?_)
       go_simp
       refine (refShaOf_any T1 t1 tc1 x1 _ (R1.out.below HB) (by omega)).mono ?_
       rintro e_ w10 ⟨rfl, hb10⟩
       rw [HO1.out]
       have HB := below_then HB hb10
       refine hK.out _ _ (HB) ?_
       clear hK
       try simp only [Act.put, pst3]
       refine seg_run rfl (fun K hK => ?_)
       go_simp
       refine (refShaOf_any T2 t2 tc2 y1 _ (R2.out.below HB) (by omega)).mono ?_
       rintro e_ w11 ⟨rfl, hb11⟩
       rw [HO2.out]
       have HB := below_then HB hb11
       refine hK.out _ _ (HB) ?_
       clear hK
       try simp only [Act.put, pst3]
       refine seg_take (v := .bool false) rfl (Or.inl ⟨by rfl, fun w' hw' => ?_⟩) ?_
       focus ((have jj := HE1.out w'; go_simp))
       try simp only [Act.put, pst3]
       iterate 1 (refine seg_take (v := ?_) rfl (Or.inl ⟨by rfl, ?_⟩) ?_; rotate_left; (focus (intro w' hw'; have ja := (hw'.cell (p := ⟨gx, ox + i, none⟩) hgx).trans cx1; have jb := (hw'.cell (p := ⟨gy, oy + k, none⟩) hgy).trans cy1; go_simp <;> with_reducible rfl)); try simp only [Act.put, pst3])
       refine seg_done (fun _ => ?_)
       refine wpAnyH_done (by kernel_rfl) ?_ _
       have HBl := Lib.hid HB
       go_wp2_with fail
       go_roundw
       case rel => exact ⟨k + 1, by omega, by rw [Int.natCast_add]; rfl, HNO.out, HNX.out (fun _ h => absurd (HO1.out.symm.trans (h.trans HO2.out)) hO), HBo.out.trans (HBl.out.mono HBo.out.size)⟩
       case measure => simp [intOf]; omega
    ·obtain rfl : k = N2 := by omega
     have dkk : decide ((k : Int) < (k : Int)) = false := decide_eq_false (by omega)
     have dkk' : decide (k < k) = false := decide_eq_false hkl
     clear hB
     go_wp2_with fail
     go_roundw
     case rel => exact ⟨i + 1, by omega, by rw [Int.natCast_add]; rfl, fun i' k' h1 h2 => by
      by_cases hii : i' < i
      ·exact HNO.out i' k' hii h2
      ·obtain rfl : i' = i := by omega
       exact HNI.out k' h2, HBo.out⟩
     case measure => simp [intOf]; omega
   ·obtain rfl : i = N1 := by omega
    exact absurd (HBK.out HNO.out) (by decide)
 ·have HBK : Hid ((∀ i k, i < N1 → k < N2 → ys.getD i [] ≠ ys'.getD k [] → shOf (ys.getD i []) ≠ shOf (ys'.getD k [])) → false = true) := Lib.hid (fun h => absurd (HFGk.out h).1 hst)
  go_wp2_with (first | (refine dg_fresh P rfl _ _ rfl rfl rfl w9 rfl rfl HPL.out ?_; intro X10 d10 b10; have DP := Lib.hid (drw_up d9.out b10); have DQ := d10; have BZ := Lib.hid (below_then BVh.out (below_then B9.out b10)); have S7 := Lib.hid (S7.out.below b10); have U7 := Lib.hid (U7.out.below b10); have S5 := Lib.hid (S5.out.below b10); have U5 := Lib.hid (U5.out.below b10); have Y1 := Lib.hid (Y1.out.below b10); have Y2 := Lib.hid (Y2.out.below b10)) | (refine dig_load rfl _ rfl w7.heap.size rfl P 30 DP.out HPL.out ?_) | (refine dig_load rfl _ rfl w9.heap.size rfl P 30 DQ.out HPL.out ?_))
  have hby := bytes_any A5 A7 n5 c5 n7 c7 st st' X10 S5.out S7.out
  rw [decide_eq_false hst] at hby
  refine hby.mono ?_
  rintro e_ w11 ⟨rfl, rfl⟩
  clear hby
  go_wp2_with fail
  go_loopw [17] (FoO X10 N1 N2 ys ys') (fun i _ => N1 - (intOf i).toNat)
  case atStart => exact ⟨0, by omega, rfl, fun i' k' h _ => absurd h (Nat.not_lt_zero _), Below.refl _ _⟩
  case round =>
  obtain ⟨i, hi, rfl, hno, hB⟩ := hrel
  have HNO := Lib.hid hno
  have HBo := Lib.hid hB
  clear hno
  by_cases hil : i < N1
  ·have hik : (i : Int) < (N1 : Int) := by omega
   have dik : decide ((i : Int) < (N1 : Int)) = true := decide_eq_true hik
   have wi : IntKind.i64.wrap ((i : Int) + 1) = (i : Int) + 1 := IntWalk.i64_in _ (by omega)
   clear hB
   go_wp2_with fail
   go_loopw [18] (FoI X10 N1 N2 i ys ys') (fun k _ => N2 - (intOf k).toNat)
   case atStart => exact ⟨0, by omega, rfl, HNO.out, fun k' h => absurd h (Nat.not_lt_zero _), HBo.out⟩
   case round =>
   clear HBo HNO
   obtain ⟨k, hk, rfl, hno, hni, hB⟩ := hrel
   have HNO := Lib.hid hno
   have HNI := Lib.hid hni
   have HBo := Lib.hid hB
   clear hno hni
   by_cases hkl : k < N2
   ·have hkk : (k : Int) < (N2 : Int) := by omega
    have dkk : decide ((k : Int) < (N2 : Int)) = true := decide_eq_true hkk
    have wk : IntKind.i64.wrap ((k : Int) + 1) = (k : Int) + 1 := IntWalk.i64_in _ (by omega)
    obtain ⟨gx, ox, T1, t1, tc1, hA8, hgx, cx1, r1⟩ := (Y1.out.below hB).at_ i hil
    obtain ⟨gy, oy, T2, t2, tc2, hA9, hgy, cy1, r2⟩ := (Y2.out.below hB).at_ k hkl
    subst hA8
    subst hA9
    have hl1 : t1 ≤ 20000 := by rw [← r1.2.1]; exact HB1.out i hil
    have hl2 : t2 ≤ 20000 := by rw [← r2.2.1]; exact HB2.out k hkl
    have hO1 := shOf_len (ys.getD i [])
    have hO2 := shOf_len (ys'.getD k [])
    have hnext : ∀ (h : ys.getD i [] ≠ ys'.getD k [] → shOf (ys.getD i []) ≠ shOf (ys'.getD k [])), ∀ k', k' < k + 1 → ys.getD i [] ≠ ys'.getD k' [] → shOf (ys.getD i []) ≠ shOf (ys'.getD k' []) := fun h k' hk' => by
     by_cases hkk' : k' < k
     ·exact HNI.out k' hkk'
     ·obtain rfl : k' = k := by omega
      exact h
    obtain ⟨x1, hx1⟩ : ∃ z, z = ys.getD i [] := ⟨_, rfl⟩
    obtain ⟨y1, hy1⟩ : ∃ z, z = ys'.getD k [] := ⟨_, rfl⟩
    have HNX := Lib.hid (fun (h : x1 ≠ y1 → shOf x1 ≠ shOf y1) => hnext (by rw [← hx1, ← hy1]; exact h))
    rw [← hx1] at r1 hO1
    rw [← hy1] at r2 hO2
    clear hnext hB HNI hx1 hy1
    obtain ⟨O1, hO1e⟩ : ∃ O, shOf x1 = O := ⟨_, rfl⟩
    obtain ⟨O2, hO2e⟩ : ∃ O, shOf y1 = O := ⟨_, rfl⟩
    rw [hO1e] at hO1
    rw [hO2e] at hO2
    have HO1 := Lib.hid hO1e
    have HO2 := Lib.hid hO2e
    have R1 := Lib.hid r1
    have R2 := Lib.hid r2
    have HOL1 := Lib.hid hO1
    have HOL2 := Lib.hid hO2
    clear hO1e hO2e r1 r2 hO1 hO2
    go_wp2_with fail
    by_cases hxy : x1 = y1
    ·have HBT := Lib.hid (show decide (x1 = y1) = true from decide_eq_true hxy)
     refine wp_region_seg (S := fun w' => Below wr.heap.size wr w') 0 (brw9 23 8388607) [(0, true), (1, true), (2, true), (3, true), (4, true), (5, true), (6, true), (7, true), (8, false), (9, true), (10, true), (11, true), (12, true), (13, true), (14, true), (16, true), (17, true), (18, true), (19, true), (15, false), (20, false), (21, true), (22, true)] (by kernel_rfl) (by kernel_rfl) (fun _ _ d _ _ h => by first | (cases d <;> exact h) | cases h.1) ((Below.refl wr.heap.size wr).drew) ?_
     have HB := (Below.refl wr.heap.size wr).drew
     iterate 8 (refine seg_take (v := ?_) rfl (Or.inl ⟨by rfl, ?_⟩) ?_; rotate_left; (focus (intro w' hw'; have ja := (hw'.cell (p := ⟨gx, ox + i, none⟩) hgx).trans cx1; have jb := (hw'.cell (p := ⟨gy, oy + k, none⟩) hgy).trans cy1; go_simp <;> with_reducible rfl)); try simp only [Act.put, pst3])
     refine seg_run rfl (fun K hK => ?_)
     go_simp
     have hh := bytes_any _ _ _ _ _ _ _ _ _ (R1.out.below HB) (R2.out.below HB)
     rw [HBT.out] at hh
     refine hh.mono ?_
     rintro e_ w9 ⟨rfl, rfl⟩
     refine hK.out _ _ (HB) ?_
     clear hK
     try simp only [Act.put, pst3]
     iterate 2 (refine seg_take (v := ?_) rfl (Or.inl ⟨by rfl, ?_⟩) ?_; rotate_left; (focus (intro w' hw'; have ja := (hw'.cell (p := ⟨gx, ox + i, none⟩) hgx).trans cx1; have jb := (hw'.cell (p := ⟨gy, oy + k, none⟩) hgy).trans cy1; go_simp <;> with_reducible rfl)); try simp only [Act.put, pst3])
     iterate 8 ((first | refine seg_take (v := undef) rfl (Or.inr ⟨by rfl, rfl⟩) ?_ | (refine seg_take (v := ?_) rfl (Or.inl ⟨by rfl, ?_⟩) ?_; rotate_left; (focus (intro w' hw'; have ja := (hw'.cell (p := ⟨gx, ox + i, none⟩) hgx).trans cx1; have jb := (hw'.cell (p := ⟨gy, oy + k, none⟩) hgy).trans cy1; go_simp <;> with_reducible rfl)))); try simp only [Act.put, pst3])
     refine seg_run rfl (fun K hK => ?_)
     go_simp
     refine hK.out _ _ (HB) ?_
     clear hK
     try simp only [Act.put, pst3]
     refine seg_run rfl (fun K hK => ?_)
     go_simp
     refine hK.out _ _ (HB) ?_
     clear hK
     try simp only [Act.put, pst3]
     iterate 1 ((first | refine seg_take (v := undef) rfl (Or.inr ⟨by rfl, rfl⟩) ?_ | (refine seg_take (v := ?_) rfl (Or.inl ⟨by rfl, ?_⟩) ?_; rotate_left; (focus (intro w' hw'; have ja := (hw'.cell (p := ⟨gx, ox + i, none⟩) hgx).trans cx1; have jb := (hw'.cell (p := ⟨gy, oy + k, none⟩) hgy).trans cy1; go_simp <;> with_reducible rfl)))); try simp only [Act.put, pst3])
     iterate 1 (refine seg_take (v := ?_) rfl (Or.inl ⟨by rfl, ?_⟩) ?_; rotate_left; (focus (intro w' hw'; have ja := (hw'.cell (p := ⟨gx, ox + i, none⟩) hgx).trans cx1; have jb := (hw'.cell (p := ⟨gy, oy + k, none⟩) hgy).trans cy1; go_simp <;> with_reducible rfl)); try simp only [Act.put, pst3])
     refine seg_done (fun _ => ?_)
     refine wpAnyH_done (by kernel_rfl) ?_ _
     have HBl := Lib.hid HB
     go_wp2_with fail
     go_roundw
     case rel => exact ⟨k + 1, by omega, by rw [Int.natCast_add]; rfl, HNO.out, HNX.out (fun h => absurd hxy h), HBo.out.trans (HBl.out.mono HBo.out.size)⟩
     case measure => simp [intOf]; omega
    ·have HBT := Lib.hid (show decide (x1 = y1) = false from decide_eq_false hxy)
     by_cases hO : O1 = O2
     ·subst hO
      have HE1 := Lib.hid (fun W => (fdig_eq O1 O1 HOL1.out HOL1.out W).trans (by rw [decide_eq_true rfl]))
      refine wp_region_seg (S := fun w' => Below wr.heap.size wr w') 0 (brw9 23 8388607) [(0, true), (1, true), (2, true), (3, true), (4, true), (5, true), (6, true), (7, true), (8, false), (9, true), (10, true), (11, true), (12, true), (13, true), (14, true), (16, true), (17, true), (18, true), (19, true), (15, false), (20, false), (21, true), (22, true)] (by kernel_rfl) (by kernel_rfl) (fun _ _ d _ _ h => by first | (cases d <;> exact h) | cases h.1) ((Below.refl wr.heap.size wr).drew) ?_
      have HB := (Below.refl wr.heap.size wr).drew
      iterate 8 (refine seg_take (v := ?_) rfl (Or.inl ⟨by rfl, ?_⟩) ?_; rotate_left; (focus (intro w' hw'; have ja := (hw'.cell (p := ⟨gx, ox + i, none⟩) hgx).trans cx1; have jb := (hw'.cell (p := ⟨gy, oy + k, none⟩) hgy).trans cy1; go_simp <;> with_reducible rfl)); try simp only [Act.put, pst3])
      refine seg_run rfl (fun K hK => ?_)
      go_simp
      have hh := bytes_any _ _ _ _ _ _ _ _ _ (R1.out.below HB) (R2.out.below HB)
      rw [HBT.out] at hh
      refine hh.mono ?_
      rintro e_ w9 ⟨rfl, rfl⟩
      refine hK.out _ _ (HB) ?_
      clear hK
      try simp only [Act.put, pst3]
      iterate 2 (refine seg_take (v := ?_) rfl (Or.inl ⟨by rfl, ?_⟩) ?_; rotate_left; (focus (intro w' hw'; have ja := (hw'.cell (p := ⟨gx, ox + i, none⟩) hgx).trans cx1; have jb := (hw'.cell (p := ⟨gy, oy + k, none⟩) hgy).trans cy1; go_simp <;> with_reducible rfl)); try simp only [Act.put, pst3])
      iterate 8 ((first | refine seg_take (v := undef) rfl (Or.inr ⟨by rfl, rfl⟩) ?_ | (refine seg_take (v := ?_) rfl (Or.inl ⟨by rfl, ?_⟩) ?_; rotate_left; (focus (intro w' hw'; have ja := (hw'.cell (p := ⟨gx, ox + i, none⟩) hgx).trans cx1; have jb := (hw'.cell (p := ⟨gy, oy + k, none⟩) hgy).trans cy1; go_simp <;> with_reducible rfl)))); try simp only [Act.put, pst3])
      refine seg_run rfl (fun K hK => ?_)
      go_simp
      refine (refShaOf_any T1 t1 tc1 x1 _ (R1.out.below HB) (by omega)).mono ?_
      rintro e_ w10 ⟨rfl, hb10⟩
      rw [HO1.out]
      have HB := below_then HB hb10
      refine hK.out _ _ (HB) ?_
      clear hK
      try simp only [Act.put, pst3]
      refine seg_run rfl (fun K hK => ?_)
      go_simp
      refine (refShaOf_any T2 t2 tc2 y1 _ (R2.out.below HB) (by omega)).mono ?_
      rintro e_ w11 ⟨rfl, hb11⟩
      rw [HO2.out]
      have HB := below_then HB hb11
      refine hK.out _ _ (HB) ?_
      clear hK
      try simp only [Act.put, pst3]
      refine seg_take (v := .bool true) rfl (Or.inl ⟨by rfl, fun w' hw' => ?_⟩) ?_
      focus ((have jj := HE1.out w'; go_simp))
      try simp only [Act.put, pst3]
      iterate 1 (refine seg_take (v := ?_) rfl (Or.inl ⟨by rfl, ?_⟩) ?_; rotate_left; (focus (intro w' hw'; have ja := (hw'.cell (p := ⟨gx, ox + i, none⟩) hgx).trans cx1; have jb := (hw'.cell (p := ⟨gy, oy + k, none⟩) hgy).trans cy1; go_simp <;> with_reducible rfl)); try simp only [Act.put, pst3])
      refine seg_done (fun _ => ?_)
      refine wpAnyH_done (by kernel_rfl) ?_ _
      have HBl := Lib.hid HB
      go_wp2_with fail
      refine (heads14 _).mono ?_
      rintro e_ w12 ⟨rfl, b12⟩
      go_wp2_with fail
      go_ret
      exact ⟨rfl, below_then (below_then BZ.out (HBo.out.trans (HBl.out.mono HBo.out.size))) b12⟩
     ·have HE1 := Lib.hid (fun W => (fdig_eq O1 O2 HOL1.out HOL2.out W).trans (by rw [decide_eq_false hO]))
      refine wp_region_seg (S := fun w' => Below wr.heap.size wr w') 0 (brw9 23 8388607) [(0, true), (1, true), (2, true), (3, true), (4, true), (5, true), (6, true), (7, true), (8, false), (9, true), (10, true), (11, true), (12, true), (13, true), (14, true), (16, true), (17, true), (18, true), (19, true), (15, false), (20, false), (21, true), (22, true)] (by kernel_rfl) (by kernel_rfl) (fun _ _ d _ _ h => by first | (cases d <;> exact h) | cases h.1) ((Below.refl wr.heap.size wr).drew) ?_
      have HB := (Below.refl wr.heap.size wr).drew
      iterate 8 (refine seg_take (v := ?_) rfl (Or.inl ⟨by rfl, ?_⟩) ?_; rotate_left; (focus (intro w' hw'; have ja := (hw'.cell (p := ⟨gx, ox + i, none⟩) hgx).trans cx1; have jb := (hw'.cell (p := ⟨gy, oy + k, none⟩) hgy).trans cy1; go_simp <;> with_reducible rfl)); try simp only [Act.put, pst3])
      refine seg_run rfl (fun K hK => ?_)
      go_simp
      have hh := bytes_any _ _ _ _ _ _ _ _ _ (R1.out.below HB) (R2.out.below HB)
      rw [HBT.out] at hh
      refine hh.mono ?_
      rintro e_ w9 ⟨rfl, rfl⟩
      refine hK.out _ _ (HB) ?_
      clear hK
      try simp only [Act.put, pst3]
      iterate 2 (refine seg_take (v := ?_) rfl (Or.inl ⟨by rfl, ?_⟩) ?_; rotate_left; (focus (intro w' hw'; have ja := (hw'.cell (p := ⟨gx, ox + i, none⟩) hgx).trans cx1; have jb := (hw'.cell (p := ⟨gy, oy + k, none⟩) hgy).trans cy1; go_simp <;> with_reducible rfl)); try simp only [Act.put, pst3])
      iterate 8 ((first | refine seg_take (v := undef) rfl (Or.inr ⟨by rfl, rfl⟩) ?_ | (refine seg_take (v := ?_) rfl (Or.inl ⟨by rfl, ?_⟩) ?_; rotate_left; (focus (intro w' hw'; have ja := (hw'.cell (p := ⟨gx, ox + i, none⟩) hgx).trans cx1; have jb := (hw'.cell (p := ⟨gy, oy + k, none⟩) hgy).trans cy1; go_simp <;> with_reducible rfl)))); try simp only [Act.put, pst3])
      refine seg_run rfl (fun K hK => ?_)
      go_simp
      refine (refShaOf_any T1 t1 tc1 x1 _ (R1.out.below HB) (by omega)).mono ?_
      rintro e_ w10 ⟨rfl, hb10⟩
      rw [HO1.out]
      have HB := below_then HB hb10
      refine hK.out _ _ (HB) ?_
      clear hK
      try simp only [Act.put, pst3]
      refine seg_run rfl (fun K hK => ?_)
      go_simp
      refine (refShaOf_any T2 t2 tc2 y1 _ (R2.out.below HB) (by omega)).mono ?_
      rintro e_ w11 ⟨rfl, hb11⟩
      rw [HO2.out]
      have HB := below_then HB hb11
      refine hK.out _ _ (HB) ?_
      clear hK
      try simp only [Act.put, pst3]
      refine seg_take (v := .bool false) rfl (Or.inl ⟨by rfl, fun w' hw' => ?_⟩) ?_
      focus ((have jj := HE1.out w'; go_simp))
      try simp only [Act.put, pst3]
      iterate 1 (refine seg_take (v := ?_) rfl (Or.inl ⟨by rfl, ?_⟩) ?_; rotate_left; (focus (intro w' hw'; have ja := (hw'.cell (p := ⟨gx, ox + i, none⟩) hgx).trans cx1; have jb := (hw'.cell (p := ⟨gy, oy + k, none⟩) hgy).trans cy1; go_simp <;> with_reducible rfl)); try simp only [Act.put, pst3])
      refine seg_done (fun _ => ?_)
      refine wpAnyH_done (by kernel_rfl) ?_ _
      have HBl := Lib.hid HB
      go_wp2_with fail
      go_roundw
      case rel => exact ⟨k + 1, by omega, by rw [Int.natCast_add]; rfl, HNO.out, HNX.out (fun _ h => absurd (HO1.out.symm.trans (h.trans HO2.out)) hO), HBo.out.trans (HBl.out.mono HBo.out.size)⟩
      case measure => simp [intOf]; omega
   ·obtain rfl : k = N2 := by omega
    have dkk : decide ((k : Int) < (k : Int)) = false := decide_eq_false (by omega)
    have dkk' : decide (k < k) = false := decide_eq_false hkl
    clear hB
    go_wp2_with fail
    go_roundw
    case rel => exact ⟨i + 1, by omega, by rw [Int.natCast_add]; rfl, fun i' k' h1 h2 => by
     by_cases hii : i' < i
     ·exact HNO.out i' k' hii h2
     ·obtain rfl : i' = i := by omega
      exact HNI.out k' h2, HBo.out⟩
    case measure => simp [intOf]; omega
  ·obtain rfl : i = N1 := by omega
   exact absurd (HBK.out HNO.out) (by decide)
end Go.Proofs.YtpahicfnhhhifaaGreat
