/-
 Proved here, for the statement JournalTells:
 Layer 12: records (the document): Put.
 Layer 3: digests (the document): Pad.
-/
import Derived.Test.YtpahicfnhhhifaaGreatGt23
set_option linter.unusedVariables false
set_option linter.unusedSimpArgs false
namespace Go.Proofs.YtpahicfnhhhifaaGreat
set_option maxRecDepth 20000
open Go.RowKit
set_option maxHeartbeats 8000000
theorem refPut12_no (r : Rc) (A : Option Addr) (n c : Nat) (w : World) (hr : RdB w A n c r.b) (hchk : r.chk = false) :
  Calls Tryz.prog 53 #[.agg (rcV r A n c).toArray] w (RetBE w [] 2) := by
 have hn := hr.n63
 have hl := hr.2.1
 obtain ⟨V, hV⟩ : ∃ V, V = w.alloc (.cells (rcV r A n c).toArray 90) := ⟨_, rfl⟩
 have bV : Below w.heap.size w V := by rw [hV]; exact (below_self w).alloc (Nat.le_refl _) _
 have q : RcAt V w.heap.size r A n c := by rw [hV]; exact rw_at _ rfl
 have hc := refCheck12_any r.t r.k r.c A n c V hn
 rw [show rcChk r.k r.c n = false by rw [← hl]; exact hchk] at hc
 have a3 := q.c3
 have a4 := q.c4
 have a5 := q.c5
 have a6 := q.c6
 rw [hV] at a3 a4 a5 a6
 have HC := Lib.hid hc
 have HV := Lib.hid hV
 obtain ⟨RV, hRV⟩ : ∃ z, z = (rcV r A n c).toArray := ⟨_, rfl⟩
 rw [← hRV] at HV a3 a4 a5 a6 ⊢
 clear hV hc q hRV hchk
 go_enter Tryz.func53, Tryz.ntmps53
 go_wp2_with fail
 rw [← HV.out]
 refine HC.out.mono ?_
 rintro e w2 ⟨rfl, hb2⟩
 clear a3 a4 a5 a6
 go_wp2
 go_ret2
 exact ⟨none, 0, 0, rfl, OwnB.nilB _ _, below_then bV hb2⟩
theorem refPut12_yes (r : Rc) (A : Option Addr) (n c : Nat) (w : World) (hok : r.ok) (hr : RdB w A n c r.b) (hchk : r.chk = true) :
  Calls Tryz.prog 53 #[.agg (rcV r A n c).toArray] w (RetBE w (rcL r) 0) := by
 have hn := hr.n63
 have hl := hr.2.1
 have hD := hok.2.2.2.2.2.2
 have hb186 := (rcChk_len hchk).1
 obtain ⟨V, hV⟩ : ∃ V, V = w.alloc (.cells (rcV r A n c).toArray 90) := ⟨_, rfl⟩
 have bV : Below w.heap.size w V := by rw [hV]; exact (below_self w).alloc (Nat.le_refl _) _
 have q : RcAt V w.heap.size r A n c := by rw [hV]; exact rw_at _ rfl
 have hc := refCheck12_any r.t r.k r.c A n c V hn
 rw [show rcChk r.k r.c n = true by rw [← hl]; exact hchk] at hc
 have a3 := q.c3
 have a4 := q.c4
 have a5 := q.c5
 have a6 := q.c6
 rw [hV] at a3 a4 a5 a6
 have HC := Lib.hid hc
 have HV := Lib.hid hV
 have Q := Lib.hid q
 have HLn := Lib.hid (fun W (h : RdB W A n c r.b) => refBody_any r A n c W hok hchk h)
 have hb186' : r.b.length ≤ 186 := by omega
 have HBD := Lib.hid (rcBody_len r hb186')
 have HLD := Lib.hid hD
 obtain ⟨RV, hRV⟩ : ∃ z, z = (rcV r A n c).toArray := ⟨_, rfl⟩
 have HRV := Lib.hid hRV
 rw [← hRV] at HV a3 a4 a5 a6 HLn ⊢
 clear hV hc q hRV hchk hok hD
 go_enter Tryz.func53, Tryz.ntmps53
 go_wp2_with fail
 rw [← HV.out]
 refine HC.out.mono ?_
 rintro e w2 ⟨rfl, hb2⟩
 have B2 := below_then bV hb2
 have Q2 := Lib.hid (Q.out.up hb2)
 clear a3 a4 a5 a6
 go_wp2_with fail
 refine wp_region_seg (S := fun w' => Below w2.heap.size w2 w') 0 (brw9 8 255) [(0, true), (2, true), (3, true), (1, false), (4, false), (5, false), (6, true), (7, true)] (by kernel_rfl) (by kernel_rfl) (fun _ _ d _ _ h => by first | (cases d <;> exact h) | cases h.1) ((Below.refl w2.heap.size w2).drew) ?_
 have HB := (Below.refl w2.heap.size w2).drew
 refine seg_take (v := .agg RV) rfl (Or.inl ⟨by rfl, fun w' hw' => ?_⟩) ?_
 focus (exact rex_load rfl rfl (HRV.out ▸ load_rc (rw_up Q2.out hw') HLD.out))
 try simp only [Act.put, pst3]
 iterate 2 (refine seg_take (v := ?_) rfl (Or.inl ⟨by rfl, ?_⟩) ?_; rotate_left; (focus (intro w' hw'; go_simp <;> with_reducible rfl)); try simp only [Act.put, pst3])
 refine seg_run rfl (fun K hK => ?_)
 go_simp
 refine (HLn.out _ (hr.below (below_then B2 HB))).mono ?_
 rintro e_ w3 ⟨gb, nb, db, rfl, rb, hb3⟩
 obtain rfl : nb = 220 := by rw [← rb.len, HBD.out]
 have HB0 := HB.size
 have HB := below_then HB hb3
 refine hK.out _ _ (HB) ?_
 clear hK
 try simp only [Act.put, pst3]
 refine seg_run rfl (fun K hK => ?_)
 rw [if_pos (by rfl)]
 refine op_appB _ _ rfl HB (Nat.le_refl _) HB.size gb 220 db (rcBody r) rfl (rb.mono HB0) (some ⟨w.heap.size, 7, none⟩) 32 32 r.D rfl ((Q2.out.dig HLD.out).below HB) (by omega) 252 (rcBody r ++ r.D) rfl rfl ?_
 intro AJ cJ wJ oJ HJb HJg
 have HB := HJb
 refine hK.out _ _ (HB) ?_
 clear hK
 try simp only [Act.put, pst3]
 refine seg_run rfl (fun K hK => ?_)
 go_simp
 refine (refClosed_any AJ 252 cJ _ _ oJ.rd (by omega)).mono ?_
 rintro e_ wC ⟨AC, nC, cC, rfl, oC, HCb⟩
 have HB0 := HB.size
 have HB := below_then HB HCb
 refine hK.out _ _ (HB) ?_
 clear hK
 try simp only [Act.put, pst3]
 iterate 2 (refine seg_take (v := ?_) rfl (Or.inl ⟨by rfl, ?_⟩) ?_; rotate_left; (focus (intro w' hw'; go_simp <;> with_reducible rfl)); try simp only [Act.put, pst3])
 refine seg_done (fun _ => ?_)
 refine wpAnyH_done (by kernel_rfl) ?_ _
 go_wp2
 go_ret2
 have zz := B2.size
 refine ⟨_, _, _, rfl, ?_, below_then B2 HB⟩
 show OwnB wC w.heap.size AC nC cC (crcClosed (rcBody r ++ r.D))
 exact OwnB.mono oC (by omega)
theorem refPut12_any (r : Rc) (A : Option Addr) (n c : Nat) (w : World) (hok : r.ok) (hr : RdB w A n c r.b) :
  Calls Tryz.prog 53 #[.agg (rcV r A n c).toArray] w (RetBE w (rcPutL r) (rcPutE r)) := by
 unfold rcPutL rcPutE
 cases h : r.chk with
 | false => rw [if_neg (by decide), if_neg (by decide)]; exact refPut12_no r A n c w hr h
 | true => rw [if_pos rfl, if_pos rfl]; exact refPut12_yes r A n c w hok hr h
end Go.Proofs.YtpahicfnhhhifaaGreat
namespace Go.Proofs.YtpahicfnhhhifaaGreat
set_option maxRecDepth 20000
open Go.RowKit Go.Shelf
set_option maxHeartbeats 8000000
attribute [local go_sem] Oper.semAt_some
def RPad (w : World) (z : Nat) (s : Value) (wr : World) : Prop :=
 ∃ (A : Option Addr) (k m c : Nat), k ≤ z ∧ m = 1 + k ∧ s = .slice A m c ∧ OwnB wr w.heap.size A m c (128 :: List.replicate k 0) ∧ Below w.heap.size w wr
theorem refPad_num (r m : Nat) (hr : r < 64) (hm : m ≤ 100) : wrap64 ((r + m : Nat) : Int) = ((r + m : Nat) : Int) ∧ wrap64 (((r + m : Nat) : Int) + 8) = ((r + m + 8 : Nat) : Int) ∧ (((r + m + 8 : Nat) : Int)).tmod 64 = (((r + m + 8) % 64 : Nat) : Int) := by
 refine ⟨IntWalk.wrap64_in _ ⟨by omega, by omega⟩, ?_, ?_⟩
 ·rw [show ((r + m : Nat) : Int) + 8 = ((r + m + 8 : Nat) : Int) by omega]; exact IntWalk.wrap64_in _ ⟨by omega, by omega⟩
 ·rw [Int.tmod_eq_emod_of_nonneg (by omega)]; omega
theorem refPad_z (r z : Nat) (hr : r < 64) (hz : z = (119 - r) % 64) : (r ≤ 55 ∧ z = 55 - r) ∨ (56 ≤ r ∧ z = 119 - r) := by
 rcases Nat.lt_or_ge r 56 with h | h
 ·left; exact ⟨by omega, by rw [hz, show 119 - r = (55 - r) + 64 by omega, Nat.add_mod_right]; exact Nat.mod_eq_of_lt (by omega)⟩
 ·right; exact ⟨h, by rw [hz]; exact Nat.mod_eq_of_lt (by omega)⟩
theorem refPad_on (r z k : Nat) (hr : r < 64) (hz : z = (119 - r) % 64) (hk : k < z) : (r + (1 + k) + 8) % 64 ≠ 0 := by
 rcases refPad_z r z hr hz with ⟨h1, h2⟩ | ⟨h1, h2⟩
 ·rw [Nat.mod_eq_of_lt (by omega)]; omega
 ·rw [show r + (1 + k) + 8 = (r + k - 55) + 64 by omega, Nat.add_mod_right, Nat.mod_eq_of_lt (by omega)]; omega
theorem refPad_off (r z : Nat) (hr : r < 64) (hz : z = (119 - r) % 64) : (r + (1 + z) + 8) % 64 = 0 := by
 rcases refPad_z r z hr hz with ⟨h1, h2⟩ | ⟨h1, h2⟩
 ·rw [show r + (1 + z) + 8 = 64 by omega]
 ·rw [show r + (1 + z) + 8 = 128 by omega]
set_option maxRecDepth 100000 in
theorem refPad_any (n : Nat) (w : World) (h : n ≤ 1000000) : Calls Tryz.prog 85 #[.int .i64 (n : Int)] w (RetB w (shPad n)) := by
 obtain ⟨r, hr⟩ : ∃ r, r = n % 64 := ⟨_, rfl⟩
 obtain ⟨z, hz⟩ : ∃ z, z = (119 - r) % 64 := ⟨_, rfl⟩
 have a1 : (n : Int) % 64 = (r : Int) := by omega
 have d1 : decide ((n : Int) < 0) = false := decide_eq_false (by omega)
 obtain ⟨m8, hm8⟩ : ∃ m, m = 8 * n := ⟨_, rfl⟩
 have hP : shPad n = (128 :: List.replicate z 0) ++ beB m8 8 := by unfold shPad; rw [hz, hr, hm8]; simp
 have HP := Lib.hid hP
 have hm64 : m8 < 18446744073709551616 := by omega
 have hz64 : z < 64 := by omega
 have hr64 : r < 64 := by omega
 have wn := w64n (k := n) (by omega)
 have w8 : IntKind.u64.wrap (8 * (n : Int)) = (m8 : Int) := by rw [IntWalk.u64_in _ (by omega)]; omega
 have HZ := Lib.hid hz
 have HR64 := Lib.hid hr64
 have HZ64 := Lib.hid hz64
 have HM64 := Lib.hid hm64
 have WN := Lib.hid wn
 have W8 := Lib.hid w8
 clear hP hr hz hm8 h hr64 hz64 hm64 wn w8
 go_enter Tryz.func85, Tryz.ntmps85
 go_wp2
 go_loopw [3] (fun s wr => RPad w z s wr) (fun s _ => match s with | .slice _ n _ => 1 + z - n | _ => 0)
 case atStart =>
  exact ⟨some ⟨w.heap.size, 0, none⟩, 0, 1, 1, Nat.zero_le _, rfl, rfl, OwnB.lit w #[.int .u8 128] [128] 1 rfl rfl (by simp [maxLen]), (below_self w).alloc (Nat.le_refl _) _⟩
 case round =>
  obtain ⟨A, k, m, c, hk, hm, rfl, ho, hB⟩ := hrel
  have hmb : m ≤ 100 := by have := HZ64.out; omega
  have hr64 := HR64.out
  have hon := fun h => refPad_on r z k hr64 HZ.out h
  have hoff := fun h : k = z => h ▸ refPad_off r z hr64 HZ.out
  rw [← hm] at hon
  have hn3 := refPad_num r m hr64 hmb
  have b1 : (r : Int) + (m : Int) = ((r + m : Nat) : Int) := rfl
  have hoff' : k = z → (r + m + 8) % 64 = 0 := fun h => by rw [hm]; subst h; exact refPad_off r k hr64 HZ.out
  clear hoff
  obtain ⟨t, ht⟩ : ∃ t, t = (r + m + 8) % 64 := ⟨_, rfl⟩
  rw [← ht] at hn3 hon hoff'
  have htl : t < 64 := by rw [ht]; exact Nat.mod_lt _ (by omega)
  generalize hs2 : r + m + 8 = s2 at hn3 ht
  generalize hs1 : r + m = s1 at hn3 b1
  clear hr64
  obtain ⟨g1, g2, g3⟩ := hn3
  have b2 : (s1 : Int) + 8 = (s2 : Int) := by rw [← hs1, ← hs2]; rfl
  have b3 : (s2 : Int) % 64 = (t : Int) := by rw [ht]; rfl
  by_cases hlt : k < z
  ·have b4 : ¬ (t = 0) := hon hlt
   clear hon hoff' ht hs1 hs2
   have b6 : ¬ ((t : Int) = 0) := fun e => b4 (Int.ofNat.inj e)
   have b5 : ((t : Int) != 0) = true := bne_iff_ne.2 b6
   have HM := Lib.hid hm
   clear hm htl b4
   iterate 43 (first | go_values | go_skip | go_guarded | go_step | go_upon | go_in | go_back)
   at_builtin
   refine wp_appB rfl _ _ rfl (hB.alloc hB.size _) (Nat.le_refl _) (by have := hB.size; simp; omega) A m c (128 :: List.replicate k 0) rfl (ho.alloc _) (some ⟨wr.heap.size, 0, none⟩) 1 1 [0] rfl (RdB.litM wr #[.int .u8 0] (0, 0) [0] 1 rfl rfl (by simp [maxLen])) (by omega) (m + 1) (128 :: List.replicate (k + 1) 0) rfl (by rw [List.replicate_succ']; rfl) ?_
   intro A4 c4 w4 ho4 hb4 hg4
   go_wp2_with fail
   go_roundw
   case rel => exact ⟨A4, k + 1, m + 1, c4, hlt, by rw [HM.out]; rfl, rfl, ho4, hb4⟩
   case measure => exact Nat.sub_lt_sub_left (by rw [HM.out]; exact Nat.add_lt_add_left hlt 1) (Nat.lt_succ_self m)
  ·obtain rfl : k = z := by omega
   have b4 : t = 0 := hoff' rfl
   clear hon hoff' ht hs1 hs2
   have b5 : ((t : Int) != 0) = false := by rw [b4]; rfl
   have HB4 := Lib.hid b4
   clear b4
   have HM := Lib.hid hm
   have wn := WN.out
   have w8 := W8.out
   have hm64 := HM64.out
   clear hm htl
   go_wp2_with fail
   refine (refBe_any m8 8 wr hm64).mono ?_
   rw [show clamp 8 = 8 from rfl]
   rintro e w5 ⟨A5, n5, c5, rfl, ho5, hb5⟩
   obtain rfl : n5 = 8 := by rw [← ho5.len, beB_length]
   have B5 := below_then hB hb5
   go_wp2_with (at_builtin; refine wp_appB rfl _ _ rfl B5 (Nat.le_refl _) B5.size A m c (128 :: List.replicate k 0) rfl (ho.below hb5) A5 8 c5 (beB m8 8) rfl ho5.rd (by omega) (m + 8) (shPad n) rfl (by rw [HP.out]) ?_; intro A6 c6 w6 ho6 hb6 hg6)
   go_ret
   exact ⟨A6, _, c6, rfl, ho6, hb6⟩
end Go.Proofs.YtpahicfnhhhifaaGreat
namespace Go.Proofs.YtpahicfnhhhifaaGreat
set_option maxRecDepth 20000
open Go.RowKit
set_option maxHeartbeats 8000000
theorem refWords_short (A : Option Addr) (n c : Nat) (xs : List UInt8) (w : World) (hr : RdB w A n c xs) (h : n ≠ 64) :
  Calls Tryz.prog 123 #[.slice A n c] w (RetW w (shWords xs)) := by
 have hn := hr.n63
 have e : shWords xs = z64 := by unfold shWords; rw [if_neg (by rw [hr.2.1]; exact h)]; rfl
 rw [e]
 have d1 : ((n : Int) != 64) = true := by rw [bne_iff_ne]; omega
 have H0 := Lib.hid (show ((w.alloc (.cells zz2 166)).alloc (.cells zz2 166)).heap[w.heap.size]? = some (.cells (wsV z64) 166 (0, 0)) by rw [z64_V]; exact row2a ..)
 have H1 := Lib.hid (show ((w.alloc (.cells zz2 166)).alloc (.cells zz2 166)).heap[w.heap.size + 1]? = some (.cells (wsV z64) 166 (0, 0)) by rw [z64_V]; exact row2b ..)
 clear h e
 go_enter Tryz.func123, Tryz.ntmps123
 go_wp2_with (first
  | (refine w64_load rfl _ rfl (w.heap.size + 1) rfl z64 166 H1.out rfl ?_)
  | (refine w64_store rfl _ _ rfl w.heap.size rfl z64 z64 rfl 166 H0.out rfl rfl ?_))
 refine bodyPost_ret (results_cell_row Tryz.results123 _ _ w.heap.size 166 (wsV z64) (0, 0) _ rfl (setRow_heap _ _ _ (wsV z64) _ _ H0.out) Tryz.underlying166 rfl (info64 z64 rfl)) rfl ?_
 exact ⟨rfl, below_setRow (((below_self w).alloc (Nat.le_refl _) _).alloc (by simp) _) (Nat.le_refl _) _⟩
set_option maxRecDepth 100000 in
theorem refWords_long (A : Option Addr) (c : Nat) (xs : List UInt8) (w : World) (hr : RdB w A 64 c xs) :
  Calls Tryz.prog 123 #[.slice A 64 c] w (RetW w (shWords xs)) := by
 have hl := hr.2.1
 have hc := hr.2.2.1
 have hc63 := hr.c63
 have e : shWords xs = shWs xs 64 := by unfold shWords; rw [if_pos hl]
 rw [e]
 have d1 : ((64 : Int) != 64) = false := by decide
 obtain ⟨b, o, u, rfl, hbl, _⟩ := hr.at_ 0 (by omega)
 have HL := Lib.hid hl
 clear hl e
 go_enter Tryz.func123, Tryz.ntmps123
 go_wp2_with fail
 obtain ⟨W, hW⟩ : ∃ W, W = (w.alloc (.cells zz2 166)).alloc (.cells zz2 166) := ⟨_, rfl⟩
 have bW : Below w.heap.size w W := by rw [hW]; exact ((below_self w).alloc (Nat.le_refl _) _).alloc (by simp) _
 have h0 : W.heap[w.heap.size]? = some (.cells (wsV z64) 166 (0, 0)) := by rw [hW, z64_V]; exact row2a ..
 have h1 : W.heap[w.heap.size + 1]? = some (.cells (wsV z64) 166 (0, 0)) := by rw [hW, z64_V]; exact row2b ..
 have zW : w.heap.size + 1 < W.heap.size := by rw [hW]; simp
 rw [← hW]
 clear hW
 go_loopw [4] (fun v wr => WrI w xs v wr ∧ intOf v ≤ 16) (fun i _ => 16 - (intOf i).toNat)
 case atStart => exact ⟨⟨0, by omega, rfl, by rw [wsP_zero]; exact h1, h0, bW, zW⟩, by simp [intOf]⟩
 case round =>
  obtain ⟨⟨k, hk, rfl, r3, r2, HB, hz⟩, hk16⟩ := hrel
  simp only [intOf] at hk16
  clear h0 h1 zW bW
  by_cases h16 : k < 16
  ·have hlt : k < 64 := by omega
   have R3 := Lib.hid r3
   have R2 := Lib.hid r2
   have hset := wsP_set xs k hlt
   have HS := Lib.hid hset
   have old := (cell_of_row wr _ k _ _ _ r3).trans (wsV_get _ k (by rw [wsP_len _ _ (by omega)]; exact hlt))
   have frz : wr.frozen? ⟨w.heap.size + 1, k, none⟩ = false := frozen_of_row _ _ _ _ _ r3
   have HOLD := Lib.hid old
   clear r3 r2 hset old
   obtain ⟨p, hp⟩ : ∃ p, p = 4 * k := ⟨_, rfl⟩
   have rc := ((hr.below HB).cutS p (64 - p) (by omega) (by omega)).take 4 (by omega)
   have hF : fromBe ((xs.drop p).take 4) = shWord xs (shWs xs k) k := by
    unfold fromBe shWord; rw [if_pos h16, List.take_take, hp]; rfl
   have hF2 : shWord xs (shWs xs k) k < 4294967296 := shWord_lt _ _ _
   generalize shWord xs (shWs xs k) k = M at *
   have HF := Lib.hid hF
   have wM : IntKind.u32.wrap (M : Int) = M := by rw [IntKind.wrap_u32]; omega
   have oo := HOLD.out
   obtain ⟨u9, hu9⟩ : ∃ u : Nat, (wsP xs k).getD k 0 = u := ⟨_, rfl⟩
   rw [hu9] at oo
   obtain ⟨q, hq⟩ : ∃ q, q = p + 4 := ⟨_, rfl⟩
   have a1 : (4 : Int) * (k : Int) = (p : Int) := by omega
   have a2 : (p : Int) + 4 = (q : Int) := by omega
   have a3 : (q : Int) ≤ (c : Int) := by omega
   have a4 : ¬ (c = p) := by omega
   have a5 : q - p = 4 := by omega
   have a6 : (p : Int) ≤ (q : Int) := by omega
   clear hF hu9 hp hq
   go_wp2_with fail
   refine (refFromBe_any _ _ _ _ _ rc).mono ?_
   rintro e w1 ⟨rfl, rfl⟩
   rw [HF.out]
   go_wp2_with fail
   go_roundw
   case rel => exact ⟨⟨k + 1, by omega, by go_num, by rw [setc_rowT R3.out, wsV_set, HS.out], (Below.heap_setCell _ _ _ _ (by simp)).trans R2.out, HB.setCell (p := ⟨w.heap.size + 1, k, none⟩) (by simp) _, by simp [World.setCell]; omega⟩, by simp [intOf]; omega⟩
   case measure => simp [intOf]; omega
  ·obtain rfl : k = 16 := by omega
   rw [show ((16 : Nat) : Int) = 16 from rfl]
   go_wp2_with fail
   go_loopw [5, 6, 7] (fun v _ _ w2 => WrI w xs v w2 ∧ 16 ≤ intOf v) (fun i _ _ _ => 64 - (intOf i).toNat)
   case atStart => exact ⟨⟨16, by omega, rfl, r3, r2, HB, hz⟩, by simp [intOf]⟩
   case round =>
    clear r3 r2 HB hz hk hk16
    obtain ⟨⟨k, hk, rfl, r3, r2, HB, hz⟩, hk16⟩ := hrel
    simp only [intOf] at hk16
    by_cases hlt : k < 64
    ·have R3 := Lib.hid r3
     have R2 := Lib.hid r2
     have hset := wsP_set xs k hlt
     have HS := Lib.hid hset
     have old := (cell_of_row wr _ k _ _ _ r3).trans (wsV_get _ k (by rw [wsP_len _ _ (by omega)]; exact hlt))
     have frz : wr.frozen? ⟨w.heap.size + 1, k, none⟩ = false := frozen_of_row _ _ _ _ _ r3
     have cell : ∀ j, j < k → wr.cell? ⟨w.heap.size + 1, j, none⟩ = some (.int .u32 (((shWs xs k).getD j 0 : Nat) : Int)) := fun j hj => by
      rw [← wsP_get xs k j hj]
      exact (cell_of_row wr _ j _ _ _ R3.out).trans (wsV_get _ j (by rw [wsP_len _ _ (by omega)]; omega))
     have hword : shWord xs (shWs xs k) k = shSig (shWs xs k) k := by unfold shWord; rw [if_neg (by omega)]
     have l15 := ws_lt xs k (k - 15)
     have l2 := ws_lt xs k (k - 2)
     have l7 := ws_lt xs k (k - 7)
     have l16 := ws_lt xs k (k - 16)
     have c15 := cell (k - 15) (by omega)
     have c2 := cell (k - 2) (by omega)
     have c7 := cell (k - 7) (by omega)
     have c16 := cell (k - 16) (by omega)
     have hsig : shSig (shWs xs k) k = ((shMix ((shWs xs k).getD (k - 2) 0) [17, 19] ^^^ (shWs xs k).getD (k - 2) 0 / 1024) + ((shWs xs k).getD (k - 7) 0 + (shWs xs k).getD (k - 16) 0 + (shMix ((shWs xs k).getD (k - 15) 0) [7, 18] ^^^ (shWs xs k).getD (k - 15) 0 / 8))) % 4294967296 := rfl
     rw [shMix2, shMix2] at hsig
     rw [hword, hsig] at HS
     obtain ⟨u9, hu9⟩ : ∃ u : Nat, (wsP xs k).getD k 0 = u := ⟨_, rfl⟩
     rw [hu9] at old
     generalize (shWs xs k).getD (k - 15) 0 = far at *
     generalize (shWs xs k).getD (k - 2) 0 = near at *
     generalize (shWs xs k).getD (k - 7) 0 = s7 at *
     generalize (shWs xs k).getD (k - 16) 0 = s16 at *
     obtain ⟨j15, e15⟩ : ∃ j, j = k - 15 := ⟨_, rfl⟩
     obtain ⟨j2, e2⟩ : ∃ j, j = k - 2 := ⟨_, rfl⟩
     obtain ⟨j7, e7⟩ : ∃ j, j = k - 7 := ⟨_, rfl⟩
     obtain ⟨j16, e16⟩ : ∃ j, j = k - 16 := ⟨_, rfl⟩
     rw [← e15] at c15
     rw [← e2] at c2
     rw [← e7] at c7
     rw [← e16] at c16
     have m15 : (k : Int) - 15 = (j15 : Int) := by omega
     have m2 : (k : Int) - 2 = (j2 : Int) := by omega
     have m7 : (k : Int) - 7 = (j7 : Int) := by omega
     have m16 : (k : Int) - 16 = (j16 : Int) := by omega
     have b15 : j15 < 64 := by omega
     have b2 : j2 < 64 := by omega
     have b7 : j7 < 64 := by omega
     have b16 : j16 < 64 := by omega
     have b15i : (j15 : Int) < 64 := by omega
     have b2i : (j2 : Int) < 64 := by omega
     have b7i : (j7 : Int) < 64 := by omega
     have b16i : (j16 : Int) < 64 := by omega
     have bki : (k : Int) < 64 := by omega
     have w15 := wi64n (k := j15) (by omega)
     have w2 := wi64n (k := j2) (by omega)
     have w7 := wi64n (k := j7) (by omega)
     have w16 := wi64n (k := j16) (by omega)
     obtain ⟨n10, hn10⟩ : ∃ n, near / 1024 = n := ⟨_, rfl⟩
     obtain ⟨f3, hf3⟩ : ∃ n, far / 8 = n := ⟨_, rfl⟩
     have q10 : (near : Int) / 1024 = (n10 : Int) := by omega
     have q3 : (far : Int) / 8 = (f3 : Int) := by omega
     rw [hn10, hf3] at HS
     have t7 := ror_lt 7 l15
     have t18 := ror_lt 18 l15
     have t17 := ror_lt 17 l2
     have t19 := ror_lt 19 l2
     have x1 := u32_xor_nat (ror far 7) (ror far 18) t7 t18
     have x1l := xor_lt32 t7 t18
     have x2 := u32_xor_nat (ror near 17) (ror near 19) t17 t19
     have x2l := xor_lt32 t17 t19
     have K7 := Lib.hid (fun W => refRot_any far 7 W l15 (by omega) (by omega))
     have K18 := Lib.hid (fun W => refRot_any far 18 W l15 (by omega) (by omega))
     have K17 := Lib.hid (fun W => refRot_any near 17 W l2 (by omega) (by omega))
     have K19 := Lib.hid (fun W => refRot_any near 19 W l2 (by omega) (by omega))
     generalize ror far 7 ^^^ ror far 18 = X1 at *
     generalize ror near 17 ^^^ ror near 19 = X2 at *
     generalize ror far 7 = r7 at *
     generalize ror far 18 = r18 at *
     generalize ror near 17 = r17 at *
     generalize ror near 19 = r19 at *
     have y1 := u32_xor_nat X1 f3 x1l (by omega)
     have y1l := xor_lt32 x1l (show f3 < 4294967296 by omega)
     have y2 := u32_xor_nat X2 n10 x2l (by omega)
     have y2l := xor_lt32 x2l (show n10 < 4294967296 by omega)
     generalize X1 ^^^ f3 = Y1 at *
     generalize X2 ^^^ n10 = Y2 at *
     obtain ⟨p1, hp1⟩ : ∃ p, p = (s16 + Y1) % 4294967296 := ⟨_, rfl⟩
     obtain ⟨p2, hp2⟩ : ∃ p, p = (p1 + s7) % 4294967296 := ⟨_, rfl⟩
     obtain ⟨P, hP⟩ : ∃ p, p = (p2 + Y2) % 4294967296 := ⟨_, rfl⟩
     have v1 : IntKind.u32.wrap ((s16 : Int) + (Y1 : Int)) = (p1 : Int) := by rw [IntKind.wrap_u32]; omega
     have v2 : IntKind.u32.wrap ((p1 : Int) + (s7 : Int)) = (p2 : Int) := by rw [IntKind.wrap_u32]; omega
     have v3 : IntKind.u32.wrap ((p2 : Int) + (Y2 : Int)) = (P : Int) := by rw [IntKind.wrap_u32]; omega
     rw [show (Y2 + (s7 + s16 + Y1)) % 4294967296 = P by omega] at HS
     have HSS := Lib.hid HS.out
     have hg3 : w.heap.size + 1 < wr.heap.size := hz
     clear r3 r2 hset cell hword hsig hu9 e15 e2 e7 e16 hn10 hf3 l15 l2 l7 l16 HS t7 t18 t17 t19 x1l x2l y1l y2l hp1 hp2 hP
     go_wp2_with fail
     refine wp_region_plan (S := fun w' => Below wr.heap.size wr w') [(0, true), (1, true), (2, true), (3, true), (4, true), (5, true), (6, true), (7, true), (8, true), (9, true)] (by kernel_rfl) (by kernel_rfl) (fun _ _ d _ _ h => by cases d <;> exact h) ((Below.refl _ wr).drew) ?_
     iterate 10 (refine plan_take (v := ?_) rfl (Or.inl ⟨by rfl, ?_⟩) ?_; rotate_left; (focus (intro w' hw'; have jj := (hw'.cell (p := ⟨w.heap.size + 1, j15, none⟩) hg3).trans c15; have jk := (hw'.cell (p := ⟨w.heap.size + 1, j2, none⟩) hg3).trans c2; go_simp <;> with_reducible rfl)); try simp only [Act.put, pst3])
     refine plan_done ?_
     go_wp2_with fail
     obtain ⟨V, hV⟩ : ∃ V, V = wr.drew := ⟨_, rfl⟩
     rw [← hV]
     have bV : Below wr.heap.size wr V := by rw [hV]; exact (Below.refl _ _).drew
     have zV : w.heap.size + 1 < V.heap.size := Nat.lt_of_lt_of_le hg3 bV.size
     have oV := (bV.cell (p := ⟨w.heap.size + 1, k, none⟩) hg3).trans old
     have fV := (bV.frozen (p := ⟨w.heap.size + 1, k, none⟩) hg3).trans frz
     have c7V := (bV.cell (p := ⟨w.heap.size + 1, j7, none⟩) hg3).trans c7
     have c16V := (bV.cell (p := ⟨w.heap.size + 1, j16, none⟩) hg3).trans c16
     have R3V := Lib.hid ((bV.block _ hg3).trans R3.out)
     have R2V := Lib.hid ((bV.block _ (by omega)).trans R2.out)
     have HBV := HB.trans (bV.mono HB.size)
     clear hV c15 c2 c7 c16 old frz
     refine wp_region_last (S := fun w' => Below V.heap.size V w') 29 (brw9 30 536870911) [(0, true), (1, true), (2, true), (3, true), (4, true), (5, true), (7, true), (10, true), (11, true), (14, true), (15, true), (16, true), (17, true), (19, true), (21, true), (24, true), (25, true), (6, false), (8, false), (9, true), (12, true), (13, true), (18, true), (20, false), (22, false), (23, true), (26, true), (27, true), (28, true)] (by kernel_rfl) (by kernel_rfl) (fun _ _ d _ _ h => by cases d <;> exact h) ((Below.refl _ V).drew) ?_
     iterate 17 (refine seg_take (v := ?_) rfl (Or.inl ⟨by rfl, ?_⟩) ?_; rotate_left; (focus (intro w' hw'; have jk := (hw'.cell (p := ⟨w.heap.size + 1, j7, none⟩) zV).trans c7V; have jl := (hw'.cell (p := ⟨w.heap.size + 1, j16, none⟩) zV).trans c16V; go_simp <;> with_reducible rfl)); try simp only [Act.put, pst3])
     refine seg_run rfl (fun K hK => ?_)
     go_simp
     refine (K7.out _).mono ?_
     rintro e v1 ⟨rfl, rfl⟩
     have HB1 := (Below.refl V.heap.size V).drew
     refine hK.out _ _ (HB1) ?_
     clear hK
     try simp only [Act.put, pst3]
     refine seg_run rfl (fun K hK => ?_)
     go_simp
     refine (K18.out _).mono ?_
     rintro e v1 ⟨rfl, rfl⟩
     refine hK.out _ _ (HB1) ?_
     clear hK
     try simp only [Act.put, pst3]
     iterate 4 (refine seg_take (v := ?_) rfl (Or.inl ⟨by rfl, ?_⟩) ?_; rotate_left; (focus (intro w' hw'; have jk := (hw'.cell (p := ⟨w.heap.size + 1, j7, none⟩) zV).trans c7V; have jl := (hw'.cell (p := ⟨w.heap.size + 1, j16, none⟩) zV).trans c16V; go_simp <;> with_reducible rfl)); try simp only [Act.put, pst3])
     refine seg_run rfl (fun K hK => ?_)
     go_simp
     refine (K17.out _).mono ?_
     rintro e v1 ⟨rfl, rfl⟩
     refine hK.out _ _ (HB1) ?_
     clear hK
     try simp only [Act.put, pst3]
     refine seg_run rfl (fun K hK => ?_)
     go_simp
     refine (K19.out _).mono ?_
     rintro e v1 ⟨rfl, rfl⟩
     refine hK.out _ _ (HB1) ?_
     clear hK
     try simp only [Act.put, pst3]
     iterate 4 (refine seg_take (v := ?_) rfl (Or.inl ⟨by rfl, ?_⟩) ?_; rotate_left; (focus (intro w' hw'; have jk := (hw'.cell (p := ⟨w.heap.size + 1, j7, none⟩) zV).trans c7V; have jl := (hw'.cell (p := ⟨w.heap.size + 1, j16, none⟩) zV).trans c16V; go_simp <;> with_reducible rfl)); try simp only [Act.put, pst3])
     refine seg_done ?_
     refine last_run rfl (fun K hK => ?_)
     go_simp
     have o5 := (HB1.cell (p := ⟨w.heap.size + 1, k, none⟩) zV).trans oV
     have f5 := (HB1.frozen (p := ⟨w.heap.size + 1, k, none⟩) zV).trans fV
     go_simp
     refine hK.out _ _ ?_
     clear hK
     try simp only [Act.put, pst3]
     have z5 := HB1.size
     have R35 := Lib.hid ((HB1.block _ zV).trans R3V.out)
     have R25 := Lib.hid ((HB1.block _ (by omega)).trans R2V.out)
     clear o5 f5
     go_wp2_with fail
     go_roundw
     case rel =>
      refine ⟨⟨k + 1, by omega, by go_num, ?_, ?_, (HBV.setCell (p := ⟨w.heap.size + 1, k, none⟩) (by simp) _).drew, by simp [World.setCell, World.drew]; omega⟩, by simp [intOf]; omega⟩
      ·show (V.setCell ⟨w.heap.size + 1, k, none⟩ _).heap[w.heap.size + 1]? = _
       rw [setc_rowT R3V.out, wsV_set, HSS.out]
      ·show (V.setCell ⟨w.heap.size + 1, k, none⟩ _).heap[w.heap.size]? = _
       exact (Below.heap_setCell _ _ _ _ (by simp)).trans R2V.out
     case measure => simp [intOf]; omega
    ·obtain rfl : k = 64 := by omega
     rw [wsP_all] at r3
     have R3 := Lib.hid r3
     have R2 := Lib.hid r2
     have hl := Lib.hid (shWs_len xs 64)
     clear r3 r2
     go_wp2_with (first
      | (refine w64_load rfl _ rfl (w.heap.size + 1) rfl (shWs xs 64) 166 R3.out hl.out ?_)
      | (refine w64_store rfl _ _ rfl w.heap.size rfl (shWs xs 64) z64 rfl 166 R2.out hl.out rfl ?_))
     refine bodyPost_ret (results_cell_row Tryz.results123 _ _ w.heap.size 166 (wsV (shWs xs 64)) (0, 0) _ rfl (setRow_heap _ _ _ (wsV (shWs xs 64)) _ _ R2.out) Tryz.underlying166 rfl (info64 _ hl.out)) rfl ?_
     exact ⟨rfl, below_setRow HB (Nat.le_refl _) _⟩
theorem refWords_any (A : Option Addr) (n c : Nat) (xs : List UInt8) (w : World) (hr : RdB w A n c xs) : Calls Tryz.prog 123 #[.slice A n c] w (RetW w (shWords xs)) := by
 by_cases h : n = 64
 ·subst h; exact refWords_long A c xs w hr
 ·exact refWords_short A n c xs w hr h
end Go.Proofs.YtpahicfnhhhifaaGreat
namespace Go.Proofs.YtpahicfnhhhifaaGreat
set_option maxRecDepth 20000
open Go.RowKit
section
variable {P : Program} {ops : Array Oper} {Q : Exit → Act → World → Prop} {S : World → Prop}
theorem wpAnyH_dp {J : Type} (lst : J → Array Bool) (cand : J → List (Nat × J)) (mu : J → Nat) (k0 : Nat) (I : J → Act → World → Prop)
  (hB : ∀ x, cand x = [] ∨ (Region.ready .any ops (lst x) == (cand x).map (·.1) && (cand x).all (fun p => lst p.2 == (lst x).setIfInBounds p.1 true && mu p.2 + 1 == mu x)) = true)
  (hstep : ∀ x a w, I x a w → S w → ∀ p ∈ cand x, wpOp P ops Q p.1 (fun a' w' => S w' ∧ I p.2 a' w') a w)
  (hfin : ∀ x a w, cand x = [] → I x a w → S w → wpAnyH P .any ops Q S k0 (lst x) a w) (h0 : ∀ x, cand x = [] → mu x = 0) :
  ∀ (m : Nat) x a w, mu x = m → I x a w → S w → wpAnyH P .any ops Q S (k0 + m) (lst x) a w := by
 intro m
 induction m with
 | zero =>
  intro x a w hm hI hS
  by_cases hc : cand x = []
  ·exact hfin x a w hc hI hS
  ·rcases hB x with h | h
   ·exact absurd h hc
   ·obtain ⟨p, hp⟩ := List.exists_mem_of_ne_nil _ hc
    rw [Bool.and_eq_true] at h
    have h2 := List.all_eq_true.1 h.2 p hp
    simp only [Bool.and_eq_true, beq_iff_eq] at h2
    omega
 | succ m ih =>
  intro x a w hm hI hS
  have hc : cand x ≠ [] := fun h => by have := h0 x h; omega
  rcases hB x with h | h
  ·exact absurd h hc
  ·rw [Bool.and_eq_true] at h
   refine wpAnyH_all (rs := (cand x).map (·.1)) (by simpa using h.1) (by simpa using hc) (fun j hj => ?_)
   obtain ⟨p, hp, rfl⟩ := List.mem_map.1 hj
   have h2 := List.all_eq_true.1 h.2 p hp
   simp only [Bool.and_eq_true, beq_iff_eq] at h2
   refine wpOp_mono (fun a' w' hh => ⟨hh.1, ?_⟩) (hstep x a w hI hS p hp)
   rw [← h2.1]
   exact ih p.2 a' w' (by omega) hh.2 hh.1
end
theorem ex_loadP {P : Program} {o : Oper} {a : Act} {w : World} {ty : TypeId} {x : Operand} {p : Addr} {v : Value} (ho : o.op = .load ty x) (hx : a.eval x = .pointer (some p)) (hl : (loadVar ty p).run P w = .ok v w) : (execOp a.eval o).run P w = .ok (.value v) w := by
 unfold execOp
 simp only [ho, hx, Instr.loadAt, Instr.sureAddr, Sem.run_bind, Sem.run_pure, Result.andThen_ok, hl]
end Go.Proofs.YtpahicfnhhhifaaGreat
