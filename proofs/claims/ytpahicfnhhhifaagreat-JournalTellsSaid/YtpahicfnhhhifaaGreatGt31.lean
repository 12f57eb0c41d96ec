/-
 Proved here, for the statement JournalTells:
 Layer 14: the law JournalTells (printed by genjrl.py).
-/
import Derived.Test.YtpahicfnhhhifaaGreatGt30
set_option linter.unusedVariables false
set_option linter.unusedSimpArgs false
namespace Go.Proofs.YtpahicfnhhhifaaGreat
set_option maxRecDepth 20000
open Go.RowKit
set_option maxHeartbeats 8000000
def Pw (w X : World) (j : Nat) : Prop := w.heap.size ≤ j ∧ j < X.heap.size
theorem jz_new (W : World) : JmAt (W.alloc (.cells Tryz.zeroCells36 36)) W.heap.size jmZ := by rw [jmZ_zero]; exact jm_new _ rfl
theorem rdws_one {X : World} {g : Nat} {a : Int} {A : Option Addr} {n c : Nat} {ys : List UInt8} {T : TypeId} (q : X.heap[g]? = some (.cells #[.int .i64 a, .slice A n c] T (0, 0))) (hr : RdB X A n c ys) (ha : -9223372036854775808 ≤ a ∧ a ≤ 9223372036854775807) : RdWs X (some ⟨g, 0, none⟩) 1 1 [.int .i64 a, .slice A n c] [(a, ys)] :=
 ⟨.inr ⟨g, 0, rfl, drw_lt q, fun i v hv => by rw [cell_of_row X g (0 + i) _ _ _ q]; simpa using hv⟩, rfl, Nat.le_refl _, by simp [maxLen], rfl, ha, ⟨A, n, c, rfl, hr⟩, trivial⟩
def RetA4 (P : Nat → Prop) (w : World) (Ja : Jn) (xa : Int) (xb : List UInt8) (fb ob : Bool) (e : Ending) (w' : World) : Prop := ∃ m A n c, e = .returned (.tuple #[.agg (jmV m).toArray, .agg #[.int .i64 xa, .slice A n c], .bool fb, .bool ob]) ∧ JIn P w' m Ja ∧ BIn P w' A n c xb ∧ (-9223372036854775808 ≤ xa ∧ xa ≤ 9223372036854775807) ∧ Below w.heap.size w w'
structure TS (w : World) (m : Jm) (ec : Array Value) (ga gb : Nat) (ma mb : Jm) (X : World) : Prop where
 j : JmAt X w.heap.size m
 e : X.heap[w.heap.size + 1]? = some (.cells ec 49 (0, 0))
 a : JmAt X ga ma
 b : JmAt X gb mb
 za : ma.z
 zb : mb.z
 bx : Below w.heap.size w X
 n : w.heap.size + 2 ≤ ga ∧ w.heap.size + 2 ≤ gb ∧ ga ≠ gb
section
variable {w X Y : World} {m ma mb m1 : Jm} {ec : Array Value} {ga gb : Nat}
theorem TS.up (s : TS w m ec ga gb ma mb X) (h : Below X.heap.size X Y) : TS w m ec ga gb ma mb Y := ⟨s.j.up h, drw_up s.e h, s.a.up h, s.b.up h, s.za, s.zb, below_then s.bx h, s.n⟩
theorem TS.setA (s : TS w m ec ga gb ma mb X) (q : JmAt Y ga m1) (z : m1.z) (n : ∀ j, j < X.heap.size → j ≠ ga → Y.heap[j]? = X.heap[j]?) (h : Below w.heap.size X Y) : TS w m ec ga gb m1 mb Y :=
 ⟨(n _ s.j.lt (by have := s.n; omega)).trans s.j, (n _ (drw_lt s.e) (by have := s.n; omega)).trans s.e, q, (n _ s.b.lt (fun e => s.n.2.2 e.symm)).trans s.b, z, s.zb, s.bx.trans h, s.n⟩
theorem TS.setB (s : TS w m ec ga gb ma mb X) (q : JmAt Y gb m1) (z : m1.z) (n : ∀ j, j < X.heap.size → j ≠ gb → Y.heap[j]? = X.heap[j]?) (h : Below w.heap.size X Y) : TS w m ec ga gb ma m1 Y :=
 ⟨(n _ s.j.lt (by have := s.n; omega)).trans s.j, (n _ (drw_lt s.e) (by have := s.n; omega)).trans s.e, (n _ s.a.lt (fun e => s.n.2.2 e)).trans s.a, q, s.za, z, s.bx.trans h, s.n⟩
theorem TS.pA (s : TS w m ec ga gb ma mb X) : Pw w X ga := ⟨by have := s.n; omega, s.a.lt⟩
theorem TS.pB (s : TS w m ec ga gb ma mb X) : Pw w X gb := ⟨by have := s.n; omega, s.b.lt⟩
end
theorem agr_ch {P : Nat → Prop} {W X : World} {g : Nat} (hz : W.heap.size ≤ X.heap.size) (hg : P g) (h : ∀ j, j < W.heap.size → j ≠ g → X.heap[j]? = W.heap[j]?) : AgrP P W X := ⟨hz, fun j hj hn => h j hj (fun e => hn (e ▸ hg))⟩
set_option maxRecDepth 100000 in
theorem jrnTells_law (m : Jm) (J : Jn) (sum t : Nat) (k : Int) (c : Nat) (A : Option Addr) (n cp : Nat) (b : List UInt8) (S : Option Addr) (sn sc : Nat) (st : List UInt8) (slot room : Int) (well : Bool) (w : World) (hj : JIn (fun _ => False) w m J) (hsum : sum < 4294967296) (ht : t < 18446744073709551616) (hk : -9223372036854775808 ≤ k ∧ k ≤ 9223372036854775807) (hc : c < 18446744073709551616) (hr : RdB w A n cp b) (hs : RdB w S sn sc st) (hslot : -9223372036854775808 ≤ slot ∧ slot ≤ 9223372036854775807) (hroom : -9223372036854775808 ≤ room ∧ room ≤ 9223372036854775807) :
  Calls Tryz.prog 4 #[.agg (jmV m).toArray, .int .u32 (sum : Int), .agg #[.int .u64 (t : Int), .int .i64 k, .int .u64 (c : Int), .slice A n cp], .slice S sn sc, .int .i64 slot, .int .i64 room, .bool well] w (RetV w (.bool true)) := by
 obtain ⟨V, hV⟩ : ∃ V, V = (w.alloc (.cells (jmV m).toArray 36)).alloc (.cells #[.int .u64 (t : Int), .int .i64 k, .int .u64 (c : Int), .slice A n cp] 49) := ⟨_, rfl⟩
 have bV : Below w.heap.size w V := by rw [hV]; exact ((below_self w).alloc (Nat.le_refl _) _).alloc (by simp) _
 have zV : V.heap.size = w.heap.size + 2 := by rw [hV]; simp
 have QJ : Hid (JmAt V w.heap.size m) := Lib.hid (by rw [hV]; exact drw_old _ (drw_at _ rfl))
 have QE : Hid (V.heap[w.heap.size + 1]? = some (.cells #[.int .u64 (t : Int), .int .i64 k, .int .u64 (c : Int), .slice A n cp] 49 (0, 0))) := Lib.hid (by rw [hV]; exact drw_at _ (by simp))
 have ZM := Lib.hid hj.z
 have hn63 := hr.n63
 have hs63 := hs.n63
 have hjx : ∀ X, Below w.heap.size w X → JIn (Pw w X) X m J := fun X hb => hj.more hb (fun j hj => .inr hj.1)
 have HC := Lib.hid (fun X (hb : Below w.heap.size w X) => refFew14_any (Pw w X) m J X (hjx X hb))
 have CA1 := Lib.hid (fun X (hb : Below w.heap.size w X) => jrnApp_any (Pw w X) m J sum t k c A n cp b X (hjx X hb) (fun j hj => hj.2) (hr.below hb) hsum ht hk hc)
 have CA2 := Lib.hid (fun X (hb : Below w.heap.size w X) => refApp14_any (Pw w X) m J sum t k c A n cp b X (hjx X hb) (fun j hj => hj.2) (hr.below hb) hsum ht hk hc)
 obtain ⟨J1, hJ1⟩ : ∃ q, jnApp J sum t k c b = q := ⟨jnApp J sum t k c b, rfl⟩
 obtain ⟨E1, hE1⟩ : ∃ q, jnAppE J k c b.length = q := ⟨jnAppE J k c b.length, rfl⟩
 rw [hJ1, hE1] at CA1 CA2
 have CK1 := Lib.hid (fun X (hb : Below w.heap.size w X) => jrnAsk_any (Pw w X) m J X (hjx X hb) (fun j hj => hj.2))
 have CK2 := Lib.hid (fun X (hb : Below w.heap.size w X) => refAsk14_any (Pw w X) m J X (hjx X hb) (fun j hj => hj.2))
 obtain ⟨R, hR⟩ : ∃ q, jnAsk J = q := ⟨jnAsk J, rfl⟩
 rw [hR] at CK1 CK2
 obtain ⟨J2, ⟨xa, xb⟩, fb, ob⟩ := R
 have CB1 : Hid (∀ X, Below w.heap.size w X → Calls Tryz.prog 17 #[.agg (jmV m).toArray] X (RetA4 (Pw w X) X J2 xa xb fb ob)) := CK1
 have CB2 : Hid (∀ X, Below w.heap.size w X → Calls Tryz.prog 18 #[.agg (jmV m).toArray] X (RetA4 (Pw w X) X J2 xa xb fb ob)) := CK2
 have CC1 := Lib.hid (fun X (hb : Below w.heap.size w X) => jrnCame_any (Pw w X) m J well X (hjx X hb) (fun j hj => hj.2))
 have CC2 := Lib.hid (fun X (hb : Below w.heap.size w X) => refCame14_any (Pw w X) m J well X (hjx X hb) (fun j hj => hj.2))
 obtain ⟨J3, hJ3⟩ : ∃ q, jnCame J well = q := ⟨jnCame J well, rfl⟩
 obtain ⟨E3, hE3⟩ : ∃ q, jnCameE J = q := ⟨jnCameE J, rfl⟩
 rw [hJ3, hE3] at CC1 CC2
 have CD1 := Lib.hid (fun X (hb : Below w.heap.size w X) => jrnSave_any (Pw w X) m J S sn sc st X (hjx X hb) (fun j hj => hj.2) (hs.below hb))
 have CD2 := Lib.hid (fun X (hb : Below w.heap.size w X) => refSave14_any (Pw w X) m J S sn sc st X (hjx X hb) (fun j hj => hj.2) (hs.below hb))
 obtain ⟨J4, hJ4⟩ : ∃ q, jnSave J st = q := ⟨jnSave J st, rfl⟩
 obtain ⟨E4, hE4⟩ : ∃ q, jnSaveE J st = q := ⟨jnSaveE J st, rfl⟩
 rw [hJ4, hE4] at CD1 CD2
 have CE1 := Lib.hid (fun X (hb : Below w.heap.size w X) => jrnBegin_any (Pw w X) sum slot room m.ch X hsum hslot hroom hj.z.1)
 have CE2 := Lib.hid (fun X (hb : Below w.heap.size w X) => refBegin14_any (Pw w X) sum slot room m.ch X hsum hslot hroom hj.z.1)
 obtain ⟨J5, hJ5⟩ : ∃ q, jnBegin sum slot m.ch room = q := ⟨jnBegin sum slot m.ch room, rfl⟩
 obtain ⟨E5, hE5⟩ : ∃ q, jnBeginE slot room = q := ⟨jnBeginE slot room, rfl⟩
 rw [hJ5, hE5] at CE1 CE2
 have CF1 := Lib.hid (fun X (hb : Below w.heap.size w X) => jrnCheck_any (Pw w X) m J X (hjx X hb))
 have CF2 := Lib.hid (fun X (hb : Below w.heap.size w X) => refCheck14_any (Pw w X) m J X (hjx X hb))
 obtain ⟨QC, hQC⟩ : ∃ q, jnChk J = q := ⟨jnChk J, rfl⟩
 rw [hQC] at CF1 CF2
 have CG1 := Lib.hid (fun (hl : sn ≤ 999000) X (hb : Below w.heap.size w X) => jrnBase_any S sn sc st X (hs.below hb) hl)
 have CG2 := Lib.hid (fun (hl : sn ≤ 999000) X (hb : Below w.heap.size w X) => refBase14_any S sn sc st X (hs.below hb) hl)
 obtain ⟨DB, hDB⟩ : ∃ q, jnBase st = q := ⟨jnBase st, rfl⟩
 rw [hDB] at CG1 CG2
 have hDBl : DB.length = 32 := by rw [← hDB]; exact jnBase_len _
 have KD := Lib.hid (fun W : World => (show (Op.equalIn 10000 30 (.agg (dgA DB)) (.agg (dgA DB))).run Tryz.prog W = .ok true W from (run_eqIn_digest 9996 W DB DB hDBl hDBl).trans (by rw [decide_eq_true rfl])))
 have HV := Lib.hid hV
 have BV := Lib.hid bV
 have ZV := Lib.hid zV
 clear hV bV zV hj hsum ht hk hc hr hs hslot hroom hjx hJ1 hE1 hR hJ3 hE3 hJ4 hE4 hJ5 hE5 hQC hDB CK1 CK2 hDBl
 go_enter Tryz.func4, Tryz.ntmps4
 go_wp2_with (rw [← HV.out]; refine jm_load ZM.out rfl _ rfl rfl QJ.out ?_)
 refine (HC.out V BV.out).mono ?_
 rintro e w1 ⟨B, rfl, b1⟩
 have QJ1 := Lib.hid (QJ.out.up b1)
 have QE1 := Lib.hid (drw_up QE.out b1)
 have B1 := Lib.hid (below_then BV.out b1)
 have L1 : Hid (w.heap.size + 2 ≤ w1.heap.size) := Lib.hid (by have := b1.size; have := ZV.out; omega)
 have y3 := (cell_of_row w1 _ 3 _ _ _ QE1.out).trans rfl
 clear b1
 cases B with
 | false =>
  go_wp2_with fail
  refine (heads14 _).mono ?_
  rintro e w2 ⟨rfl, b2⟩
  go_wp2_with fail
  go_ret
  exact ⟨rfl, below_then B1.out b2⟩
 | true =>
 by_cases hn : 400 < n
 ·have d1 : decide ((400 : Int) < (n : Int)) = true := decide_eq_true (by omega)
  go_wp2_with fail
  refine (heads14 _).mono ?_
  rintro e w2 ⟨rfl, b2⟩
  go_wp2_with fail
  go_ret
  exact ⟨rfl, below_then B1.out b2⟩
 have d1 : decide ((400 : Int) < (n : Int)) = false := decide_eq_false (by omega)
 by_cases hL : 13000 < sn
 ·have d2 : decide ((13000 : Int) < (sn : Int)) = true := decide_eq_true (by omega)
  go_wp2_with fail
  refine (heads14 _).mono ?_
  rintro e w2 ⟨rfl, b2⟩
  go_wp2_with fail
  go_ret
  exact ⟨rfl, below_then B1.out b2⟩
 have d2 : decide ((13000 : Int) < (sn : Int)) = false := decide_eq_false (by omega)
 have HLS := Lib.hid (show sn ≤ 999000 by omega)
 clear hn hL
 have y0 := (cell_of_row w1 _ 0 _ _ _ QE1.out).trans rfl
 have y1 := (cell_of_row w1 _ 1 _ _ _ QE1.out).trans rfl
 have y2 := (cell_of_row w1 _ 2 _ _ _ QE1.out).trans rfl
 go_wp2_with (refine jm_load ZM.out rfl _ rfl rfl QJ1.out ?_)
 refine (CA1.out w1 B1.out).mono ?_
 rintro e W2 ⟨ma, rfl, ja, b2⟩
 have JA2 := Lib.hid ja
 have ZA := Lib.hid ja.z
 have QJ2 := Lib.hid (QJ1.out.up b2)
 have QE2 := Lib.hid (drw_up QE1.out b2)
 have B2 := Lib.hid (below_then B1.out b2)
 have L2 : Hid (w.heap.size + 2 ≤ W2.heap.size) := Lib.hid (by have := b2.size; have := L1.out; omega)
 clear y0 y1 y2 y3 ja b2 d1 d2
 go_wp2_with (first
  | (refine jm_store (m := ma) (m' := jmZ) ZA.out jmZ_z rfl _ _ rfl rfl rfl (jz_new W2) ?_; intro X2 z2 q2 s2 n2; have b3 : Hid (Below W2.heap.size W2 X2) := Lib.hid (((below_self W2).alloc (Nat.le_refl _) _).trans (s2 _ (Nat.le_refl _))); have QA3 := Lib.hid q2; have JA3 := Lib.hid (JA2.out.below b3.out); have QJ3 := Lib.hid (QJ2.out.up b3.out); have QE3 := Lib.hid (drw_up QE2.out b3.out); have B3 := Lib.hid (below_then B2.out b3.out); have y0 := (cell_of_row X2 _ 0 _ _ _ QE3.out).trans rfl; have y1 := (cell_of_row X2 _ 1 _ _ _ QE3.out).trans rfl; have y2 := (cell_of_row X2 _ 2 _ _ _ QE3.out).trans rfl; have y3 := (cell_of_row X2 _ 3 _ _ _ QE3.out).trans rfl; have SZ3 : Hid (X2.heap.size = W2.heap.size + 1) := Lib.hid (by rw [z2]; simp); clear q2 z2 s2 n2)
  | (refine jm_load ZM.out rfl _ rfl rfl QJ3.out ?_))
 refine (CA2.out X2 B3.out).mono ?_
 rintro e W4 ⟨mb, rfl, jb, b4⟩
 have JB4 := Lib.hid jb
 have ZB := Lib.hid jb.z
 have JA4 := Lib.hid (JA3.out.below b4)
 have QJ4 := Lib.hid (QJ3.out.up b4)
 have QE4 := Lib.hid (drw_up QE3.out b4)
 have QA4 := Lib.hid (QA3.out.up b4)
 have B4 := Lib.hid (below_then B3.out b4)
 have L4 : Hid (w.heap.size + 2 ≤ W2.heap.size ∧ W2.heap.size + 1 ≤ W4.heap.size) := Lib.hid (by have := b4.size; have := L2.out; have := SZ3.out; omega)
 clear y0 y1 y2 y3 jb b4
 go_wp2_with (first
  | (refine jm_store (m := mb) (m' := jmZ) ZB.out jmZ_z rfl _ _ rfl rfl rfl (jz_new W4) ?_; intro X4 z4 q4 s4 n4; have b5 : Hid (Below W4.heap.size W4 X4) := Lib.hid (((below_self W4).alloc (Nat.le_refl _) _).trans (s4 _ (Nat.le_refl _))); have T5 : Hid (TS w m #[.int .u64 (t : Int), .int .i64 k, .int .u64 (c : Int), .slice A n cp] W2.heap.size W4.heap.size ma mb X4) := Lib.hid ⟨QJ4.out.up b5.out, drw_up QE4.out b5.out, QA4.out.up b5.out, q4, ZA.out, ZB.out, below_then B4.out b5.out, by have := L4.out; omega⟩; have JA5 := Lib.hid (JA4.out.below b5.out); have JB5 := Lib.hid (JB4.out.below b5.out); clear q4 z4 s4 n4)
  | (refine jm_load T5.out.za rfl _ rfl rfl T5.out.a ?_)
  | (refine jm_load T5.out.zb rfl _ rfl rfl T5.out.b ?_))
 refine (refSame14_self _ _ ma mb J1 X4 JA5.out JB5.out).mono ?_
 rintro e Y0 ⟨rfl, b6⟩
 have T0 := Lib.hid (T5.out.up b6)
 clear b6
 go_wp2_with (refine jm_load ZM.out rfl _ rfl rfl T0.out.j ?_)
 refine (CB1.out Y0 T0.out.bx).mono ?_
 rintro e U1 ⟨ma1, A1, n1, c1, rfl, ja, ra, hxa, ba⟩
 have Ta1 := Lib.hid (T0.out.up ba)
 have JA1 := Lib.hid ja
 have RA1 := Lib.hid ra
 have HXA := Lib.hid hxa
 have ZA1 := Lib.hid ja.z
 clear ja ra ba hxa
 go_wp2_with (first
  | (refine jm_store (m := ma1) ZA1.out Ta1.out.za rfl _ _ rfl rfl rfl (Ta1.out.a.up ((below_self U1).alloc (Nat.le_refl _) _)) ?_; intro Xa za qa sa na; have z0 : Hid (JbZ Xa U1.heap.size) := Lib.hid ((na _ (by have := Ta1.out.a.lt; omega)).trans (drw_at _ rfl)); have QAa := Lib.hid qa; have SAa := Lib.hid sa; have NAa := Lib.hid na; have ZAa := Lib.hid za; clear qa sa na za)
  | (refine jb_store rfl _ _ rfl rfl xa A1 n1 c1 rfl z0.out ?_; intro Xa1 zc qc sc nc; have NA1 : Hid (∀ j, j < U1.heap.size → j ≠ W2.heap.size → Xa1.heap[j]? = U1.heap[j]?) := Lib.hid (fun j hj hne => (nc j (by omega)).trans ((NAa.out j hne).trans (((below_self U1).alloc (Nat.le_refl _) _).block j hj))); have SZ1 : Hid (Xa1.heap.size = U1.heap.size + 1) := Lib.hid (by rw [zc, ZAa.out]; simp); have Tb1 := Lib.hid (Ta1.out.setA ((nc _ (by have := Ta1.out.a.lt; omega)).trans QAa.out) ZA1.out NA1.out (((((below_self U1).alloc (Nat.le_refl _) _).mono Ta1.out.bx.size).trans (SAa.out _ (by have := Ta1.out.n; omega))).trans (sc _ Ta1.out.bx.size))); have AG1 : Hid (AgrP (Pw w Y0) U1 Xa1) := Lib.hid (agr_ch (by have := SZ1.out; omega) T0.out.pA NA1.out); have JAb1 := Lib.hid (JA1.out.agr AG1.out); have RAb1 := Lib.hid (RA1.out.agr AG1.out); have QX1 := Lib.hid qc; clear zc qc sc nc)
  | (refine jm_load ZM.out rfl _ rfl rfl Tb1.out.j ?_))
 refine (CB2.out Xa1 Tb1.out.bx).mono ?_
 rintro e Z1 ⟨mb1, A2, n2, c2, rfl, jb, rb, hxb, bb⟩
 have Tc1 := Lib.hid (Tb1.out.up bb)
 have JB1 := Lib.hid jb
 have RB1 := Lib.hid rb
 have ZB1 := Lib.hid jb.z
 have JAc1 := Lib.hid (JAb1.out.below bb)
 have RAc1 := Lib.hid (RAb1.out.below bb)
 have QXc := Lib.hid (drw_up QX1.out bb)
 have NEQ : Hid (U1.heap.size < Z1.heap.size ∧ U1.heap.size ≠ W4.heap.size) := Lib.hid (by have := bb.size; have := SZ1.out; have := Ta1.out.b.lt; omega)
 clear jb rb bb hxb
 go_wp2_with (first
  | (refine jm_store (m := mb1) ZB1.out Tc1.out.zb rfl _ _ rfl rfl rfl (Tc1.out.b.up ((below_self Z1).alloc (Nat.le_refl _) _)) ?_; intro Xb za qa sa na; have z0 : Hid (JbZ Xb Z1.heap.size) := Lib.hid ((na _ (by have := Tc1.out.b.lt; omega)).trans (drw_at _ rfl)); have QBa := Lib.hid qa; have SBa := Lib.hid sa; have NBa := Lib.hid na; have ZBa := Lib.hid za; clear qa sa na za)
  | (refine jb_store rfl _ _ rfl rfl xa A2 n2 c2 rfl z0.out ?_; intro Xb1 zc qc sc nc; have NB1 : Hid (∀ j, j < Z1.heap.size → j ≠ W4.heap.size → Xb1.heap[j]? = Z1.heap[j]?) := Lib.hid (fun j hj hne => (nc j (by omega)).trans ((NBa.out j hne).trans (((below_self Z1).alloc (Nat.le_refl _) _).block j hj))); have SZ2 : Hid (Xb1.heap.size = Z1.heap.size + 1) := Lib.hid (by rw [zc, ZBa.out]; simp); have Td1 := Lib.hid (Tc1.out.setB ((nc _ (by have := Tc1.out.b.lt; omega)).trans QBa.out) ZB1.out NB1.out (((((below_self Z1).alloc (Nat.le_refl _) _).mono Tc1.out.bx.size).trans (SBa.out _ (by have := Tc1.out.n; omega))).trans (sc _ Tc1.out.bx.size))); have AG2 : Hid (AgrP (Pw w Y0) Z1 Xb1) := Lib.hid (agr_ch (by have := SZ2.out; omega) T0.out.pB NB1.out); have AG3 : Hid (AgrP (Pw w Xa1) Z1 Xb1) := Lib.hid (agr_ch (by have := SZ2.out; omega) Tb1.out.pB NB1.out); have JAd1 := Lib.hid (JAc1.out.agr AG2.out); have RAd1 := Lib.hid (RAc1.out.agr AG2.out); have JBd1 := Lib.hid (JB1.out.agr AG3.out); have RBd1 := Lib.hid (RB1.out.agr AG3.out); have QX2 := Lib.hid qc; have QXd := Lib.hid ((NB1.out _ NEQ.out.1 NEQ.out.2).trans QXc.out); clear zc qc sc nc)
  | (refine jm_load Td1.out.za rfl _ rfl rfl Td1.out.a ?_)
  | (refine jm_load Td1.out.zb rfl _ rfl rfl Td1.out.b ?_))
 refine (refSame14_self _ _ ma1 mb1 J2 Xb1 JAd1.out JBd1.out).mono ?_
 rintro e Y9 ⟨rfl, b6⟩
 have T9 := Lib.hid (Td1.out.up b6)
 have QX8 := Lib.hid (drw_up QXd.out b6)
 have QX9 := Lib.hid (drw_up QX2.out b6)
 have RA9 := Lib.hid (RAd1.out.below b6)
 have RB9 := Lib.hid (RBd1.out.below b6)
 have u0 := (cell_of_row Y9 _ 0 _ _ _ QX8.out).trans rfl
 have u1 := (cell_of_row Y9 _ 1 _ _ _ QX8.out).trans rfl
 have v0 := (cell_of_row Y9 _ 0 _ _ _ QX9.out).trans rfl
 have v1 := (cell_of_row Y9 _ 1 _ _ _ QX9.out).trans rfl
 have lu := drw_lt QX8.out
 have lv := drw_lt QX9.out
 obtain ⟨W9, hW9⟩ : ∃ W, W = (Y9.alloc (.cells #[.int .i64 xa, .slice A1 n1 c1] 60)).alloc (.cells #[.int .i64 xa, .slice A2 n2 c2] 60) := ⟨_, rfl⟩
 have b9 : Below Y9.heap.size Y9 W9 := by rw [hW9]; exact ((below_self Y9).alloc (Nat.le_refl _) _).alloc (by simp) _
 have g1 : W9.heap[Y9.heap.size]? = some (.cells #[.int .i64 xa, .slice A1 n1 c1] 60 (0, 0)) := by rw [hW9]; exact drw_old _ (drw_at _ rfl)
 have g2 : W9.heap[Y9.heap.size + 1]? = some (.cells #[.int .i64 xa, .slice A2 n2 c2] 60 (0, 0)) := by rw [hW9]; exact drw_at _ (by simp)
 have CW := Lib.hid (refWorks14_self (some ⟨Y9.heap.size, 0, none⟩) 1 1 _ (some ⟨Y9.heap.size + 1, 0, none⟩) 1 1 _ [(xa, xb)] W9 (rdws_one g1 (RA9.out.below b9).now HXA.out) (rdws_one g2 (RB9.out.below b9).now HXA.out))
 have HW9 := Lib.hid hW9
 have B9 := Lib.hid b9
 clear hW9 b9 g1 g2 b6
 go_wp2_with (rw [← HW9.out])
 try rw [← HW9.out]
 refine CW.out.mono ?_
 rintro e Y1 ⟨rfl, b7⟩
 have T1 := Lib.hid ((T9.out.up B9.out).up b7)
 clear b7 u0 u1 v0 v1 lu lv
 go_wp2_with (refine jm_load ZM.out rfl _ rfl rfl T1.out.j ?_)
 refine (CC1.out Y1 T1.out.bx).mono ?_
 rintro e U2 ⟨ma2, rfl, ja, ba⟩
 have Ta2 := Lib.hid (T1.out.up ba)
 have JA2 := Lib.hid ja
 have ZA2 := Lib.hid ja.z
 clear ja ba
 go_wp2_with (first
  | (refine jm_store (m := ma2) ZA2.out Ta2.out.za rfl _ _ rfl rfl rfl Ta2.out.a ?_; intro Xa2 za qa sa na; have Tb2 := Lib.hid (Ta2.out.setA qa ZA2.out (fun j _ h => na j h) (sa _ (by have := Ta2.out.n; omega))); have JAb2 := Lib.hid (JA2.out.agr ((AgrP.refl _ U2).one T1.out.pA za na)); clear za qa sa na)
  | (refine jm_load ZM.out rfl _ rfl rfl Tb2.out.j ?_))
 refine (CC2.out Xa2 Tb2.out.bx).mono ?_
 rintro e Z2 ⟨mb2, rfl, jb, bb⟩
 have Tc2 := Lib.hid (Tb2.out.up bb)
 have JB2 := Lib.hid jb
 have ZB2 := Lib.hid jb.z
 have JAc2 := Lib.hid (JAb2.out.below bb)
 clear jb bb
 go_wp2_with (first
  | (refine jm_store (m := mb2) ZB2.out Tc2.out.zb rfl _ _ rfl rfl rfl Tc2.out.b ?_; intro Xb2 zb qb sb nb; have Td2 := Lib.hid (Tc2.out.setB qb ZB2.out (fun j _ h => nb j h) (sb _ (by have := Tc2.out.n; omega))); have JAd2 := Lib.hid (JAc2.out.agr ((AgrP.refl _ Z2).one T1.out.pB zb nb)); have JBd2 := Lib.hid (JB2.out.agr ((AgrP.refl _ Z2).one Tb2.out.pB zb nb)); clear zb qb sb nb)
  | (refine jm_load Td2.out.za rfl _ rfl rfl Td2.out.a ?_)
  | (refine jm_load Td2.out.zb rfl _ rfl rfl Td2.out.b ?_))
 refine (refSame14_self _ _ ma2 mb2 J3 Xb2 JAd2.out JBd2.out).mono ?_
 rintro e Y2 ⟨rfl, b6⟩
 have T2 := Lib.hid (Td2.out.up b6)
 clear b6
 go_wp2_with (refine jm_load ZM.out rfl _ rfl rfl T2.out.j ?_)
 refine (CD1.out Y2 T2.out.bx).mono ?_
 rintro e U3 ⟨ma3, rfl, ja, ba⟩
 have Ta3 := Lib.hid (T2.out.up ba)
 have JA3 := Lib.hid ja
 have ZA3 := Lib.hid ja.z
 clear ja ba
 go_wp2_with (first
  | (refine jm_store (m := ma3) ZA3.out Ta3.out.za rfl _ _ rfl rfl rfl Ta3.out.a ?_; intro Xa3 za qa sa na; have Tb3 := Lib.hid (Ta3.out.setA qa ZA3.out (fun j _ h => na j h) (sa _ (by have := Ta3.out.n; omega))); have JAb3 := Lib.hid (JA3.out.agr ((AgrP.refl _ U3).one T2.out.pA za na)); clear za qa sa na)
  | (refine jm_load ZM.out rfl _ rfl rfl Tb3.out.j ?_))
 refine (CD2.out Xa3 Tb3.out.bx).mono ?_
 rintro e Z3 ⟨mb3, rfl, jb, bb⟩
 have Tc3 := Lib.hid (Tb3.out.up bb)
 have JB3 := Lib.hid jb
 have ZB3 := Lib.hid jb.z
 have JAc3 := Lib.hid (JAb3.out.below bb)
 clear jb bb
 go_wp2_with (first
  | (refine jm_store (m := mb3) ZB3.out Tc3.out.zb rfl _ _ rfl rfl rfl Tc3.out.b ?_; intro Xb3 zb qb sb nb; have Td3 := Lib.hid (Tc3.out.setB qb ZB3.out (fun j _ h => nb j h) (sb _ (by have := Tc3.out.n; omega))); have JAd3 := Lib.hid (JAc3.out.agr ((AgrP.refl _ Z3).one T2.out.pB zb nb)); have JBd3 := Lib.hid (JB3.out.agr ((AgrP.refl _ Z3).one Tb3.out.pB zb nb)); clear zb qb sb nb)
  | (refine jm_load Td3.out.za rfl _ rfl rfl Td3.out.a ?_)
  | (refine jm_load Td3.out.zb rfl _ rfl rfl Td3.out.b ?_))
 refine (refSame14_self _ _ ma3 mb3 J4 Xb3 JAd3.out JBd3.out).mono ?_
 rintro e Y3 ⟨rfl, b6⟩
 have T3 := Lib.hid (Td3.out.up b6)
 clear b6
 go_wp2_with (refine jm_dig ZM.out rfl _ rfl rfl T3.out.j ?_)
 refine (CE1.out Y3 T3.out.bx).mono ?_
 rintro e U4 ⟨ma4, rfl, ja, ba⟩
 have Ta4 := Lib.hid (T3.out.up ba)
 have JA4' := Lib.hid ja
 have ZA4 := Lib.hid ja.z
 clear ja ba
 go_wp2_with (first
  | (refine jm_store (m := ma4) ZA4.out Ta4.out.za rfl _ _ rfl rfl rfl Ta4.out.a ?_; intro Xa4 za qa sa na; have Tb4 := Lib.hid (Ta4.out.setA qa ZA4.out (fun j _ h => na j h) (sa _ (by have := Ta4.out.n; omega))); have JAb4 := Lib.hid (JA4'.out.agr ((AgrP.refl _ U4).one T3.out.pA za na)); clear za qa sa na)
  | (refine jm_dig ZM.out rfl _ rfl rfl Tb4.out.j ?_))
 refine (CE2.out Xa4 Tb4.out.bx).mono ?_
 rintro e Z4 ⟨mb4, rfl, jb, bb⟩
 have Tc4 := Lib.hid (Tb4.out.up bb)
 have JB4' := Lib.hid jb
 have ZB4 := Lib.hid jb.z
 have JAc4 := Lib.hid (JAb4.out.below bb)
 clear jb bb
 go_wp2_with (refine jm_store (m := mb4) ZB4.out Tc4.out.zb rfl _ _ rfl rfl rfl Tc4.out.b ?_; intro Xb4 zb qb sb nb; have Td4 := Lib.hid (Tc4.out.setB qb ZB4.out (fun j _ h => nb j h) (sb _ (by have := Tc4.out.n; omega))); have JAd4 := Lib.hid (JAc4.out.agr ((AgrP.refl _ Z4).one T3.out.pB zb nb)); have JBd4 := Lib.hid (JB4'.out.agr ((AgrP.refl _ Z4).one Tb4.out.pB zb nb)); clear zb qb sb nb)
 refine wp_region_seg (S := fun w' => Below Xb4.heap.size Xb4 w') 0 (brw9 26 67108863) [(0, true), (1, true), (2, false), (3, true), (4, true), (5, true), (6, true), (7, true), (8, true), (9, true), (11, true), (10, false), (12, false), (13, true), (14, true), (15, true), (16, true), (18, true), (17, false), (19, false), (20, true), (21, true), (22, true), (23, false), (24, true), (25, true)] (by kernel_rfl) (by kernel_rfl) (fun _ _ d _ _ h => by first | (cases d <;> exact h) | cases h.1) ((Below.refl Xb4.heap.size Xb4).drew) ?_
 have HB := (Below.refl Xb4.heap.size Xb4).drew
 refine seg_take (v := .agg (jmV ma4).toArray) rfl (Or.inl ⟨by rfl, fun w' hw' => ?_⟩) ?_
 focus (exact rex_load rfl rfl (jm_run (Td4.out.a.up hw') Td4.out.za))
 try simp only [Act.put, pst3]
 refine seg_take (v := .agg (jmV mb4).toArray) rfl (Or.inl ⟨by rfl, fun w' hw' => ?_⟩) ?_
 focus (exact rex_load rfl rfl (jm_run (Td4.out.b.up hw') Td4.out.zb))
 try simp only [Act.put, pst3]
 refine seg_run rfl (fun K hK => ?_)
 go_simp
 refine (refSame14_self _ _ ma4 mb4 J5 _ (JAd4.out.below HB) (JBd4.out.below HB)).mono ?_
 rintro e_ wA ⟨rfl, hbA⟩
 have HB := below_then HB hbA
 refine hK.out _ _ (HB) ?_
 clear hK
 try simp only [Act.put, pst3]
 iterate 1 (refine seg_take (v := ?_) rfl (Or.inl ⟨by rfl, ?_⟩) ?_; rotate_left; (focus (intro w' hw'; go_simp <;> with_reducible rfl)); try simp only [Act.put, pst3])
 iterate 3 ((first | refine seg_take (v := undef) rfl (Or.inr ⟨by rfl, rfl⟩) ?_ | (refine seg_take (v := ?_) rfl (Or.inl ⟨by rfl, ?_⟩) ?_; rotate_left; (focus (intro w' hw'; go_simp <;> with_reducible rfl)))); try simp only [Act.put, pst3])
 iterate 2 (refine seg_take (v := ?_) rfl (Or.inl ⟨by rfl, ?_⟩) ?_; rotate_left; (focus (intro w' hw'; go_simp <;> with_reducible rfl)); try simp only [Act.put, pst3])
 refine seg_take (v := .agg (jmV m).toArray) rfl (Or.inl ⟨by rfl, fun w' hw' => ?_⟩) ?_
 focus (exact rex_load rfl rfl (jm_run (Td4.out.j.up hw') ZM.out))
 try simp only [Act.put, pst3]
 refine seg_take (v := .agg (jmV m).toArray) rfl (Or.inl ⟨by rfl, fun w' hw' => ?_⟩) ?_
 focus (exact rex_load rfl rfl (jm_run (Td4.out.j.up hw') ZM.out))
 try simp only [Act.put, pst3]
 refine seg_run rfl (fun K hK => ?_)
 go_simp
 refine (CF1.out _ (below_then Td4.out.bx HB)).mono ?_
 rintro e_ wC ⟨rfl, hbC⟩
 have HB := below_then HB hbC
 refine hK.out _ _ (HB) ?_
 clear hK
 try simp only [Act.put, pst3]
 refine seg_run rfl (fun K hK => ?_)
 go_simp
 refine (CF2.out _ (below_then Td4.out.bx HB)).mono ?_
 rintro e_ wD ⟨rfl, hbD⟩
 have HB := below_then HB hbD
 refine hK.out _ _ (HB) ?_
 clear hK
 try simp only [Act.put, pst3]
 iterate 1 ((first | refine seg_take (v := undef) rfl (Or.inr ⟨by rfl, rfl⟩) ?_ | (refine seg_take (v := ?_) rfl (Or.inl ⟨by rfl, ?_⟩) ?_; rotate_left; (focus (intro w' hw'; go_simp <;> with_reducible rfl)))); try simp only [Act.put, pst3])
 iterate 2 (refine seg_take (v := ?_) rfl (Or.inl ⟨by rfl, ?_⟩) ?_; rotate_left; (focus (intro w' hw'; go_simp <;> with_reducible rfl)); try simp only [Act.put, pst3])
 iterate 2 ((first | refine seg_take (v := undef) rfl (Or.inr ⟨by rfl, rfl⟩) ?_ | (refine seg_take (v := ?_) rfl (Or.inl ⟨by rfl, ?_⟩) ?_; rotate_left; (focus (intro w' hw'; go_simp <;> with_reducible rfl)))); try simp only [Act.put, pst3])
 refine seg_run rfl (fun K hK => ?_)
 go_simp
 refine (CG1.out HLS.out _ (below_then Td4.out.bx HB)).mono ?_
 rintro e_ wE ⟨rfl, hbE⟩
 have HB := below_then HB hbE
 refine hK.out _ _ (HB) ?_
 clear hK
 try simp only [Act.put, pst3]
 refine seg_run rfl (fun K hK => ?_)
 go_simp
 refine (CG2.out HLS.out _ (below_then Td4.out.bx HB)).mono ?_
 rintro e_ wF ⟨rfl, hbF⟩
 have HB := below_then HB hbF
 refine hK.out _ _ (HB) ?_
 clear hK
 try simp only [Act.put, pst3]
 refine seg_take (v := .bool true) rfl (Or.inl ⟨by rfl, fun w' hw' => ?_⟩) ?_
 focus ((have jj := KD.out w'; go_simp))
 try simp only [Act.put, pst3]
 iterate 2 (refine seg_take (v := ?_) rfl (Or.inl ⟨by rfl, ?_⟩) ?_; rotate_left; (focus (intro w' hw'; go_simp <;> with_reducible rfl)); try simp only [Act.put, pst3])
 refine seg_run rfl (fun K hK => ?_)
 go_simp
 refine (heads14 _).mono ?_
 rintro e_ wG ⟨rfl, hbG⟩
 have HB := below_then HB hbG
 refine hK.out _ _ (HB) ?_
 clear hK
 try simp only [Act.put, pst3]
 iterate 2 (refine seg_take (v := ?_) rfl (Or.inl ⟨by rfl, ?_⟩) ?_; rotate_left; (focus (intro w' hw'; go_simp <;> with_reducible rfl)); try simp only [Act.put, pst3])
 refine seg_done (fun _ => ?_)
 refine wpAnyH_done (by kernel_rfl) ?_ _
 go_wp2_with fail
 go_ret
 exact ⟨rfl, below_then Td4.out.bx HB⟩
end Go.Proofs.YtpahicfnhhhifaaGreat
