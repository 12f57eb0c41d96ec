/-
 Proved here, for the statement JournalTells:
 Layer 12: records (the document): Make.
 A region in which what is read is steady as long as number z has not come up (a 
-/
import Derived.Test.YtpahicfnhhhifaaGreatGt25
set_option linter.unusedVariables false
set_option linter.unusedSimpArgs false
namespace Go.Proofs.YtpahicfnhhhifaaGreat
set_option maxRecDepth 20000
open Go.RowKit Go.Shelf
set_option maxHeartbeats 8000000
attribute [local go_sem] Oper.semAt_some
def RetRs12 (w : World) (R : Rc) (er : Int) (e : Ending) (w' : World) : Prop := ∃ A n c, e = .returned (.tuple #[.agg (rcV R A n c).toArray, .int .i64 er]) ∧ RdB w' A n c R.b ∧ Below w.heap.size w w'
theorem refMake12_no (P : List UInt8) (hP : P.length = 32) (g s m t : Nat) (k : Int) (cl : Nat) (A : Option Addr) (n c : Nat) (b : List UInt8) (w : World) (hr : RdB w A n c b) (hchk : rcChk k cl b.length = false) :
  Calls Tryz.prog 52 #[.agg (dgA P), .int .u32 (g : Int), .int .u32 (s : Int), .int .u32 (m : Int), .agg #[.int .u64 (t : Int), .int .i64 k, .int .u64 (cl : Int), .slice A n c]] w (RetRs12 w rcZ 2) := by
 have hn := hr.n63
 obtain ⟨V, hV⟩ : ∃ V, V = ((w.alloc (.cells (dgA P) 30)).alloc (.cells #[.int .u64 (t : Int), .int .i64 k, .int .u64 (cl : Int), .slice A n c] 49)).alloc (.cells zz3 90) := ⟨_, rfl⟩
 have bV : Below w.heap.size w V := by rw [hV]; exact (((below_self w).alloc (Nat.le_refl _) _).alloc (by simp) _).alloc (by simp; omega) _
 have q : RcAt V (w.heap.size + 2) rcZ none 0 0 := by
  have h0 := rw_at (w := (w.alloc (.cells (dgA P) 30)).alloc (.cells #[.int .u64 (t : Int), .int .i64 k, .int .u64 (cl : Int), .slice A n c] 49)) (k := w.heap.size + 2) (.cells zz3 90) (by simp)
  rw [← hV] at h0
  exact h0.trans (congrArg (fun z => some (Obj.cells z 90 (0, 0))) zeroRc)
 have hc := refCheck12_any t k cl A n c V hn
 rw [show rcChk k cl n = false by rw [← hr.2.1]; exact hchk] at hc
 have HC := Lib.hid hc
 have HV := Lib.hid hV
 have Q := Lib.hid q
 obtain ⟨DP, hDP⟩ : ∃ z, z = dgA P := ⟨_, rfl⟩
 rw [← hDP] at HV ⊢
 have HDP := Lib.hid hDP
 clear hV hc q hchk hDP
 go_enter Tryz.func52, Tryz.ntmps52
 go_wp2_with fail
 rw [← HV.out]
 refine HC.out.mono ?_
 rintro e w2 ⟨rfl, hb2⟩
 have Q2 := Lib.hid (Q.out.up hb2)
 go_wp2_with (refine rc_store rfl _ _ rfl rfl (r := rcZ) (A := none) (n := 0) (c := 0) (congrArg Value.agg zeroRc) Q2.out rcZ_ok.2.2.2.2.2.2 rcZ_ok.2.2.2.2.2.2 ?_)
 refine bodyPost_ret (rresults_row_tmp Tryz.results52 _ _ (w.heap.size + 2) 90 _ (0, 0) _ rfl (RcAt.setRow (r' := rcZ) (A' := none) (n' := 0) (c' := 0) Q2.out) Tryz.underlying90 rfl (rcInfo rcZ none 0 0 rcZ_ok.2.2.2.2.2.2)) rfl ?_
 exact ⟨none, 0, 0, rfl, RdB.nilB _, below_setRow (below_then bV hb2) (by omega) _⟩
theorem refMake12_yes (P : List UInt8) (hP : P.length = 32) (g s m t : Nat) (k : Int) (cl : Nat) (A : Option Addr) (n c : Nat) (b : List UInt8) (w : World) (hg : g < 4294967296) (hs : s < 4294967296) (hm : m < 4294967296) (ht : t < 18446744073709551616) (hk : -9223372036854775808 ≤ k ∧ k ≤ 9223372036854775807) (hcl : cl < 18446744073709551616) (hr : RdB w A n c b) (hchk : rcChk k cl b.length = true) :
  Calls Tryz.prog 52 #[.agg (dgA P), .int .u32 (g : Int), .int .u32 (s : Int), .int .u32 (m : Int), .agg #[.int .u64 (t : Int), .int .i64 k, .int .u64 (cl : Int), .slice A n c]] w (RetRs12 w (rcMk P ⟨g, s, m, t, k, cl, b, List.replicate 32 0⟩) 0) := by
 have hn := hr.n63
 have hn180 : n ≤ 180 := by have := (rcChk_len hchk).1; have := hr.2.1; omega
 obtain ⟨r0, hr0⟩ : ∃ r, r = (⟨g, s, m, t, k, cl, b, List.replicate 32 0⟩ : Rc) := ⟨_, rfl⟩
 have hok : r0.ok := by rw [hr0]; exact ⟨hg, hs, hm, ht, hk, hcl, by simp⟩
 have hck : r0.chk = true := by rw [hr0]; exact hchk
 have hb0 : r0.b = b := by rw [hr0]
 rw [← hr0]
 have hD := hok.2.2.2.2.2.2
 obtain ⟨V, hV⟩ : ∃ V, V = ((w.alloc (.cells (dgA P) 30)).alloc (.cells #[.int .u64 (t : Int), .int .i64 k, .int .u64 (cl : Int), .slice A n c] 49)).alloc (.cells zz3 90) := ⟨_, rfl⟩
 have bV : Below w.heap.size w V := by rw [hV]; exact (((below_self w).alloc (Nat.le_refl _) _).alloc (by simp) _).alloc (by simp; omega) _
 have zV : V.heap.size = w.heap.size + 3 := by rw [hV]; simp
 have qP : V.heap[w.heap.size]? = some (.cells (dgA P) 30 (0, 0)) := by rw [hV]; exact rw_old _ (rw_old _ (rw_at _ rfl))
 have qe : V.heap[w.heap.size + 1]? = some (.cells #[.int .u64 (t : Int), .int .i64 k, .int .u64 (cl : Int), .slice A n c] 49 (0, 0)) := by rw [hV]; exact rw_old _ (rw_at _ (by simp))
 have q : RcAt V (w.heap.size + 2) rcZ none 0 0 := by
  have h0 := rw_at (w := (w.alloc (.cells (dgA P) 30)).alloc (.cells #[.int .u64 (t : Int), .int .i64 k, .int .u64 (cl : Int), .slice A n c] 49)) (k := w.heap.size + 2) (.cells zz3 90) (by simp)
  rw [← hV] at h0
  exact h0.trans (congrArg (fun z => some (Obj.cells z 90 (0, 0))) zeroRc)
 have hc := refCheck12_any t k cl A n c V hn
 rw [show rcChk k cl n = true by rw [← hr.2.1]; exact hchk] at hc
 have q3V := (cell_of_row V _ 3 _ _ _ qe).trans (show (#[.int .u64 (t : Int), .int .i64 k, .int .u64 (cl : Int), .slice A n c] : Array Value)[3]? = some (.slice A n c) from rfl)
 have hl1 : w.heap.size + 1 < V.heap.size := by omega
 obtain ⟨EV, hEV⟩ : ∃ z : Array Value, z = #[.int .u64 (t : Int), .int .i64 k, .int .u64 (cl : Int), .slice A n c] := ⟨_, rfl⟩
 obtain ⟨DP, hDP⟩ : ∃ z, z = dgA P := ⟨_, rfl⟩
 obtain ⟨RV, hRV⟩ : ∃ z, z = (rcV r0 A n c).toArray := ⟨_, rfl⟩
 have kb : ∀ W : World, (Instr.build 90 #[(0, .int .u32 (g : Int)), (1, .int .u32 (s : Int)), (2, .int .u32 (m : Int)), (3, .agg EV)]).run Tryz.prog W = .ok (.agg RV) W := fun W => by rw [hRV, hr0, hEV]; exact rcBuilt g s m t k cl A n c b W
 have hsz : RV.size = 39 := by rw [hRV, List.size_toArray, rcV_len _ _ _ _ hD]
 have hez : EV.size = 4 := by rw [hEV]; rfl
 rw [← hEV] at hc hV qe ⊢
 rw [← hDP] at hV ⊢
 have qeR := qe
 rw [hV] at qeR
 have HC := Lib.hid hc
 have HV := Lib.hid hV
 have Q := Lib.hid q
 have QP := Lib.hid qP
 have QE := Lib.hid qe
 have QER := Lib.hid qeR
 have ZV := Lib.hid zV
 have HDP := Lib.hid hDP
 have HRV := Lib.hid hRV
 have HR0 := Lib.hid hr0
 have HD := Lib.hid hD
 have HOK := Lib.hid hok
 have HCK := Lib.hid hck
 have HB0 := Lib.hid hb0
 have HP := Lib.hid hP
 have HEI := Lib.hid (evInfo EV hez)
 have KB := Lib.hid kb
 clear hV hc q hchk hDP hRV hr0 qP qe qeR zV hD hok hck hb0 hP hEV hez kb
 go_enter Tryz.func52, Tryz.ntmps52
 go_wp2_with (refine wpList_load_row rfl 49 _ rfl (w.heap.size + 1) rfl 49 EV (0, 0) _ QER.out Tryz.underlying49 rfl HEI.out ?_)
 rw [← HV.out]
 refine HC.out.mono ?_
 rintro e w2 ⟨rfl, hb2⟩
 obtain ⟨Z3, hZ3⟩ : ∃ Z, Z = w2.alloc (.cells zz3 90) := ⟨_, rfl⟩
 have qz : RcAt Z3 w2.heap.size rcZ none 0 0 := by
  have h0 := rw_at (w := w2) (.cells zz3 90) rfl
  rw [← hZ3] at h0
  exact h0.trans (congrArg (fun z => some (Obj.cells z 90 (0, 0))) zeroRc)
 have bz : Below w2.heap.size w2 Z3 := by rw [hZ3]; exact (below_self _).alloc (Nat.le_refl _) _
 have qe2 := Lib.hid (rw_up QE.out hb2)
 have e3 := (hb2.cell (p := ⟨w.heap.size + 1, 3, none⟩) hl1).trans q3V
 obtain ⟨W3, hW3⟩ : ∃ W, W = Z3.setRow w2.heap.size (rcV r0 A n c).toArray := ⟨_, rfl⟩
 have b3 : Below w2.heap.size w2 W3 := by rw [hW3]; exact below_setRow bz (Nat.le_refl _) _
 have q3 : RcAt W3 w2.heap.size r0 A n c := by rw [hW3]; exact qz.setRow
 have zz := ZV.out
 have z2 := hb2.size
 have e3' : (Z3.setRow w2.heap.size (rcV r0 A n c).toArray).cell? ⟨w.heap.size + 1, 3, none⟩ = some (.slice A n c) := (cell_setRow_other Z3 w2.heap.size _ ⟨w.heap.size + 1, 3, none⟩ (by show w.heap.size + 1 ≠ w2.heap.size; omega)).trans ((bz.cell (p := ⟨w.heap.size + 1, 3, none⟩) (by show w.heap.size + 1 < _; omega)).trans e3)
 have B3 := below_then (below_then bV hb2) b3
 have HW3 := Lib.hid hW3
 have Q3 := Lib.hid q3
 have HZ3 := Lib.hid hZ3
 have QZ := Lib.hid qz
 clear hZ3 qz q3V hW3 q3
 go_wp2_with (first
  | (refine wpList_load_row rfl 49 _ rfl (w.heap.size + 1) rfl 49 EV (0, 0) _ qe2.out Tryz.underlying49 rfl HEI.out ?_)
  | (refine wpList_of_exec rfl (rex_build rfl #[(0, .int .u32 (g : Int)), (1, .int .u32 (s : Int)), (2, .int .u32 (m : Int)), (3, .agg EV)] rfl (KB.out _)) ?_)
  | (rw [← HZ3.out]; refine rc_store rfl _ _ rfl rfl (r := r0) (A := A) (n := n) (c := c) (congrArg Value.agg HRV.out) QZ.out HD.out rcZ_ok.2.2.2.2.2.2 ?_))
 rw [← HW3.out]
 clear e3 e3'
 have l2 : w2.heap.size < W3.heap.size := Q3.out.lt
 have o4 : 0 < n → ∀ a, A = some a → a.block < w.heap.size := fun h0 a e => by
  obtain ⟨b1, o1, u1, he, hlt, _⟩ := hr.at_ 0 h0
  rw [he] at e; injection e with e; subst e; exact hlt
 have r5 := hr.below B3
 have Q5 := Q3
 have b5 := b3
 have B5 := B3
 have QP5 := Lib.hid (rw_up (rw_up QP.out hb2) b3)
 have HBD := Lib.hid (rcBody_len r0 (by rw [HB0.out, hr.2.1]; omega))
 refine wp_region_last (S := fun w' => Below W3.heap.size W3 w') 5 (brw9 6 31) [(0, true), (1, true), (2, false), (3, false), (4, true)] (by kernel_rfl) (by kernel_rfl) (fun _ _ d _ _ h => by cases d <;> exact h) ((Below.refl _ W3).drew) ?_
 refine seg_take (v := .agg (dgA P)) rfl (Or.inl ⟨by rfl, fun w' hw' => ?_⟩) ?_
 focus (exact rex_load rfl rfl (run_loadVar_row w' w.heap.size _ 30 _ _ _ (rw_up QP5.out hw') Tryz.underlying30 rfl (infoD P HP.out)))
 try simp only [Act.put, pst3]
 refine seg_take (v := .agg (rcV r0 A n c).toArray) rfl (Or.inl ⟨by rfl, fun w' hw' => ?_⟩) ?_
 focus (exact rex_load rfl rfl (load_rc (Q5.out.up hw') HD.out))
 try simp only [Act.put, pst3]
 refine seg_run rfl (fun K hK => ?_)
 go_simp
 have HX := (Below.refl W3.heap.size W3).drew
 refine (refBody_any r0 A n c _ HOK.out HCK.out (by rw [HB0.out]; exact r5.below HX)).mono ?_
 rintro e_ w6 ⟨gb, nb, db, rfl, rb, hb6⟩
 obtain rfl : nb = 220 := by rw [← rb.len, HBD.out]
 have HX6 := below_then HX hb6
 refine hK.out _ _ (HX6) ?_
 clear hK
 try simp only [Act.put, pst3]
 refine seg_run rfl (fun K hK => ?_)
 go_simp
 refine (refLink_any P HP.out _ 220 db (rcBody r0) w6 rb.rd (by omega)).mono ?_
 rintro e_ w7 ⟨rfl, hb7⟩
 have HX7 := below_then HX6 hb7
 obtain ⟨D9, hD9⟩ : ∃ d, d = shLink P (rcBody r0) := ⟨_, rfl⟩
 have hD9l : D9.length = 32 := by rw [hD9]; exact shLink_len _ _
 rw [← hD9]
 have HD9 := Lib.hid hD9
 clear hD9
 refine hK.out _ _ (HX7) ?_
 clear hK
 try simp only [Act.put, pst3]
 iterate 1 (refine seg_take (v := ?_) rfl (Or.inl ⟨by rfl, ?_⟩) ?_; rotate_left; (focus (intro w' hw'; go_simp <;> with_reducible rfl)); try simp only [Act.put, pst3])
 refine seg_done ?_
 refine last_run rfl (fun K hK => ?_)
 rw [if_pos (by rfl)]
 have q7 := Q5.out.up HX7
 refine wp_store_mid 30 _ _ rfl w2.heap.size 7 (dgA D9) rfl rfl (by rw [dgA_size, hD9l]; exact q7.there HD.out) (infoD D9 hD9l) (dgA_one D9) ?_
 refine hK.out _ _ ?_
 clear hK
 try simp only [Act.put, pst3]
 have q8 : RcAt (w7.setCells w2.heap.size 7 (dgA D9).toList) w2.heap.size (rcMk P r0) A n c := by
  have := (Q5.out.up HX7).setD HD.out D9 hD9l
  unfold rcMk
  rw [← HD9.out]
  exact this
 have B8 : Below w2.heap.size w2 (w7.setCells w2.heap.size 7 (dgA D9).toList) := setCells_below (Nat.le_refl _) _ _ _ _ (b5.trans (HX7.mono (by omega)))
 obtain ⟨W8, hW8⟩ : ∃ W, W = w7.setCells w2.heap.size 7 (dgA D9).toList := ⟨_, rfl⟩
 have r8 : RdB W8 A n c b := by
  have r7 := r5.below HX7
  rw [hW8]
  refine ⟨?_, r7.2⟩
  by_cases h0 : 0 < n
  ·rcases r7.1 with h1 | ⟨bb, oo, rfl, hl, hcc⟩
   ·exact .inl h1
   ·have hne := o4 h0 _ rfl
    have hs : (w7.setCells w2.heap.size 7 (dgA D9).toList).heap.size = w7.heap.size := setCells_size _ _ _ _
    refine .inr ⟨bb, oo, rfl, by rw [hs]; exact hl, fun i v hv => ?_⟩
    rw [World.cell?_setCells_out _ _ _ _ _ (fun hb _ => absurd hb (by show bb ≠ w2.heap.size; have : bb < w.heap.size := hne; omega))]
    exact hcc i v hv
  ·left
   have := r7.2.1
   have hbz : b = [] := List.eq_nil_of_length_eq_zero (by omega)
   rw [hbz]; rfl
 rw [← hW8] at q8 B8 ⊢
 have qR8 := (B8.block (w.heap.size + 2) (by omega)).trans (rw_up Q.out hb2)
 have Q8 := Lib.hid q8
 have QR8 : Hid (RcAt W8 (w.heap.size + 2) rcZ none 0 0) := Lib.hid qR8
 have B9 := below_then (below_then bV hb2) B8
 have HMD := Lib.hid (show (rcMk P r0).D.length = 32 from shLink_len _ _)
 clear hW8 q8 qR8 hD9l
 go_wp2_with (first
  | (refine rc_load rfl _ rfl rfl Q8.out HMD.out ?_)
  | (refine rc_store rfl _ _ rfl rfl (r := rcMk P r0) (A := A) (n := n) (c := c) rfl QR8.out HMD.out rcZ_ok.2.2.2.2.2.2 ?_))
 refine bodyPost_ret (rresults_row_tmp Tryz.results52 _ _ (w.heap.size + 2) 90 _ (0, 0) _ rfl (RcAt.setRow (r' := rcMk P r0) (A' := A) (n' := n) (c' := c) QR8.out) Tryz.underlying90 rfl (rcInfo _ _ _ _ HMD.out)) rfl ?_
 refine ⟨A, n, c, rfl, ?_, below_setRow B9 (by omega) _⟩
 rw [show (rcMk P r0).b = b from HB0.out]
 exact rd_row r8 (w.heap.size + 2) _ (fun h0 a e => by have := o4 h0 a e; omega)
theorem refMake12_any (P : List UInt8) (hP : P.length = 32) (g s m t : Nat) (k : Int) (cl : Nat) (A : Option Addr) (n c : Nat) (b : List UInt8) (w : World) (hg : g < 4294967296) (hs : s < 4294967296) (hm : m < 4294967296) (ht : t < 18446744073709551616) (hk : -9223372036854775808 ≤ k ∧ k ≤ 9223372036854775807) (hcl : cl < 18446744073709551616) (hr : RdB w A n c b) :
  Calls Tryz.prog 52 #[.agg (dgA P), .int .u32 (g : Int), .int .u32 (s : Int), .int .u32 (m : Int), .agg #[.int .u64 (t : Int), .int .i64 k, .int .u64 (cl : Int), .slice A n c]] w (RetRs12 w (rcMkR P ⟨g, s, m, t, k, cl, b, List.replicate 32 0⟩) (rcMkE ⟨g, s, m, t, k, cl, b, List.replicate 32 0⟩)) := by
 unfold rcMkR rcMkE
 cases h : rcChk k cl b.length with
 | false => rw [if_neg (by unfold Rc.chk; simp [h]), if_neg (by unfold Rc.chk; simp [h])]; exact refMake12_no P hP g s m t k cl A n c b w hr h
 | true => rw [if_pos (by unfold Rc.chk; exact h), if_pos (by unfold Rc.chk; exact h)]; exact refMake12_yes P hP g s m t k cl A n c b w hg hs hm ht hk hcl hr h
end Go.Proofs.YtpahicfnhhhifaaGreat
namespace Go.Proofs.YtpahicfnhhhifaaGreat
set_option maxRecDepth 20000
open Go.RowKit
section
variable {P : Program} {ops : Array Oper} {Q : Exit → Act → World → Prop} {S : World → Prop} {md : Region.Mode} {z : Nat}
def wpAnyY (P : Program) (md : Region.Mode) (ops : Array Oper) (Q : Exit → Act → World → Prop) (S : World → Prop) (z : Nat) : Nat → Array Bool → Act → World → Prop
 | 0, listed, a, w => Region.ready md ops listed = [] ∧ Q .normal a w
 | fuel + 1, listed, a, w =>
  (Region.ready md ops listed = [] → Q .normal a w) ∧
  ∀ i ∈ Region.ready md ops listed, wpOp P ops Q i (fun a' w' => ((listed.setIfInBounds i true).getD z false = false → S w') ∧ wpAnyY P md ops Q S z fuel (listed.setIfInBounds i true) a' w') a w
theorem wpAny_of_Y : ∀ (fuel : Nat) (listed : Array Bool) (a : Act) (w : World), wpAnyY P md ops Q S z fuel listed a w → wpAny P md ops Q fuel listed a w
 | 0, _, _, _, h => h
 | fuel + 1, _, _, _, h => ⟨h.1, fun i hi => wpOp_mono (fun a' w' h' => wpAny_of_Y fuel _ a' w' h'.2) (h.2 i hi)⟩
theorem getF_set_ne {l : Array Bool} {i j : Nat} (h : i ≠ j) : (l.setIfInBounds i true).getD j false = l.getD j false := getD_set_ne false h
theorem wpAnyY_first {i : Nat} {oi oz : Oper} {v : Value} (hi : ops[i]? = some oi) (hz : ops[z]? = some oz) (hiz : i ≠ z) (N : Nat) (hwait : waitsN md ops N z i = true)
  (hsel : ∀ (j : Nat) (o : Oper) cs b, ops[j]? = some o → o.op ≠ .select cs b)
  (hQ : ∀ c a w, Q (.panic c) (a.put oi.dst v) w → Q (.panic c) a w) :
  ∀ (fuel : Nat) (listed : Array Bool) (a : Act) (w : World),
   (∀ j oj, ops[j]? = some oj → j ≠ i → listed.getD j true = false → (∀ e ∈ oj.after, Region.binds md e = true → e.on ≠ i) → oi.apart ops oj = true) →
   i ∈ Region.ready md ops listed → Closed md ops listed → YieldsX P ops S oi v a → S w →
   wpAnyY P md ops Q S z fuel (listed.setIfInBounds i true) (a.put oi.dst v) w → wpAnyY P md ops Q S z (fuel + 1) listed a w := by
 have unl : ∀ {listed : Array Bool}, i ∈ Region.ready md ops listed → listed.getD i false = false := fun {listed} hr => by
  have h0 := (mem_ready.1 hr).1
  rcases Nat.lt_or_ge i listed.size with h' | h'
  ·simp [h'] at h0 ⊢; exact h0
  ·simp [Array.getElem?_eq_none h']
 have nz : ∀ {listed : Array Bool}, i ∈ Region.ready md ops listed → Closed md ops listed → listed.getD z false = false := fun {listed} hr hcl => by
  cases hb : listed.getD z false with
  | false => rfl
  | true => exact (waitsN_no hcl (unl hr) N z hwait oz hz (hcl z oz hz hb)).elim
 intro fuel
 induction fuel with
 | zero =>
  intro listed a w _ hr hcl hy hS H
  refine ⟨fun h => (by rw [h] at hr; cases hr), fun j hj => ?_⟩
  by_cases hji : j = i
  ·subst hji; exact hy.wpOp hi hS ⟨fun _ => hS, H⟩
  ·have := ready_mono hj hji
   rw [H.1] at this
   cases this
 | succ fuel ih =>
  intro listed a w hfree hr hcl hy hS H
  refine ⟨fun h => (by rw [h] at hr; cases hr), fun j hj => ?_⟩
  by_cases hji : j = i
  ·subst hji; exact hy.wpOp hi hS ⟨fun _ => hS, H⟩
  ·have h1 := H.2 j (ready_mono hj hji)
   obtain ⟨hjun, oj, hoj, hall⟩ := mem_ready.1 hj
   have hnot : ∀ e ∈ oj.after, Region.binds md e = true → e.on ≠ i := fun e he hb heq => by
    have h1 := hall e he hb
    have h0 := (mem_ready.1 hr).1
    rw [heq] at h1
    rcases Nat.lt_or_ge i listed.size with h' | h'
    ·simp [h'] at h0 h1; rw [h0] at h1; cases h1
    ·simp [Array.getElem?_eq_none h'] at h1
   have hjz : j ≠ z := by
    rintro rfl
    exact waitsN_no hcl (unl hr) N j hwait oj hoj hall
   have hzl := nz hr hcl
   have hS2 : ((listed.setIfInBounds i true).setIfInBounds j true).getD z false = false := by rw [getF_set_ne hjz, getF_set_ne hiz]; exact hzl
   have hS3 : (listed.setIfInBounds j true).getD z false = false := by rw [getF_set_ne hjz]; exact hzl
   have h2 := wpOp_putX hoj (hfree j oj hoj hji hjun hnot) (fun cs b => hsel i oi cs b hi) (fun cs b => hsel j oj cs b hoj) hQ hy h1
   have hfree' : ∀ k ok, ops[k]? = some ok → k ≠ i → (listed.setIfInBounds j true).getD k true = false →
     (∀ e ∈ ok.after, Region.binds md e = true → e.on ≠ i) → oi.apart ops ok = true := fun k ok hk hki hun hno => by
    refine hfree k ok hk hki ?_ hno
    by_cases hjk : j = k
    ·subst hjk; exact hjun
    ·rw [getD_set_ne true hjk] at hun; exact hun
   refine wpOp_mono (fun a' w' h3 => ⟨fun _ => h3.2.1 hS2, ih (listed.setIfInBounds j true) a' w' hfree' (ready_mono hr (Ne.symm hji)) (hcl.set hj) h3.1 (h3.2.1 hS2) ?_⟩) h2
   rw [Array.setIfInBounds_comm _ _ hji]
   exact h3.2.2
def moveB (ops : Array Oper) (i : Nat) : Bool := ((ops[i]?).map (fun o => match o.op with | .move _ | .assign _ | .extract _ _ => true | _ => false)).getD false
theorem blind {o : Oper} (h : (match o.op with | .move _ | .assign _ | .extract _ _ => true | _ => false) = true) (a : Act) : (∃ v, ∀ w : World, (execOp a.eval o).run P w = .ok (.value v) w) ∨ ∃ e : Halt, ∀ w : World, (execOp a.eval o).run P w = .halt e w := by
 cases ho : o.op <;> rw [ho] at h <;> first | cases h | skip
 ·exact .inl ⟨_, fun w => by simp only [execOp, ho, Sem.run_pure]; rfl⟩
 ·exact .inl ⟨_, fun w => by simp only [execOp, ho, Sem.run_pure]; rfl⟩
 ·rename_i t ix
  simp only [execOp, ho]
  generalize a.eval t = u
  unfold Instr.extract
  split
  ·split
   ·exact .inl ⟨_, fun w => by simp [Sem.run_bind, Sem.run_pure]; rfl⟩
   ·exact .inr ⟨_, fun w => by simp [Sem.run_bind, go_sem]; rfl⟩
  ·exact .inr ⟨_, fun w => by simp [Sem.run_bind, go_sem]; rfl⟩
theorem moved {i : Nat} {o : Oper} (hi : ops[i]? = some o) (hm : moveB ops i = true) {v : Value} {a : Act} {w : World} (hS : S w) (hy : YieldsX P ops S o v a) : YieldsX P ops (fun _ => True) o v a := by
 unfold moveB at hm
 rw [hi] at hm
 simp only [Option.map_some, Option.getD_some] at hm
 rcases hy with (⟨h1, h2⟩ | h) | ⟨h1, f, args, h2⟩
 ·rcases blind (P := P) hm a with ⟨v', hv⟩ | ⟨e, he⟩
  ·have := h2 w hS
   rw [hv w] at this
   injection this with this
   injection this with this
   subst this
   exact .inl (.inl ⟨h1, fun w' _ => hv w'⟩)
  ·have := h2 w hS
   rw [he w] at this
   cases this
 ·exact .inl (.inr h)
 ·exfalso
  have := (h2 w hS).1
  rcases blind (P := P) hm a with ⟨v', hv⟩ | ⟨e, he⟩
  ·rw [hv w] at this
   injection this with this
   cases this
  ·rw [he w] at this
   cases this
theorem wpAnyY_firstT {i : Nat} {oi : Oper} {v : Value} (hi : ops[i]? = some oi) (hiz : i ≠ z)
  (hsel : ∀ (j : Nat) (o : Oper) cs b, ops[j]? = some o → o.op ≠ .select cs b)
  (hQ : ∀ c a w, Q (.panic c) (a.put oi.dst v) w → Q (.panic c) a w) :
  ∀ (fuel : Nat) (listed : Array Bool) (a : Act) (w : World),
   (∀ j oj, ops[j]? = some oj → j ≠ i → listed.getD j true = false → (∀ e ∈ oj.after, Region.binds md e = true → e.on ≠ i) → oi.apart ops oj = true) →
   i ∈ Region.ready md ops listed → YieldsX P ops (fun _ => True) oi v a → (listed.getD z false = false → S w) →
   wpAnyY P md ops Q S z fuel (listed.setIfInBounds i true) (a.put oi.dst v) w → wpAnyY P md ops Q S z (fuel + 1) listed a w := by
 intro fuel
 induction fuel with
 | zero =>
  intro listed a w _ hr hy hS H
  refine ⟨fun h => (by rw [h] at hr; cases hr), fun j hj => ?_⟩
  by_cases hji : j = i
  ·subst hji; exact hy.wpOp hi trivial ⟨fun h => hS (by rw [getF_set_ne hiz] at h; exact h), H⟩
  ·have := ready_mono hj hji
   rw [H.1] at this
   cases this
 | succ fuel ih =>
  intro listed a w hfree hr hy hS H
  refine ⟨fun h => (by rw [h] at hr; cases hr), fun j hj => ?_⟩
  by_cases hji : j = i
  ·subst hji; exact hy.wpOp hi trivial ⟨fun h => hS (by rw [getF_set_ne hiz] at h; exact h), H⟩
  ·have h1 := H.2 j (ready_mono hj hji)
   obtain ⟨hjun, oj, hoj, hall⟩ := mem_ready.1 hj
   have hnot : ∀ e ∈ oj.after, Region.binds md e = true → e.on ≠ i := fun e he hb heq => by
    have h1 := hall e he hb
    have h0 := (mem_ready.1 hr).1
    rw [heq] at h1
    rcases Nat.lt_or_ge i listed.size with h' | h'
    ·simp [h'] at h0 h1; rw [h0] at h1; cases h1
    ·simp [Array.getElem?_eq_none h'] at h1
   have e1 : ((listed.setIfInBounds i true).setIfInBounds j true).getD z false = (listed.setIfInBounds j true).getD z false := by rw [Array.setIfInBounds_comm _ _ (Ne.symm hji), getF_set_ne hiz]
   have h2 := wpOp_putX hoj (hfree j oj hoj hji hjun hnot) (fun cs b => hsel i oi cs b hi) (fun cs b => hsel j oj cs b hoj) hQ hy h1
   have hfree' : ∀ k ok, ops[k]? = some ok → k ≠ i → (listed.setIfInBounds j true).getD k true = false →
     (∀ e ∈ ok.after, Region.binds md e = true → e.on ≠ i) → oi.apart ops ok = true := fun k ok hk hki hun hno => by
    refine hfree k ok hk hki ?_ hno
    by_cases hjk : j = k
    ·subst hjk; exact hjun
    ·rw [getD_set_ne true hjk] at hun; exact hun
   refine wpOp_mono (fun a' w' h3 => ⟨fun h => h3.2.1 (e1.trans h), ih (listed.setIfInBounds j true) a' w' hfree' (ready_mono hr (Ne.symm hji)) h3.1 (fun h => h3.2.1 (e1.trans h)) ?_⟩) h2
   rw [Array.setIfInBounds_comm _ _ hji]
   exact h3.2.2
def waitsY (ops : Array Oper) (z : Nat) (plan : List (Nat × Bool)) : Bool :=
 plan.all fun p => p.1 != z && (!p.2 || (waitsN .any ops 12 z p.1 || moveB ops p.1))
def closedB (ops : Array Oper) (l : Array Bool) : Bool := (List.range ops.size).all fun k => !(l.getD k false) || ((ops[k]?).map (fun o => o.after.all fun e => !(Region.binds .any e) || l.getD e.on false)).getD true
theorem closed_of {l : Array Bool} (h : closedB ops l = true) : Closed .any ops l := by
 intro k ok hk hl e he hb
 have hk' : k < ops.size := (Array.getElem?_eq_some_iff.1 hk).1
 have h1 := List.all_eq_true.1 h k (List.mem_range.2 hk')
 rw [hl, hk] at h1
 simp only [Bool.not_true, Bool.false_or, Option.map_some, Option.getD_some] at h1
 have h2 := Array.all_eq_true_iff_forall_mem.1 h1 e he
 rw [hb] at h2
 simpa using h2
theorem wpAnyY_seg (hs : Region.noSelect ops = true) (hQ : ∀ c (a : Act) (d : Option Tmp) (v : Value) w, Q (.panic c) (a.put d v) w → Q (.panic c) a w) (f : Nat) (l' : Array Bool) :
  ∀ (plan : List (Nat × Bool)) (l : Array Bool) (a : Act) (w : World), (planL ops plan l == some l' && waitsY ops z plan) = true → Closed .any ops l → S w →
   wpPlanC P ops S Q (fun a w => S w → wpAnyY P .any ops Q S z f l' a w) plan a w → wpAnyY P .any ops Q S z (f + plan.length) l a w := by
 intro plan
 induction plan with
 | nil =>
  intro l a w hB _ hS h
  rw [Bool.and_eq_true] at hB
  have : l = l' := by simpa [planL] using hB.1
  subst this
  exact h hS
 | cons p rest ih =>
  obtain ⟨i, b⟩ := p
  intro l a w hB hcl hS h
  rw [List.length_cons, ← Nat.add_assoc]
  rw [Bool.and_eq_true] at hB
  obtain ⟨hB, hW⟩ := hB
  simp only [waitsY, List.all_cons, Bool.and_eq_true] at hW
  have hW2 : waitsY ops z rest = true := by simpa only [waitsY] using hW.2
  cases b with
  | true =>
   by_cases hc : (Region.free .any ops l i && (Region.ready .any ops l).contains i) = true
   ·have hB' : (planL ops rest (l.setIfInBounds i true) == some l') = true := by simpa only [planL, if_pos hc] using hB
    rw [Bool.and_eq_true] at hc
    obtain ⟨o, v, ho, hy, hr⟩ := h
    have hiz : i ≠ z := by simpa using hW.1.1
    have hw := hW.1.2
    simp only [Bool.not_true, Bool.false_or, Bool.or_eq_true] at hw
    have hrd : i ∈ Region.ready .any ops l := by simpa using hc.2
    rcases hw with hw | hw
    case inr => exact wpAnyY_firstT ho hiz (Region.noSelect_spec hs) (fun c a w => hQ c a _ _ w) _ _ _ _ (Region.free_spec ho hc.1) hrd (moved ho hw hS hy) (fun _ => hS) (ih _ _ _ (by rw [hB', hW2]; rfl) (hcl.set hrd) hS hr)
    cases hoz : ops[z]? with
    | none => rw [waitsN, hoz] at hw; simp at hw
    | some oz =>
     exact wpAnyY_first ho hoz hiz 12 hw (Region.noSelect_spec hs) (fun c a w => hQ c a _ _ w) _ _ _ _ (Region.free_spec ho hc.1) hrd hcl hy hS (ih _ _ _ (by rw [hB', hW2]; rfl) (hcl.set hrd) hS hr)
   ·simp only [planL, if_neg hc] at hB
    exact absurd hB (by simp)
  | false =>
   by_cases hc : (Region.ready .any ops l == [i]) = true
   ·have hB' : (planL ops rest (l.setIfInBounds i true) == some l') = true := by simpa only [planL, if_pos hc] using hB
    have hr : Region.ready .any ops l = [i] := by simpa using hc
    refine ⟨fun h0 => absurd (hr ▸ h0) (by simp), fun j hj => ?_⟩
    rw [hr] at hj
    obtain rfl : j = i := by simpa using hj
    exact wpOp_mono (fun a' w' h' => ⟨fun _ => h'.1, ih _ _ _ (by rw [hB', hW2]; rfl) (hcl.set (by rw [hr]; simp)) h'.1 h'.2⟩) h
   ·simp only [planL, if_neg hc] at hB
    exact absurd hB (by simp)
theorem wpAnyY_seg' (hs : Region.noSelect ops = true) (hQ : ∀ c (a : Act) (d : Option Tmp) (v : Value) w, Q (.panic c) (a.put d v) w → Q (.panic c) a w) (f : Nat) (l' : Array Bool)
  (plan : List (Nat × Bool)) (l : Array Bool) (a : Act) (w : World) (hB : (planL ops plan l == some l' && waitsY ops z plan) = true) (hC : closedB ops l = true) (hS : S w)
   (h : wpPlanC P ops S Q (fun a w => S w → wpAnyY P .any ops Q S z f l' a w) plan a w) : wpAnyY P .any ops Q S z (f + plan.length) l a w := wpAnyY_seg hs hQ f l' plan l a w hB (closed_of hC) hS h
theorem wpAnyY_alt {rs : List Nat} {f : Nat} {l : Array Bool} {a : Act} {w : World} (hr : (Region.ready .any ops l == rs) = true) (hne : rs ≠ []) (h : ∀ i ∈ rs, wpOp P ops Q i (fun a' w' => S w' ∧ wpAnyY P .any ops Q S z f (l.setIfInBounds i true) a' w') a w) : wpAnyY P .any ops Q S z (f + 1) l a w := by
 have hr' : Region.ready .any ops l = rs := by simpa using hr
 exact ⟨fun h0 => absurd (hr' ▸ h0) hne, fun i hi => wpOp_mono (fun a' w' h' => ⟨fun _ => h'.1, h'.2⟩) (h i (hr' ▸ hi))⟩
theorem wpAnyY_two {i j f : Nat} {l : Array Bool} {a : Act} {w : World} (hr : (Region.ready .any ops l == [i, j]) = true)
  (hi : wpOp P ops Q i (fun a' w' => S w' ∧ wpAnyY P .any ops Q S z f (l.setIfInBounds i true) a' w') a w)
  (hj : wpOp P ops Q j (fun a' w' => S w' ∧ wpAnyY P .any ops Q S z f (l.setIfInBounds j true) a' w') a w) : wpAnyY P .any ops Q S z (f + 1) l a w :=
 wpAnyY_alt hr (by simp) (fun k hk => by
  simp only [List.mem_cons, List.not_mem_nil, or_false] at hk
  rcases hk with rfl | rfl
  ·exact hi
  ·exact hj)
theorem wpAnyY_free : ∀ (f : Nat) (l : Array Bool) (a : Act) (w : World), l.getD z false = true → wpAnyH P .any ops Q (fun _ => True) f l a w → wpAnyY P .any ops Q S z f l a w
 | 0, _, _, _, _, h => h
 | f + 1, l, a, w, hz, h => ⟨h.1, fun i hi => wpOp_mono (fun a' w' h' => by
   have e : (l.setIfInBounds i true).getD z false = true := getD_set_true hz
   exact ⟨fun h0 => (by rw [e] at h0; cases h0), wpAnyY_free f _ a' w' e h'.2⟩) (h.2 i hi)⟩
theorem wpAnyY_gate {f : Nat} {l : Array Bool} {a : Act} {w : World} (hr : (Region.ready .any ops l == [z] && (l.setIfInBounds z true).getD z false) = true)
  (h : wpOp P ops Q z (fun a' w' => True ∧ wpAnyH P .any ops Q (fun _ => True) f (l.setIfInBounds z true) a' w') a w) : wpAnyY P .any ops Q S z (f + 1) l a w := by
 rw [Bool.and_eq_true] at hr
 have hr' : Region.ready .any ops l = [z] := by simpa using hr.1
 refine ⟨fun h0 => absurd (hr' ▸ h0) (by simp), fun i hi => ?_⟩
 rw [hr'] at hi
 obtain rfl : i = z := by simpa using hi
 exact wpOp_mono (fun a' w' h' => ⟨fun h0 => (by rw [hr.2] at h0; cases h0), wpAnyY_free f _ a' w' hr.2 h'.2⟩) h
theorem wp_region_segY {id : Nat} {a : Act} {w : World} (z : Nat) (f : Nat) (l' : Array Bool) (plan : List (Nat × Bool)) (hm : P.follows .mixedOrders = true)
  (hB : (Region.noSelect ops && (f + plan.length == ops.size) && (planL ops plan (Array.replicate ops.size false) == some l') && waitsY ops z plan) = true)
  (hQ : ∀ c (a : Act) (d : Option Tmp) (v : Value) w, Q (.panic c) (a.put d v) w → Q (.panic c) a w) (hS : S w.drew)
  (h : wpPlanC P ops S Q (fun a w => S w → wpAnyY P .any ops Q S z f l' a w) plan a w.drew) : (Code.region id ops true).wp P Q a w := by
 simp only [Bool.and_eq_true] at hB
 obtain ⟨⟨⟨h1, h2⟩, h3⟩, h4⟩ := hB
 have := wpAnyY_seg (S := S) (z := z) h1 hQ f l' plan _ a w.drew (by rw [h3, h4]; rfl) (fun k ok _ hl => by simp [Array.getD] at hl) hS h
 rw [beq_iff_eq.1 h2] at this
 exact wp_region_any hm (wpAny_of_Y _ _ _ _ this)
end
end Go.Proofs.YtpahicfnhhhifaaGreat
