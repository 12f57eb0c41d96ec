/-
 Proved here, for the statement JournalTells:
 Layer 12: records: Make.
 Layer 12: records: what reads a sector.
-/
import Derived.Test.YtpahicfnhhhifaaGreatGt10
import Derived.Test.YtpahicfnhhhifaaGreatGt12
set_option linter.unusedVariables false
set_option linter.unusedSimpArgs false
namespace Go.Proofs.YtpahicfnhhhifaaGreat
set_option maxRecDepth 20000
open Go.RowKit
set_option maxHeartbeats 4000000
def RetRc (w : World) (R : Rc) (er : Int) (e : Ending) (w' : World) : Prop := ∃ A n c, e = .returned (.tuple #[.agg (rcV R A n c).toArray, .int .i64 er]) ∧ RdB w' A n c R.b ∧ (0 < n → ∀ a, A = some a → w.heap.size ≤ a.block) ∧ Below w.heap.size w w'
set_option maxRecDepth 100000 in
theorem zeroRc : (#[.int .u32 0, .int .u32 0, .int .u32 0, .int .u64 0, .int .i64 0, .int .u64 0, .slice none 0 0, .int .u8 0, .int .u8 0, .int .u8 0, .int .u8 0, .int .u8 0, .int .u8 0, .int .u8 0, .int .u8 0, .int .u8 0, .int .u8 0, .int .u8 0, .int .u8 0, .int .u8 0, .int .u8 0, .int .u8 0, .int .u8 0, .int .u8 0, .int .u8 0, .int .u8 0, .int .u8 0, .int .u8 0, .int .u8 0, .int .u8 0, .int .u8 0, .int .u8 0, .int .u8 0, .int .u8 0, .int .u8 0, .int .u8 0, .int .u8 0, .int .u8 0, .int .u8 0] : Array Value) = (rcV rcZ none 0 0).toArray := by rfl
def putL : List Value → Nat → List Value → List Value
 | cs, _, [] => cs
 | cs, o, v :: r => putL (cs.set o v) (o + 1) r
theorem putL_at (vs : List Value) : ∀ a b : List Value, b.length = vs.length → putL (a ++ b) a.length vs = a ++ vs := by
 induction vs with
 | nil => intro a b h; have : b = [] := List.eq_nil_of_length_eq_zero h; subst this; simp [putL]
 | cons v r ih =>
  intro a b h
  obtain ⟨b0, b', rfl⟩ : ∃ b0 b', b = b0 :: b' := by cases b with
   | nil => simp at h
   | cons x y => exact ⟨x, y, rfl⟩
  unfold putL
  rw [List.set_append_right _ _ (Nat.le_refl _), Nat.sub_self, List.set_cons_zero]
  have := ih (a ++ [v]) b' (by simpa using h)
  simpa using this
theorem setCells_row {g : Nat} {T : TypeId} : ∀ (vs : List Value) (o : Nat) (w : World) (cs : List Value), w.heap[g]? = some (.cells cs.toArray T (0, 0)) → (w.setCells g o vs).heap[g]? = some (.cells (putL cs o vs).toArray T (0, 0))
 | [], _, _, _, h => h
 | v :: r, o, w, cs, h => by
  rw [World.setCells]
  refine setCells_row r (o + 1) _ (cs.set o v) ?_
  have := setc_rowT (i := o) (v := v) h
  rwa [List.setIfInBounds_toArray] at this
theorem setCells_below {g B : Nat} (hB : B ≤ g) : ∀ (vs : List Value) (o : Nat) (w0 w : World), Below B w0 w → Below B w0 (w.setCells g o vs)
 | [], _, _, _, h => h
 | v :: r, o, w0, w, h => by
  rw [World.setCells]
  exact setCells_below hB r (o + 1) w0 _ (h.setCell (p := ⟨g, o, none⟩) hB v)
theorem setCells_size (g : Nat) : ∀ (vs : List Value) (o : Nat) (w : World), (w.setCells g o vs).heap.size = w.heap.size
 | [], _, _ => rfl
 | v :: r, o, w => by rw [World.setCells, setCells_size g r (o + 1)]; simp [World.setCell]
theorem RcAt.there {w : World} {h : Nat} {r : Rc} {A : Option Addr} {n c : Nat} (q : RcAt w h r A n c) (hD : r.D.length = 32) : w.there h 7 32 := fun j hj => by
 refine ⟨?_, q.fr _⟩
 rw [cell_of_row w h (7 + j) _ _ _ q, List.getElem?_toArray, List.getElem?_eq_getElem (by rw [rcV_len _ _ _ _ hD]; omega)]
 rfl
theorem RcAt.setD {w : World} {h : Nat} {r : Rc} {A : Option Addr} {n c : Nat} (q : RcAt w h r A n c) (hD : r.D.length = 32) (E : List UInt8) (hE : E.length = 32) : RcAt (w.setCells h 7 (E.map vB)) h { r with D := E } A n c := by
 have := setCells_row (E.map vB) 7 w (rcV r A n c) q
 have e : putL (rcV r A n c) 7 (E.map vB) = rcV { r with D := E } A n c := putL_at (E.map vB) [.int .u32 (r.g : Int), .int .u32 (r.s : Int), .int .u32 (r.m : Int), .int .u64 (r.t : Int), .int .i64 r.k, .int .u64 (r.c : Int), .slice A n c] (r.D.map vB) (by simp [hD, hE])
 rw [e] at this
 exact this
theorem RcAt.setB {w : World} {h : Nat} {r : Rc} {A A' : Option Addr} {n c n' c' : Nat} (q : RcAt w h r A n c) (b : List UInt8) : RcAt (w.setCell ⟨h, 6, none⟩ (.slice A' n' c')) h { r with b := b } A' n' c' := (setc_rowT q).trans rfl
theorem rresults_row_tmp {P : Program} {fn : Func} {p q : Tmp} {ty : TypeId} (h : fn.results = #[.cell p ty, .tmp q]) (tmps : Array Value) (w : World) (g : Nat) (t : TypeId) (cs : Array Value) (fr : Nat × Nat) (d : TypeDesc)
  (hp : tmps.getD p undef = .pointer (some ⟨g, 0, none⟩)) (hg : w.heap[g]? = some (.cells cs t fr))
  (hu : P.underlying ty = some d) (hd : (match d with | .struct _ | .array _ _ => true | _ => false) = true) (hi : (P.info? ty).map (·.size) = some cs.size) :
  (results fn tmps).run P w = .ok (.tuple #[.agg cs, tmps.getD q undef]) w := by
 have hp' : tmps[p]?.getD undef = .pointer (some ⟨g, 0, none⟩) := by simpa using hp
 simp [results, h, hp', asAddr, run_loadVar_row w g t ty cs fr d hg hu hd hi]
section
variable {ops : Array Oper} {rest : List Oper} {o : Oper} {a : Act} {w : World} {Q : Exit → Act → World → Prop} {h : Nat} {r : Rc} {A : Option Addr} {n c : Nat}
theorem rc_load (hgd : o.guard = none) (x : Operand) (ho : o.op = .load 90 x) (hx : a.eval x = .pointer (some ⟨h, 0, none⟩)) (q : RcAt w h r A n c) (hD : r.D.length = 32)
  (hK : wpList Tryz.prog ops Q rest (a.put o.dst (.agg (rcV r A n c).toArray)) w) : wpList Tryz.prog ops Q (o :: rest) a w :=
 wpList_load_row hgd 90 x ho h hx 90 _ (0, 0) _ q Tryz.underlying90 rfl (rcInfo r A n c hD) hK
theorem rc_store (hgd : o.guard = none) (x z : Operand) (ho : o.op = .store 90 x z) (hx : a.eval x = .pointer (some ⟨h, 0, none⟩)) {r' : Rc} {A' : Option Addr} {n' c' : Nat} (hz : a.eval z = .agg (rcV r A n c).toArray) (q : RcAt w h r' A' n' c') (hD : r.D.length = 32) (hD' : r'.D.length = 32)
  (hK : wpList Tryz.prog ops Q rest (a.put o.dst undef) (w.setRow h (rcV r A n c).toArray)) : wpList Tryz.prog ops Q (o :: rest) a w :=
 wpList_store_row hgd 90 x z ho h _ hx hz 90 _ q (rcInfo r A n c hD) (by rw [List.size_toArray, List.size_toArray, rcV_len _ _ _ _ hD, rcV_len _ _ _ _ hD']) (all_oneCell_toArray (rcV_one r A n c)) hK
end
theorem RcAt.setRow {w : World} {h : Nat} {r r' : Rc} {A A' : Option Addr} {n c n' c' : Nat} (q : RcAt w h r A n c) : RcAt (w.setRow h (rcV r' A' n' c').toArray) h r' A' n' c' := setRow_heap w h _ _ _ _ q
theorem recMake_no (P : List UInt8) (hP : P.length = 32) (g s m t : Nat) (k : Int) (cl : Nat) (A : Option Addr) (n c : Nat) (b : List UInt8) (w : World) (hr : RdB w A n c b) (hchk : rcChk k cl b.length = false) :
  Calls Tryz.prog 49 #[.agg (dgA P), .int .u32 (g : Int), .int .u32 (s : Int), .int .u32 (m : Int), .agg #[.int .u64 (t : Int), .int .i64 k, .int .u64 (cl : Int), .slice A n c]] w (RetRc w rcZ 2) := by
 have hn := hr.n63
 obtain ⟨V, hV⟩ : ∃ V, V = ((w.alloc (.cells (dgA P) 30)).alloc (.cells #[.int .u64 (t : Int), .int .i64 k, .int .u64 (cl : Int), .slice A n c] 49)).alloc (.cells zz3 90) := ⟨_, rfl⟩
 have bV : Below w.heap.size w V := by rw [hV]; exact (((below_self w).alloc (Nat.le_refl _) _).alloc (by simp) _).alloc (by simp; omega) _
 have q : RcAt V (w.heap.size + 2) rcZ none 0 0 := by
  have h0 := rw_at (w := (w.alloc (.cells (dgA P) 30)).alloc (.cells #[.int .u64 (t : Int), .int .i64 k, .int .u64 (cl : Int), .slice A n c] 49)) (k := w.heap.size + 2) (.cells zz3 90) (by simp)
  rw [← hV] at h0
  exact h0.trans (congrArg (fun z => some (Obj.cells z 90 (0, 0))) zeroRc)
 have hc := recCheck_any t k cl A n c V hn
 rw [show rcChk k cl n = false by rw [← hr.2.1]; exact hchk] at hc
 have HC := Lib.hid hc
 have HV := Lib.hid hV
 have Q := Lib.hid q
 obtain ⟨DP, hDP⟩ : ∃ z, z = dgA P := ⟨_, rfl⟩
 rw [← hDP] at HV ⊢
 have HDP := Lib.hid hDP
 clear hV hc q hchk hDP
 go_enter Tryz.func49, Tryz.ntmps49
 go_wp2_with fail
 rw [← HV.out]
 refine HC.out.mono ?_
 rintro e w2 ⟨rfl, hb2⟩
 have Q2 := Lib.hid (Q.out.up hb2)
 go_wp2_with (refine rc_store rfl _ _ rfl rfl (r := rcZ) (A := none) (n := 0) (c := 0) (congrArg Value.agg zeroRc) Q2.out rcZ_ok.2.2.2.2.2.2 rcZ_ok.2.2.2.2.2.2 ?_)
 refine bodyPost_ret (rresults_row_tmp Tryz.results49 _ _ (w.heap.size + 2) 90 _ (0, 0) _ rfl (RcAt.setRow (r' := rcZ) (A' := none) (n' := 0) (c' := 0) Q2.out) Tryz.underlying90 rfl (rcInfo rcZ none 0 0 rcZ_ok.2.2.2.2.2.2)) rfl ?_
 exact ⟨none, 0, 0, rfl, RdB.nilB _, fun h => absurd h (Nat.lt_irrefl 0), below_setRow (below_then bV hb2) (by omega) _⟩
set_option maxRecDepth 100000 in
theorem rcBuilt (g s m t : Nat) (k : Int) (cl : Nat) (A : Option Addr) (n c : Nat) (b : List UInt8) (w : World) : (Instr.build 90 #[(0, .int .u32 (g : Int)), (1, .int .u32 (s : Int)), (2, .int .u32 (m : Int)), (3, .agg #[.int .u64 (t : Int), .int .i64 k, .int .u64 (cl : Int), .slice A n c])]).run Tryz.prog w = .ok (.agg (rcV ⟨g, s, m, t, k, cl, b, List.replicate 32 0⟩ A n c).toArray) w :=
 run_build w _ _ _ (by show Tryz.prog.built _ _ = some _; kernel_rfl)
theorem rex_build {P : Program} {o : Oper} {a : Act} {w : World} {ty : TypeId} {parts : Array (Nat × Operand)} {v : Value} (ho : o.op = .build ty parts) (vals : Array (Nat × Value)) (hv : (parts.toList.map fun p => (p.1, a.eval p.2)) = vals.toList) (hl : (Instr.build ty vals).run P w = .ok v w) : (execOp a.eval o).run P w = .ok (.value v) w := by
 have hv2 : (parts.map fun p => (p.1, a.eval p.2)) = vals := by
  rw [← Array.toList_inj, Array.toList_map]; exact hv
 subst hv2
 unfold execOp
 simp only [ho, Sem.run_bind, Sem.run_pure, Result.andThen_ok, hl]
theorem wpList_of_exec {P : Program} {ops : Array Oper} {rest : List Oper} {o : Oper} {a : Act} {w w' : World} {Q : Exit → Act → World → Prop} {v : Value} (hgd : o.guard = none) (h : (execOp a.eval o).run P w = .ok (.value v) w') (hK : wpList P ops Q rest (a.put o.dst v) w') : wpList P ops Q (o :: rest) a w :=
 wpList_plain hgd fun K hKK => by unfold Oper.wp; rw [h]; exact hKK _ _ hK
theorem evInfo (EV : Array Value) (h : EV.size = 4) : (Tryz.prog.info? 49).map (·.size) = some EV.size := by rw [h]; kernel_rfl
theorem recMake_yes (P : List UInt8) (hP : P.length = 32) (g s m t : Nat) (k : Int) (cl : Nat) (A : Option Addr) (n c : Nat) (b : List UInt8) (w : World) (hg : g < 4294967296) (hs : s < 4294967296) (hm : m < 4294967296) (ht : t < 18446744073709551616) (hk : -9223372036854775808 ≤ k ∧ k ≤ 9223372036854775807) (hcl : cl < 18446744073709551616) (hr : RdB w A n c b) (hchk : rcChk k cl b.length = true) :
  Calls Tryz.prog 49 #[.agg (dgA P), .int .u32 (g : Int), .int .u32 (s : Int), .int .u32 (m : Int), .agg #[.int .u64 (t : Int), .int .i64 k, .int .u64 (cl : Int), .slice A n c]] w (RetRc w (rcMk P ⟨g, s, m, t, k, cl, b, List.replicate 32 0⟩) 0) := by
 have hn := hr.n63
 have hn180 : n ≤ 180 := by have := (rcChk_len hchk).1; have := hr.2.1; omega
 obtain ⟨r0, hr0⟩ : ∃ r, r = (⟨g, s, m, t, k, cl, b, List.replicate 32 0⟩ : Rc) := ⟨_, rfl⟩
 have hok : r0.ok := by rw [hr0]; exact ⟨hg, hs, hm, ht, hk, hcl, by simp⟩
 have hck : r0.chk = true := by rw [hr0]; exact hchk
 have hb0 : r0.b = b := by rw [hr0]
 rw [← hr0]
 have hD := hok.2.2.2.2.2.2
 obtain ⟨V, hV⟩ : ∃ V, V = ((w.alloc (.cells (dgA P) 30)).alloc (.cells #[.int .u64 (t : Int), .int .i64 k, .int .u64 (cl : Int), .slice A n c] 49)).alloc (.cells zz3 90) := ⟨_, rfl⟩
 have bV : Below w.heap.size w V := by rw [hV]; exact (((below_self w).alloc (Nat.le_refl _) _).alloc (by simp) _).alloc (by simp; omega) _
 have zV : V.heap.size = w.heap.size + 3 := by rw [hV]; simp
 have qP : V.heap[w.heap.size]? = some (.cells (dgA P) 30 (0, 0)) := by rw [hV]; exact rw_old _ (rw_old _ (rw_at _ rfl))
 have qe : V.heap[w.heap.size + 1]? = some (.cells #[.int .u64 (t : Int), .int .i64 k, .int .u64 (cl : Int), .slice A n c] 49 (0, 0)) := by rw [hV]; exact rw_old _ (rw_at _ (by simp))
 have q : RcAt V (w.heap.size + 2) rcZ none 0 0 := by
  have h0 := rw_at (w := (w.alloc (.cells (dgA P) 30)).alloc (.cells #[.int .u64 (t : Int), .int .i64 k, .int .u64 (cl : Int), .slice A n c] 49)) (k := w.heap.size + 2) (.cells zz3 90) (by simp)
  rw [← hV] at h0
  exact h0.trans (congrArg (fun z => some (Obj.cells z 90 (0, 0))) zeroRc)
 have hc := recCheck_any t k cl A n c V hn
 rw [show rcChk k cl n = true by rw [← hr.2.1]; exact hchk] at hc
 have q3V := (cell_of_row V _ 3 _ _ _ qe).trans (show (#[.int .u64 (t : Int), .int .i64 k, .int .u64 (cl : Int), .slice A n c] : Array Value)[3]? = some (.slice A n c) from rfl)
 have hl1 : w.heap.size + 1 < V.heap.size := by omega
 obtain ⟨EV, hEV⟩ : ∃ z : Array Value, z = #[.int .u64 (t : Int), .int .i64 k, .int .u64 (cl : Int), .slice A n c] := ⟨_, rfl⟩
 obtain ⟨DP, hDP⟩ : ∃ z, z = dgA P := ⟨_, rfl⟩
 obtain ⟨RV, hRV⟩ : ∃ z, z = (rcV r0 A n c).toArray := ⟨_, rfl⟩
 have kb : ∀ W : World, (Instr.build 90 #[(0, .int .u32 (g : Int)), (1, .int .u32 (s : Int)), (2, .int .u32 (m : Int)), (3, .agg EV)]).run Tryz.prog W = .ok (.agg RV) W := fun W => by rw [hRV, hr0, hEV]; exact rcBuilt g s m t k cl A n c b W
 have hsz : RV.size = 39 := by rw [hRV, List.size_toArray, rcV_len _ _ _ _ hD]
 have hez : EV.size = 4 := by rw [hEV]; rfl
 rw [← hEV] at hc hV qe ⊢
 rw [← hDP] at hV ⊢
 have qeR := qe
 rw [hV] at qeR
 have HC := Lib.hid hc
 have HV := Lib.hid hV
 have Q := Lib.hid q
 have QP := Lib.hid qP
 have QE := Lib.hid qe
 have QER := Lib.hid qeR
 have ZV := Lib.hid zV
 have HDP := Lib.hid hDP
 have HRV := Lib.hid hRV
 have HR0 := Lib.hid hr0
 have HD := Lib.hid hD
 have HOK := Lib.hid hok
 have HCK := Lib.hid hck
 have HB0 := Lib.hid hb0
 have HP := Lib.hid hP
 have HEI := Lib.hid (evInfo EV hez)
 have KB := Lib.hid kb
 clear hV hc q hchk hDP hRV hr0 qP qe qeR zV hD hok hck hb0 hP hEV hez kb
 go_enter Tryz.func49, Tryz.ntmps49
 go_wp2_with (refine wpList_load_row rfl 49 _ rfl (w.heap.size + 1) rfl 49 EV (0, 0) _ QER.out Tryz.underlying49 rfl HEI.out ?_)
 rw [← HV.out]
 refine HC.out.mono ?_
 rintro e w2 ⟨rfl, hb2⟩
 obtain ⟨Z3, hZ3⟩ : ∃ Z, Z = w2.alloc (.cells zz3 90) := ⟨_, rfl⟩
 have qz : RcAt Z3 w2.heap.size rcZ none 0 0 := by
  have h0 := rw_at (w := w2) (.cells zz3 90) rfl
  rw [← hZ3] at h0
  exact h0.trans (congrArg (fun z => some (Obj.cells z 90 (0, 0))) zeroRc)
 have bz : Below w2.heap.size w2 Z3 := by rw [hZ3]; exact (below_self _).alloc (Nat.le_refl _) _
 have qe2 := Lib.hid (rw_up QE.out hb2)
 have e3 := (hb2.cell (p := ⟨w.heap.size + 1, 3, none⟩) hl1).trans q3V
 obtain ⟨W3, hW3⟩ : ∃ W, W = Z3.setRow w2.heap.size (rcV r0 A n c).toArray := ⟨_, rfl⟩
 have b3 : Below w2.heap.size w2 W3 := by rw [hW3]; exact below_setRow bz (Nat.le_refl _) _
 have q3 : RcAt W3 w2.heap.size r0 A n c := by rw [hW3]; exact qz.setRow
 have zz := ZV.out
 have z2 := hb2.size
 have e3' : (Z3.setRow w2.heap.size (rcV r0 A n c).toArray).cell? ⟨w.heap.size + 1, 3, none⟩ = some (.slice A n c) := (cell_setRow_other Z3 w2.heap.size _ ⟨w.heap.size + 1, 3, none⟩ (by show w.heap.size + 1 ≠ w2.heap.size; omega)).trans ((bz.cell (p := ⟨w.heap.size + 1, 3, none⟩) (by show w.heap.size + 1 < _; omega)).trans e3)
 have B3 := below_then (below_then bV hb2) b3
 have HW3 := Lib.hid hW3
 have Q3 := Lib.hid q3
 have HZ3 := Lib.hid hZ3
 have QZ := Lib.hid qz
 clear hZ3 qz q3V hW3 q3
 go_wp2_with (first
  | (refine wpList_load_row rfl 49 _ rfl (w.heap.size + 1) rfl 49 EV (0, 0) _ qe2.out Tryz.underlying49 rfl HEI.out ?_)
  | (refine wpList_of_exec rfl (rex_build rfl #[(0, .int .u32 (g : Int)), (1, .int .u32 (s : Int)), (2, .int .u32 (m : Int)), (3, .agg EV)] rfl (KB.out _)) ?_)
  | (rw [← HZ3.out]; refine rc_store rfl _ _ rfl rfl (r := r0) (A := A) (n := n) (c := c) (congrArg Value.agg HRV.out) QZ.out HD.out rcZ_ok.2.2.2.2.2.2 ?_))
 rw [← HW3.out]
 refine (clone_any A n c b W3 (hr.below B3) (by omega)).mono ?_
 rintro e w4 ⟨A4, n4, c4, rfl, ho4, hb4⟩
 have hn4 : n4 = n := by rw [← ho4.len, hr.2.1]
 subst hn4
 clear e3 e3'
 have q4 := Q3.out.up hb4
 have k6 := q4.c6
 have f6 := q4.fr 6
 have l2 : w2.heap.size < W3.heap.size := Q3.out.lt
 have z4 := hb4.size
 have o4 : 0 < n4 → ∀ a, A4 = some a → W3.heap.size ≤ a.block := fun h0 a e => by
  obtain ⟨g', he, h1, h2⟩ := ho4.addr h0
  rw [e] at he; injection he with he; subst he; exact h1
 have q5 := q4.setB (A' := A4) (n' := n4) (c' := c4) b
 rw [show ({ r0 with b := b } : Rc) = r0 by rw [HR0.out]] at q5
 have r5 := rd_far ho4.rd ⟨w2.heap.size, 6, none⟩ (.slice A4 n4 c4) (fun h0 a e => by have := o4 h0 a e; show a.block ≠ w2.heap.size; omega)
 obtain ⟨W5, hW5⟩ : ∃ W, W = w4.setCell ⟨w2.heap.size, 6, none⟩ (.slice A4 n4 c4) := ⟨_, rfl⟩
 have b5 : Below w2.heap.size w2 W5 := by rw [hW5]; exact ((b3.trans (hb4.mono (by omega))).setCell (p := ⟨w2.heap.size, 6, none⟩) (Nat.le_refl _) _)
 have z5 : W5.heap.size = w4.heap.size := by rw [hW5]; simp
 rw [← hW5] at q5 r5
 have B5 := below_then (below_then bV hb2) b5
 have HW5 := Lib.hid hW5
 have Q5 := Lib.hid q5
 clear hW5 q5 q4
 go_wp2_with fail
 rw [← HW5.out]
 clear k6 f6
 have qP5 := rw_up (rw_up QP.out hb2) b5
 have QP5 := Lib.hid qP5
 clear qP5
 refine wp_region_last (S := fun w' => Below W5.heap.size W5 w') 5 (brw9 6 31) [(0, true), (1, true), (2, false), (3, false), (4, true)] (by kernel_rfl) (by kernel_rfl) (fun _ _ d _ _ h => by cases d <;> exact h) ((Below.refl _ W5).drew) ?_
 refine seg_take (v := .agg (dgA P)) rfl (Or.inl ⟨by rfl, fun w' hw' => ?_⟩) ?_
 focus (exact rex_load rfl rfl (run_loadVar_row w' w.heap.size _ 30 _ _ _ (rw_up QP5.out hw') Tryz.underlying30 rfl (infoD P HP.out)))
 try simp only [Act.put, pst3]
 refine seg_take (v := .agg (rcV r0 A4 n4 c4).toArray) rfl (Or.inl ⟨by rfl, fun w' hw' => ?_⟩) ?_
 focus (exact rex_load rfl rfl (load_rc (Q5.out.up hw') HD.out))
 try simp only [Act.put, pst3]
 refine seg_run rfl (fun K hK => ?_)
 go_simp
 have HX := (Below.refl W5.heap.size W5).drew
 refine (recLinked_any r0 A4 n4 c4 _ HOK.out HCK.out (by rw [HB0.out]; exact r5.below HX)).mono ?_
 rintro e_ w6 ⟨gb, rfl, rb, lgb, hb6⟩
 have HX6 := below_then HX hb6
 refine hK.out _ _ (HX6) ?_
 clear hK
 try simp only [Act.put, pst3]
 refine seg_run rfl (fun K hK => ?_)
 go_simp
 refine (shaLink_any P HP.out _ 220 220 (rcBody r0) w6 rb (by omega)).mono ?_
 rintro e_ w7 ⟨rfl, hb7⟩
 have HX7 := below_then HX6 hb7
 obtain ⟨D9, hD9⟩ : ∃ d, d = shLink P (rcBody r0) := ⟨_, rfl⟩
 have hD9l : D9.length = 32 := by rw [hD9]; exact shLink_len _ _
 rw [← hD9]
 have HD9 := Lib.hid hD9
 clear hD9
 refine hK.out _ _ (HX7) ?_
 clear hK
 try simp only [Act.put, pst3]
 iterate 1 (refine seg_take (v := ?_) rfl (Or.inl ⟨by rfl, ?_⟩) ?_; rotate_left; (focus (intro w' hw'; go_simp <;> with_reducible rfl)); try simp only [Act.put, pst3])
 refine seg_done ?_
 refine last_run rfl (fun K hK => ?_)
 rw [if_pos (by rfl)]
 have q7 := Q5.out.up HX7
 refine wp_store_mid 30 _ _ rfl w2.heap.size 7 (dgA D9) rfl rfl (by rw [dgA_size, hD9l]; exact q7.there HD.out) (infoD D9 hD9l) (dgA_one D9) ?_
 refine hK.out _ _ ?_
 clear hK
 try simp only [Act.put, pst3]
 have q8 : RcAt (w7.setCells w2.heap.size 7 (dgA D9).toList) w2.heap.size (rcMk P r0) A4 n4 c4 := by
  have := (Q5.out.up HX7).setD HD.out D9 hD9l
  unfold rcMk
  rw [← HD9.out]
  exact this
 have B8 : Below w2.heap.size w2 (w7.setCells w2.heap.size 7 (dgA D9).toList) := setCells_below (Nat.le_refl _) _ _ _ _ (b5.trans (HX7.mono (by omega)))
 obtain ⟨W8, hW8⟩ : ∃ W, W = w7.setCells w2.heap.size 7 (dgA D9).toList := ⟨_, rfl⟩
 have r8 : RdB W8 A4 n4 c4 b := by
  have r7 := r5.below HX7
  rw [hW8]
  refine ⟨?_, r7.2⟩
  by_cases h0 : 0 < n4
  ·rcases r7.1 with h1 | ⟨bb, oo, rfl, hl, hcc⟩
   ·exact .inl h1
   ·have hne := o4 h0 _ rfl
    have hs : (w7.setCells w2.heap.size 7 (dgA D9).toList).heap.size = w7.heap.size := setCells_size _ _ _ _
    refine .inr ⟨bb, oo, rfl, by rw [hs]; exact hl, fun i v hv => ?_⟩
    rw [World.cell?_setCells_out _ _ _ _ _ (fun hb _ => absurd hb (by show bb ≠ w2.heap.size; have : W3.heap.size ≤ bb := hne; omega))]
    exact hcc i v hv
  ·left
   have := r7.2.1
   have hbz : b = [] := List.eq_nil_of_length_eq_zero (by omega)
   rw [hbz]; rfl
 rw [← hW8] at q8 B8 ⊢
 have qR8 := (B8.block (w.heap.size + 2) (by omega)).trans (rw_up Q.out hb2)
 have Q8 := Lib.hid q8
 have QR8 : Hid (RcAt W8 (w.heap.size + 2) rcZ none 0 0) := Lib.hid qR8
 have B9 := below_then (below_then bV hb2) B8
 have HMD := Lib.hid (show (rcMk P r0).D.length = 32 from shLink_len _ _)
 clear hW8 q8 qR8 hD9l
 go_wp2_with (first
  | (refine rc_load rfl _ rfl rfl Q8.out HMD.out ?_)
  | (refine rc_store rfl _ _ rfl rfl (r := rcMk P r0) (A := A4) (n := n4) (c := c4) rfl QR8.out HMD.out rcZ_ok.2.2.2.2.2.2 ?_))
 refine bodyPost_ret (rresults_row_tmp Tryz.results49 _ _ (w.heap.size + 2) 90 _ (0, 0) _ rfl (RcAt.setRow (r' := rcMk P r0) (A' := A4) (n' := n4) (c' := c4) QR8.out) Tryz.underlying90 rfl (rcInfo _ _ _ _ HMD.out)) rfl ?_
 refine ⟨A4, n4, c4, rfl, ?_, fun h0 a e => by have := o4 h0 a e; omega, below_setRow B9 (by omega) _⟩
 rw [show (rcMk P r0).b = b from HB0.out]
 exact rd_row r8 (w.heap.size + 2) _ (fun h0 a e => by have := o4 h0 a e; omega)
def rcMkR (P : List UInt8) (r : Rc) : Rc := if r.chk = true then rcMk P r else rcZ
def rcMkE (r : Rc) : Int := if r.chk = true then 0 else 2
theorem recMake_any (P : List UInt8) (hP : P.length = 32) (g s m t : Nat) (k : Int) (cl : Nat) (A : Option Addr) (n c : Nat) (b : List UInt8) (w : World) (hg : g < 4294967296) (hs : s < 4294967296) (hm : m < 4294967296) (ht : t < 18446744073709551616) (hk : -9223372036854775808 ≤ k ∧ k ≤ 9223372036854775807) (hcl : cl < 18446744073709551616) (hr : RdB w A n c b) :
  Calls Tryz.prog 49 #[.agg (dgA P), .int .u32 (g : Int), .int .u32 (s : Int), .int .u32 (m : Int), .agg #[.int .u64 (t : Int), .int .i64 k, .int .u64 (cl : Int), .slice A n c]] w (RetRc w (rcMkR P ⟨g, s, m, t, k, cl, b, List.replicate 32 0⟩) (rcMkE ⟨g, s, m, t, k, cl, b, List.replicate 32 0⟩)) := by
 unfold rcMkR rcMkE
 cases h : rcChk k cl b.length with
 | false => rw [if_neg (by unfold Rc.chk; simp [h]), if_neg (by unfold Rc.chk; simp [h])]; exact recMake_no P hP g s m t k cl A n c b w hr h
 | true => rw [if_pos (by unfold Rc.chk; exact h), if_pos (by unfold Rc.chk; exact h)]; exact recMake_yes P hP g s m t k cl A n c b w hg hs hm ht hk hcl hr h
set_option maxHeartbeats 4000000
def RrAt (w : World) (g : Nat) (A : Option Addr) (c : Nat) (at_ : Nat) : Prop := w.heap[g]? = some (.cells #[.slice A 256 c, .int .i64 (at_ : Int)] 200 (0, 0))
theorem RrAt.c0 {w : World} {g : Nat} {A : Option Addr} {c at_ : Nat} (h : RrAt w g A c at_) : w.cell? ⟨g, 0, none⟩ = some (.slice A 256 c) := (cell_of_row w g 0 _ _ _ h).trans rfl
theorem RrAt.c1 {w : World} {g : Nat} {A : Option Addr} {c at_ : Nat} (h : RrAt w g A c at_) : w.cell? ⟨g, 1, none⟩ = some (.int .i64 (at_ : Int)) := (cell_of_row w g 1 _ _ _ h).trans rfl
theorem RrAt.fr {w : World} {g : Nat} {A : Option Addr} {c at_ : Nat} (h : RrAt w g A c at_) (i : Nat) : w.frozen? ⟨g, i, none⟩ = false := frozen_of_row _ _ i _ _ h
theorem RrAt.lt {w : World} {g : Nat} {A : Option Addr} {c at_ : Nat} (h : RrAt w g A c at_) : g < w.heap.size := (Array.getElem?_eq_some_iff.1 h).1
theorem recPart_any (g bb oo c : Nat) (xs : List UInt8) (at_ s : Nat) (w : World) (hg : RrAt w g (some ⟨bb, oo, none⟩) c at_) (hr : RdB w (some ⟨bb, oo, none⟩) 256 c xs) (ho : bb < g) (ha : at_ + s ≤ 256) :
  Calls Tryz.prog 161 #[.pointer (some ⟨g, 0, none⟩), .int .i64 (s : Int)] w fun e w' => ∃ B, e = .returned (.slice B s s) ∧ RdB w' B s s ((xs.drop at_).take s) ∧ RrAt w' g (some ⟨bb, oo, none⟩) c (at_ + s) ∧ Below g w w' ∧ Beside g w w' := by
 obtain ⟨t, ht⟩ : ∃ t, t = at_ + s := ⟨_, rfl⟩
 have hc := hr.2.2.1
 have hc63 := hr.c63
 have k0 := hg.c0
 have k1 := hg.c1
 have f1 := hg.fr 1
 have lg := hg.lt
 have ws : (at_ : Int) + (s : Int) = (t : Int) := by omega
 have wt := wi64n (k := t) (by omega)
 obtain ⟨V, hV⟩ : ∃ V, V = w.setCell ⟨g, 1, none⟩ (.int .i64 (t : Int)) := ⟨_, rfl⟩
 have gV : RrAt V g (some ⟨bb, oo, none⟩) c t := by rw [hV]; exact (setc_rowT hg).trans rfl
 have bV : Below g w V := by rw [hV]; exact (Below.refl g w).setCell (p := ⟨g, 1, none⟩) (Nat.le_refl _) _
 have rV : RdB V (some ⟨bb, oo, none⟩) 256 c xs := by rw [hV]; exact rd_far hr _ _ (fun _ a e => by cases e; show bb ≠ g; omega)
 have zV : V.heap.size = w.heap.size := by rw [hV]; simp
 have p0 := gV.c0
 have p1 := gV.c1
 have sV : Beside g w V := by rw [hV]; exact (beside_of (Below.refl _ w)).setCell _
 have HV := Lib.hid hV
 have HT := Lib.hid ht
 have GV := Lib.hid gV
 have t1 : (at_ : Int) ≤ (t : Int) := by omega
 have t2 : (t : Int) ≤ (c : Int) := by omega
 have lgV : g < V.heap.size := by omega
 clear hV ht gV hg
 go_enter Tryz.func161, Tryz.ntmps161
 go_wp2_with fail
 rw [← HV.out]
 refine wp_region_plan (S := fun w' => Below V.heap.size V w') [(0, true), (1, true), (2, true), (3, true), (4, true), (5, true), (6, true), (7, true), (8, true), (9, true), (10, true), (11, true), (12, true), (13, true), (14, true)] (by kernel_rfl) (by kernel_rfl) (fun _ _ d _ _ h => by cases d <;> exact h) ((Below.refl _ V).drew) ?_
 iterate 15 (refine plan_take (v := ?_) rfl (Or.inl ⟨by rfl, ?_⟩) ?_; rotate_left; (focus (intro w' hw'; have ja := (hw'.cell (p := ⟨g, 0, none⟩) lgV).trans p0; have jb := (hw'.cell (p := ⟨g, 1, none⟩) lgV).trans p1; go_simp <;> with_reducible rfl)); try simp only [Act.put, pst3])
 refine plan_done ?_
 go_wp2_with fail
 ·have hs0 : s = 0 := by have := HT.out; omega
  subst hs0
  go_ret
  have gv := GV.out
  rw [HT.out] at gv
  exact ⟨_, rfl, ⟨.inl (by simp), by simp, Nat.le_refl _, by simp [maxLen]⟩, gv, bV.trans ((Below.refl g V).drew), sV.trans (beside_of (Below.refl _ V).drew)⟩
 ·have hts : t - at_ = s := by have := HT.out; omega
  rw [hts]
  go_ret
  have gv := GV.out
  rw [HT.out] at gv
  have r1 := ((rV.drew).cutS at_ (256 - at_) (by have := HT.out; omega) (by have := HT.out; omega)).take s (by have := HT.out; omega)
  exact ⟨_, rfl, r1.cap s (Nat.le_refl _) (by unfold maxLen; omega), gv, bV.trans ((Below.refl g V).drew), sV.trans (beside_of (Below.refl _ V).drew)⟩
theorem recRNumber_any (g bb oo c : Nat) (xs : List UInt8) (at_ s : Nat) (w : World) (hg : RrAt w g (some ⟨bb, oo, none⟩) c at_) (hr : RdB w (some ⟨bb, oo, none⟩) 256 c xs) (ho : bb < g) (ha : at_ + s ≤ 256) (hs : s ≤ 8) :
  Calls Tryz.prog 160 #[.pointer (some ⟨g, 0, none⟩), .int .i64 (s : Int)] w fun e w' => e = .returned (.int .u64 (lev ((xs.drop at_).take s) : Nat)) ∧ RrAt w' g (some ⟨bb, oo, none⟩) c (at_ + s) ∧ Below g w w' ∧ Beside g w w' := by
 have H1 := Lib.hid (recPart_any g bb oo c xs at_ s w hg hr ho ha)
 have HF := Lib.hid (show fromLe ((xs.drop at_).take s) = lev ((xs.drop at_).take s) by unfold fromLe; rw [List.take_take, Nat.min_eq_right hs])
 obtain ⟨v, hv⟩ : ∃ v, lev ((xs.drop at_).take s) = v := ⟨_, rfl⟩
 rw [hv] at HF ⊢
 clear hg hv
 go_enter Tryz.func160, Tryz.ntmps160
 go_wp2_with fail
 refine H1.out.mono ?_
 rintro e w2 ⟨B, rfl, rB, g2, b2, s2⟩
 go_wp2_with fail
 refine (fromLe_any B s s _ w2 rB).mono ?_
 rintro e w3 ⟨rfl, rfl⟩
 rw [HF.out]
 go_wp2_with fail
 go_ret
 exact ⟨rfl, g2, b2, s2⟩
end Go.Proofs.YtpahicfnhhhifaaGreat
