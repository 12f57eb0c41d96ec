/-
 Proved here, for the statement JournalLoads:
 Layer 12: records: Put.
 Layer 3: words turned.
-/
import Derived.Test.YtpahicfnhhhifaaGreatGl10
set_option linter.unusedVariables false
set_option linter.unusedSimpArgs false
namespace Go.Proofs.YtpahicfnhhhifaaGreat
set_option maxRecDepth 20000
open Go.RowKit
set_option maxHeartbeats 4000000
theorem rcInfo (r : Rc) (A : Option Addr) (n c : Nat) (hD : r.D.length = 32) : (Tryz.prog.info? 90).map (·.size) = some (rcV r A n c).toArray.size := by
 rw [List.size_toArray, rcV_len r A n c hD]; kernel_rfl
theorem load_rc {w : World} {h : Nat} {r : Rc} {A : Option Addr} {n c : Nat} (q : RcAt w h r A n c) (hD : r.D.length = 32) : (loadVar 90 ⟨h, 0, none⟩).run Tryz.prog w = .ok (.agg (rcV r A n c).toArray) w :=
 run_loadVar_row w h _ 90 _ _ _ q Tryz.underlying90 rfl (rcInfo r A n c hD)
theorem rex_load {P : Program} {o : Oper} {a : Act} {w : World} {ty : TypeId} {x : Operand} {p : Addr} {v : Value} (ho : o.op = .load ty x) (hx : a.eval x = .pointer (some p)) (hl : (loadVar ty p).run P w = .ok v w) : (execOp a.eval o).run P w = .ok (.value v) w := by
 unfold execOp
 simp only [ho, hx, Instr.loadAt, Instr.sureAddr, Sem.run_bind, Sem.run_pure, Result.andThen_ok, hl]
theorem recPut_no (r : Rc) (A : Option Addr) (n c : Nat) (w : World) (hr : RdB w A n c r.b) (hchk : r.chk = false) :
  Calls Tryz.prog 50 #[.agg (rcV r A n c).toArray] w (RetBE w [] 2) := by
 have hn := hr.n63
 have hl := hr.2.1
 obtain ⟨V, hV⟩ : ∃ V, V = w.alloc (.cells (rcV r A n c).toArray 90) := ⟨_, rfl⟩
 have bV : Below w.heap.size w V := by rw [hV]; exact (below_self w).alloc (Nat.le_refl _) _
 have q : RcAt V w.heap.size r A n c := by rw [hV]; exact rw_at _ rfl
 have hc := recCheck_any r.t r.k r.c A n c V hn
 rw [show rcChk r.k r.c n = false by rw [← hl]; exact hchk] at hc
 have a3 := q.c3
 have a4 := q.c4
 have a5 := q.c5
 have a6 := q.c6
 rw [hV] at a3 a4 a5 a6
 have HC := Lib.hid hc
 have HV := Lib.hid hV
 obtain ⟨RV, hRV⟩ : ∃ z, z = (rcV r A n c).toArray := ⟨_, rfl⟩
 rw [← hRV] at HV a3 a4 a5 a6 ⊢
 clear hV hc q hRV hchk
 go_enter Tryz.func50, Tryz.ntmps50
 go_wp2_with fail
 rw [← HV.out]
 refine HC.out.mono ?_
 rintro e w2 ⟨rfl, hb2⟩
 clear a3 a4 a5 a6
 go_wp2
 go_ret2
 exact ⟨none, 0, 0, rfl, OwnB.nilB _ _, below_then bV hb2⟩
theorem recPut_yes (r : Rc) (A : Option Addr) (n c : Nat) (w : World) (hok : r.ok) (hr : RdB w A n c r.b) (hchk : r.chk = true) :
  Calls Tryz.prog 50 #[.agg (rcV r A n c).toArray] w (RetBE w (rcL r) 0) := by
 have hn := hr.n63
 have hl := hr.2.1
 have hD := hok.2.2.2.2.2.2
 have hb186 := (rcChk_len hchk).1
 obtain ⟨V, hV⟩ : ∃ V, V = w.alloc (.cells (rcV r A n c).toArray 90) := ⟨_, rfl⟩
 have bV : Below w.heap.size w V := by rw [hV]; exact (below_self w).alloc (Nat.le_refl _) _
 have q : RcAt V w.heap.size r A n c := by rw [hV]; exact rw_at _ rfl
 have hc := recCheck_any r.t r.k r.c A n c V hn
 rw [show rcChk r.k r.c n = true by rw [← hl]; exact hchk] at hc
 have a3 := q.c3
 have a4 := q.c4
 have a5 := q.c5
 have a6 := q.c6
 rw [hV] at a3 a4 a5 a6
 have HC := Lib.hid hc
 have HV := Lib.hid hV
 have Q := Lib.hid q
 have HLn := Lib.hid (fun W (h : RdB W A n c r.b) => recLinked_any r A n c W hok hchk h)
 have hfl : ([rcBody r, r.D] : List (List UInt8)).flatten.length = 252 := by simp [rcBody_len r (by omega), hD]
 have HFL := Lib.hid hfl
 have HLD := Lib.hid hD
 obtain ⟨RV, hRV⟩ : ∃ z, z = (rcV r A n c).toArray := ⟨_, rfl⟩
 have HRV := Lib.hid hRV
 rw [← hRV] at HV a3 a4 a5 a6 HLn ⊢
 clear hV hc q hRV hchk hfl hok hD
 go_enter Tryz.func50, Tryz.ntmps50
 go_wp2_with fail
 rw [← HV.out]
 refine HC.out.mono ?_
 rintro e w2 ⟨rfl, hb2⟩
 have B2 := below_then bV hb2
 have Q2 := Lib.hid (Q.out.up hb2)
 clear a3 a4 a5 a6
 go_wp2_with fail
 refine wp_region_seg (S := fun w' => Below w2.heap.size w2 w') 0 (brw9 9 511) [(0, true), (2, true), (3, true), (1, false), (4, false), (5, false), (6, false), (7, true), (8, true)] (by kernel_rfl) (by kernel_rfl) (fun _ _ d _ _ h => by first | (cases d <;> exact h) | cases h.1) ((Below.refl w2.heap.size w2).drew) ?_
 have HB := (Below.refl w2.heap.size w2).drew
 refine seg_take (v := .agg RV) rfl (Or.inl ⟨by rfl, fun w' hw' => ?_⟩) ?_
 focus (exact rex_load rfl rfl (HRV.out ▸ load_rc (rw_up Q2.out hw') HLD.out))
 try simp only [Act.put, pst3]
 iterate 2 (refine seg_take (v := ?_) rfl (Or.inl ⟨by rfl, ?_⟩) ?_; rotate_left; (focus (intro w' hw'; go_simp <;> with_reducible rfl)); try simp only [Act.put, pst3])
 refine seg_run rfl (fun K hK => ?_)
 go_simp
 refine (HLn.out _ (hr.below (below_then B2 HB))).mono ?_
 rintro e_ w3 ⟨gb, rfl, rb, lgb, hb3⟩
 have HB := below_then HB hb3
 refine hK.out _ _ (HB) ?_
 clear hK
 try simp only [Act.put, pst3]
 refine seg_run rfl (fun K hK => ?_)
 rw [if_pos (by rfl)]
 refine op_lit #[.slice (some ⟨gb, 0, none⟩) 220 220, .slice (some ⟨w.heap.size, 7, none⟩) 32 32] 47 2 rfl (fun w => by go_simp) ?_
 intro gP wP eP hProw HPb hPsz
 have HB := below_then HB HPb
 have rb := rb.below HPb
 have rP := rdsAt hProw
 clear hProw
 refine hK.out _ _ (HB) ?_
 clear hK
 try simp only [Act.put, pst3]
 refine seg_run rfl (fun K hK => ?_)
 go_simp
 refine (concat_any _ 2 2 _ [rcBody r, r.D] _ rP rfl (by omega) ⟨⟨_, _, _, rfl, rb⟩, ⟨_, _, _, rfl, (Q2.out.dig HLD.out).below HB⟩, trivial⟩ (by rw [HFL.out]; omega)).mono ?_
 rintro e_ wJ ⟨AJ, nJ, cJ, rfl, oJ, HJb⟩
 have HB := below_then HB HJb
 obtain rfl : nJ = 252 := by rw [← oJ.len, HFL.out]
 refine hK.out _ _ (HB) ?_
 clear hK
 try simp only [Act.put, pst3]
 refine seg_run rfl (fun K hK => ?_)
 go_simp
 refine (closed_any AJ 252 cJ _ _ oJ.rd (by omega)).mono ?_
 rintro e_ wC ⟨AC, nC, cC, rfl, oC, HCb⟩
 have HB0 := HB.size
 have HB := below_then HB HCb
 refine hK.out _ _ (HB) ?_
 clear hK
 try simp only [Act.put, pst3]
 iterate 2 (refine seg_take (v := ?_) rfl (Or.inl ⟨by rfl, ?_⟩) ?_; rotate_left; (focus (intro w' hw'; go_simp <;> with_reducible rfl)); try simp only [Act.put, pst3])
 refine seg_done (fun _ => ?_)
 refine wpAnyH_done (by kernel_rfl) ?_ _
 go_wp2
 go_ret2
 have zz := B2.size
 refine ⟨_, _, _, rfl, ?_, below_then B2 HB⟩
 have e : crcClosed ([rcBody r, r.D] : List (List UInt8)).flatten = rcL r := by unfold rcL; simp
 rw [← e]
 exact OwnB.mono oC (by omega)
theorem recPut_any (r : Rc) (A : Option Addr) (n c : Nat) (w : World) (hok : r.ok) (hr : RdB w A n c r.b) :
  Calls Tryz.prog 50 #[.agg (rcV r A n c).toArray] w (RetBE w (rcPutL r) (rcPutE r)) := by
 unfold rcPutL rcPutE
 cases h : r.chk with
 | false => rw [if_neg (by decide), if_neg (by decide)]; exact recPut_no r A n c w hr h
 | true => rw [if_pos rfl, if_pos rfl]; exact recPut_yes r A n c w hok hr h
set_option maxHeartbeats 8000000
def vI (k : Nat) : Value := .int .i64 (k : Int)
theorem u32w (k : Nat) : IntKind.u32.wrap (k : Int) = ((k % 4294967296 : Nat) : Int) := by rw [IntKind.wrap_u32]; omega
theorem ror_val (x n : Nat) (hx : x < 4294967296) : bits .or .u32 ((x : Int) / 2 ^ n) (IntKind.u32.wrap ((x : Int) * 2 ^ (32 - n))) = ((ror x n : Nat) : Int) := by
 have e1 : (x : Int) / 2 ^ n = ((x / 2 ^ n : Nat) : Int) := by push_cast; rfl
 have e2 : (x : Int) * 2 ^ (32 - n) = ((x * 2 ^ (32 - n) : Nat) : Int) := by push_cast; rfl
 rw [e1, e2, u32w, u32_or_nat _ _ (Nat.lt_of_le_of_lt (Nat.div_le_self _ _) hx) (Nat.mod_lt _ (by omega))]
 rfl
theorem shaRight_any (x n : Nat) (w : World) (hx : x < 4294967296) (h1 : 1 ≤ n) (h2 : n ≤ 31) : Calls Tryz.prog 155 #[.int .u32 x, .int .i64 n] w (RetV w (.int .u32 (ror x n : Nat))) := by
 have k1 := ror_val x n hx
 have k3 : (32 : Int) - (n : Int) = ((32 - n : Nat) : Int) := by omega
 have k4 := wi64n (k := 32 - n) (by omega)
 have k5 : ((32 - n : Nat) : Int) ≤ 32 := by omega
 go_enter Tryz.func155, Tryz.ntmps155
 go_wp2_with fail
 refine wp_region_plan (S := fun w' => Below w.heap.size w w') [(0, true), (1, true), (2, true), (3, true), (4, true), (5, true), (6, true), (7, true), (8, true)] (by kernel_rfl) (by kernel_rfl) (fun _ _ d _ _ h => by cases d <;> exact h) ((Below.refl _ w).drew) ?_
 iterate 9 (refine plan_take (v := ?_) rfl (Or.inl ⟨by rfl, ?_⟩) ?_; rotate_left; (focus (intro w' hw'; go_simp <;> with_reducible rfl)); try simp only [Act.put, pst3])
 refine plan_done ?_
 go_wp2
 go_ret
 exact ⟨by rw [← k1]; rfl, (Below.refl _ _).drew⟩
theorem refRot_any (x n : Nat) (w : World) (hx : x < 4294967296) (h1 : 1 ≤ n) (h2 : n ≤ 31) : Calls Tryz.prog 125 #[.int .u32 x, .int .u64 n] w fun e w' => e = .returned (.int .u32 (ror x n : Nat)) ∧ w = w' := by
 have k1 := ror_val x n hx
 have k3 : (32 : Int) - (n : Int) = ((32 - n : Nat) : Int) := by omega
 go_enter Tryz.func125, Tryz.ntmps125
 go_wp2
 go_ret
 exact ⟨by rw [← k1, IntKind.wrap_u32]; rfl, rfl⟩
def MixI (w : World) (x n : Nat) (ts : List Nat) (v5 v10 : Value) (wr : World) : Prop := ∃ k : Nat, k ≤ n ∧ v10 = .int .i64 k ∧ v5 = .int .u32 (shMix x (ts.take k) : Nat) ∧ Below w.heap.size w wr
theorem mixed_any (x : Nat) (A : Option Addr) (n c : Nat) (ts : List Nat) (w : World) (hx : x < 4294967296) (hr : Rd w A (ts.map vI)) (hn : ts.length = n) (hs : n ≤ 100) (ht : ∀ t ∈ ts, 1 ≤ t ∧ t ≤ 31) :
  Calls Tryz.prog 140 #[.int .u32 x, .slice A n c] w (RetV w (.int .u32 (shMix x ts : Nat))) := by
 have HN := Lib.hid hn
 have HT := Lib.hid ht
 clear hn ht
 go_enter Tryz.func140, Tryz.ntmps140
 go_wp2_with fail
 go_loopw [5, 10] (MixI w x n ts) (fun _ i _ => n - (intOf i).toNat)
 case atStart => exact ⟨0, Nat.zero_le _, rfl, rfl, Below.refl _ _⟩
 case round =>
  obtain ⟨k, hk, rfl, rfl, hb⟩ := hrel
  by_cases hlt : k < n
  ·have hkl : k < ts.length := by rw [HN.out]; exact hlt
   obtain ⟨b, o, rfl, hbl, hc⟩ := (hr.below hb).at_ k (by simpa using hkl)
   obtain ⟨t, het⟩ : ∃ t, ts[k] = t := ⟨_, rfl⟩
   have ht := HT.out t (by rw [← het]; exact List.getElem_mem hkl)
   have hc' : wr.cell? ⟨b, o + k, none⟩ = some (.int .i64 (t : Int)) := by rw [hc]; simp [vI, het]
   have hsn : ts.take (k + 1) = ts.take k ++ [t] := by rw [take_snoc ts k hkl, het]
   have hm := shMix_lt hx (ts.take k)
   have hsm := shMix_snoc x (ts.take k) t
   have hxr := u32_xor_nat (shMix x (ts.take k)) (ror x t) hm (ror_lt t hx)
   have HS := Lib.hid (show ((shMix x (ts.take (k + 1)) : Nat) : Int) = bits .xor .u32 ((shMix x (ts.take k) : Nat) : Int) ((ror x t : Nat) : Int) by rw [hsn, hsm, hxr])
   generalize shMix x (ts.take k) = S at *
   clear hsn hsm hxr hc het hkl
   go_wp2_with fail
   refine (shaRight_any x t wr hx ht.1 ht.2).mono ?_
   rintro e w2 ⟨rfl, hb2⟩
   go_wp2
   go_roundw
   case rel => exact ⟨k + 1, by omega, by go_num, by rw [HS.out], below_then hb hb2⟩
   case measure => simp [intOf]; omega
  ·obtain rfl : k = n := by omega
   have ha : ts.take k = ts := by rw [← HN.out, List.take_length]
   rw [ha]
   clear ha
   go_wp2
   go_ret
   exact ⟨rfl, hb⟩
set_option maxHeartbeats 8000000
def vW (k : Nat) : Value := .int .u32 (k : Int)
def wsV (ws : List Nat) : Array Value := (ws.map vW).toArray
theorem wsV_size (ws : List Nat) : (wsV ws).size = ws.length := by simp [wsV]
theorem wsV_one (ws : List Nat) : (wsV ws).all (·.oneCell') = true := by simp [wsV, vW, Value.oneCell']
theorem wsV_get (ws : List Nat) (k : Nat) (h : k < ws.length) : (wsV ws)[k]? = some (.int .u32 ((ws.getD k 0 : Nat) : Int)) := by simp [wsV, vW, List.getD, h]
def z64 : List Nat := List.replicate 64 0
theorem z64_V : wsV z64 = #[.int .u32 0, .int .u32 0, .int .u32 0, .int .u32 0, .int .u32 0, .int .u32 0, .int .u32 0, .int .u32 0, .int .u32 0, .int .u32 0, .int .u32 0, .int .u32 0, .int .u32 0, .int .u32 0, .int .u32 0, .int .u32 0, .int .u32 0, .int .u32 0, .int .u32 0, .int .u32 0, .int .u32 0, .int .u32 0, .int .u32 0, .int .u32 0, .int .u32 0, .int .u32 0, .int .u32 0, .int .u32 0, .int .u32 0, .int .u32 0, .int .u32 0, .int .u32 0, .int .u32 0, .int .u32 0, .int .u32 0, .int .u32 0, .int .u32 0, .int .u32 0, .int .u32 0, .int .u32 0, .int .u32 0, .int .u32 0, .int .u32 0, .int .u32 0, .int .u32 0, .int .u32 0, .int .u32 0, .int .u32 0, .int .u32 0, .int .u32 0, .int .u32 0, .int .u32 0, .int .u32 0, .int .u32 0, .int .u32 0, .int .u32 0, .int .u32 0, .int .u32 0, .int .u32 0, .int .u32 0, .int .u32 0, .int .u32 0, .int .u32 0, .int .u32 0] := by rfl
theorem info64 (ws : List Nat) (h : ws.length = 64) : (Tryz.prog.info? 166).map (·.size) = some (wsV ws).size := by rw [wsV_size, h]; kernel_rfl
def RetW (w : World) (ws : List Nat) (e : Ending) (w' : World) : Prop := e = .returned (.agg (wsV ws)) ∧ Below w.heap.size w w'
section
variable {ops : Array Oper} {rest : List Oper} {o : Oper} {a : Act} {w : World} {Q : Exit → Act → World → Prop}
theorem w64_load (hgd : o.guard = none) (x : Operand) (ho : o.op = .load 166 x) (h : Nat) (hx : a.eval x = .pointer (some ⟨h, 0, none⟩)) (y : List Nat) (T : TypeId) (hrow : w.heap[h]? = some (.cells (wsV y) T (0, 0))) (hl : y.length = 64)
  (hK : wpList Tryz.prog ops Q rest (a.put o.dst (.agg (wsV y))) w) : wpList Tryz.prog ops Q (o :: rest) a w :=
 wpList_load_row hgd 166 x ho h hx T (wsV y) (0, 0) _ hrow Tryz.underlying166 rfl (info64 y hl) hK
theorem w64_store (hgd : o.guard = none) (x z : Operand) (ho : o.op = .store 166 x z) (h : Nat) (hx : a.eval x = .pointer (some ⟨h, 0, none⟩)) (y old : List Nat) (hz : a.eval z = .agg (wsV y)) (T : TypeId) (hrow : w.heap[h]? = some (.cells (wsV old) T (0, 0))) (hl : y.length = 64) (ho2 : old.length = 64)
  (hK : wpList Tryz.prog ops Q rest (a.put o.dst undef) (w.setRow h (wsV y))) : wpList Tryz.prog ops Q (o :: rest) a w :=
 wpList_store_row hgd 166 x z ho h (wsV y) hx hz T (wsV old) hrow (info64 y hl) (by rw [wsV_size, wsV_size, hl, ho2]) (wsV_one y) hK
end
theorem shaConst_any (w : World) : Calls Tryz.prog 138 #[] w (RetW w shK) := by
 have H0 := Lib.hid (show (w.alloc (.cells zz2 166)).heap[w.heap.size]? = some (.cells (wsV z64) 166 (0, 0)) by rw [z64_V]; exact row1 ..)
 go_enter Tryz.func138, Tryz.ntmps138
 go_wp2_with (refine w64_store rfl _ _ rfl w.heap.size rfl shK z64 rfl 166 H0.out rfl rfl ?_)
 refine bodyPost_ret (results_cell_row Tryz.results138 _ _ w.heap.size 166 (wsV shK) (0, 0) _ rfl (setRow_heap _ _ _ (wsV shK) _ _ H0.out) Tryz.underlying166 rfl (info64 shK rfl)) rfl ?_
 exact ⟨rfl, below_setRow ((below_self w).alloc (Nat.le_refl _) _) (Nat.le_refl _) _⟩
theorem refK_any (w : World) : Calls Tryz.prog 124 #[] w (RetW w shK) := by
 have H0 := Lib.hid (show (w.alloc (.cells zz2 166)).heap[w.heap.size]? = some (.cells (wsV z64) 166 (0, 0)) by rw [z64_V]; exact row1 ..)
 go_enter Tryz.func124, Tryz.ntmps124
 go_wp2_with (refine w64_store rfl _ _ rfl w.heap.size rfl shK z64 rfl 166 H0.out rfl rfl ?_)
 refine bodyPost_ret (results_cell_row Tryz.results124 _ _ w.heap.size 166 (wsV shK) (0, 0) _ rfl (setRow_heap _ _ _ (wsV shK) _ _ H0.out) Tryz.underlying166 rfl (info64 shK rfl)) rfl ?_
 exact ⟨rfl, below_setRow ((below_self w).alloc (Nat.le_refl _) _) (Nat.le_refl _) _⟩
theorem shaBegin_any (w : World) : Calls Tryz.prog 103 #[] w (RetW w shBegin.l) := by
 go_enter Tryz.func103, Tryz.ntmps103
 go_wp2
 exact bodyPost_ret (v := .agg (wsV shBegin.l)) (by simp [results, Tryz.results103, go_sem, alloc_box, wsV, shBegin, H8.l, vW]) rfl ⟨rfl, (below_self w).alloc (Nat.le_refl _) _⟩
set_option maxHeartbeats 8000000
theorem alloc64 (w : World) : (w.alloc (.cells zz2 166)).heap[w.heap.size]? = some (.cells (wsV z64) 166 (0, 0)) := by rw [z64_V]; exact row1 ..
def wsP (b : List UInt8) (k : Nat) : List Nat := shWs b k ++ List.replicate (64 - k) 0
theorem wsP_len (b : List UInt8) (k : Nat) (h : k ≤ 64) : (wsP b k).length = 64 := by simp [wsP, shWs_len]; omega
theorem wsP_zero (b : List UInt8) : wsP b 0 = z64 := by simp [wsP, shWs, z64]
theorem wsP_all (b : List UInt8) : wsP b 64 = shWs b 64 := by simp [wsP]
theorem wsP_set (b : List UInt8) (k : Nat) (h : k < 64) : (wsP b k).set k (shWord b (shWs b k) k) = wsP b (k + 1) := by
 have hl := shWs_len b k
 unfold wsP
 rw [List.set_append_right _ _ (by omega), hl, Nat.sub_self, show 64 - k = (64 - (k + 1)) + 1 by omega, List.replicate_succ, List.set_cons_zero, shWs, List.append_assoc]
 rfl
theorem wsP_get (b : List UInt8) (k j : Nat) (h : j < k) : (wsP b k).getD j 0 = (shWs b k).getD j 0 := by
 have hl := shWs_len b k
 unfold wsP
 rw [List.getD, List.getElem?_append_left (by omega), ← List.getD]
theorem wsV_set (ws : List Nat) (k n : Nat) : (wsV ws).setIfInBounds k (.int .u32 (n : Int)) = wsV (ws.set k n) := by
 apply Array.ext'
 simp [wsV, vW, List.map_set]
theorem ws_lt (b : List UInt8) (k j : Nat) : (shWs b k).getD j 0 < 4294967296 := by
 by_cases h : j < (shWs b k).length
 ·rw [List.getD, List.getElem?_eq_getElem h]
  exact shWs_lt b k _ (List.getElem_mem h)
 ·rw [List.getD, List.getElem?_eq_none (by omega)]; simp
def WrI (w : World) (b : List UInt8) (v11 : Value) (wr : World) : Prop :=
 ∃ k : Nat, k ≤ 64 ∧ v11 = .int .i64 k ∧ wr.heap[w.heap.size + 1]? = some (.cells (wsV (wsP b k)) 166 (0, 0)) ∧ wr.heap[w.heap.size]? = some (.cells (wsV z64) 166 (0, 0)) ∧ Below w.heap.size w wr ∧ w.heap.size + 1 < wr.heap.size
theorem shaWords_short (A : Option Addr) (n c : Nat) (xs : List UInt8) (w : World) (hr : RdB w A n c xs) (h : n ≠ 64) :
  Calls Tryz.prog 139 #[.slice A n c] w (RetW w (shWords xs)) := by
 have hn := hr.n63
 have e : shWords xs = z64 := by unfold shWords; rw [if_neg (by rw [hr.2.1]; exact h)]; rfl
 rw [e]
 have d1 : ((n : Int) != 64) = true := by rw [bne_iff_ne]; omega
 have H0 := Lib.hid (show ((w.alloc (.cells zz2 166)).alloc (.cells zz2 166)).heap[w.heap.size]? = some (.cells (wsV z64) 166 (0, 0)) by rw [z64_V]; exact row2a ..)
 have H1 := Lib.hid (show ((w.alloc (.cells zz2 166)).alloc (.cells zz2 166)).heap[w.heap.size + 1]? = some (.cells (wsV z64) 166 (0, 0)) by rw [z64_V]; exact row2b ..)
 clear h e
 go_enter Tryz.func139, Tryz.ntmps139
 go_wp2_with (first
  | (refine w64_load rfl _ rfl (w.heap.size + 1) rfl z64 166 H1.out rfl ?_)
  | (refine w64_store rfl _ _ rfl w.heap.size rfl z64 z64 rfl 166 H0.out rfl rfl ?_))
 refine bodyPost_ret (results_cell_row Tryz.results139 _ _ w.heap.size 166 (wsV z64) (0, 0) _ rfl (setRow_heap _ _ _ (wsV z64) _ _ H0.out) Tryz.underlying166 rfl (info64 z64 rfl)) rfl ?_
 exact ⟨rfl, below_setRow (((below_self w).alloc (Nat.le_refl _) _).alloc (by simp) _) (Nat.le_refl _) _⟩
theorem shaWords_long (A : Option Addr) (c : Nat) (xs : List UInt8) (w : World) (hr : RdB w A 64 c xs) :
  Calls Tryz.prog 139 #[.slice A 64 c] w (RetW w (shWords xs)) := by
 have hl := hr.2.1
 have hc := hr.2.2.1
 have hc63 := hr.c63
 have e : shWords xs = shWs xs 64 := by unfold shWords; rw [if_pos hl]
 rw [e]
 have d1 : ((64 : Int) != 64) = false := by decide
 obtain ⟨b, o, u, rfl, hbl, _⟩ := hr.at_ 0 (by omega)
 have HL := Lib.hid hl
 clear hl e
 go_enter Tryz.func139, Tryz.ntmps139
 go_wp2_with fail
 obtain ⟨W, hW⟩ : ∃ W, W = (w.alloc (.cells zz2 166)).alloc (.cells zz2 166) := ⟨_, rfl⟩
 have bW : Below w.heap.size w W := by rw [hW]; exact ((below_self w).alloc (Nat.le_refl _) _).alloc (by simp) _
 have h0 : W.heap[w.heap.size]? = some (.cells (wsV z64) 166 (0, 0)) := by rw [hW, z64_V]; exact row2a ..
 have h1 : W.heap[w.heap.size + 1]? = some (.cells (wsV z64) 166 (0, 0)) := by rw [hW, z64_V]; exact row2b ..
 have zW : w.heap.size + 1 < W.heap.size := by rw [hW]; simp
 rw [← hW]
 clear hW
 go_loopw [11] (WrI w xs) (fun i _ => 64 - (intOf i).toNat)
 case atStart => exact ⟨0, by omega, rfl, by rw [wsP_zero]; exact h1, h0, bW, zW⟩
 case round =>
  obtain ⟨k, hk, rfl, r3, r2, HB, hz⟩ := hrel
  clear h0 h1 zW bW
  by_cases hlt : k < 64
  ·have R3 := Lib.hid r3
   have R2 := Lib.hid r2
   have hset := wsP_set xs k hlt
   have HS := Lib.hid hset
   have old := (cell_of_row wr _ k _ _ _ r3).trans (wsV_get _ k (by rw [wsP_len _ _ (by omega)]; exact hlt))
   have frz : wr.frozen? ⟨w.heap.size + 1, k, none⟩ = false := frozen_of_row _ _ _ _ _ r3
   have HOLD := Lib.hid old
   clear r3 r2 hset old
   by_cases h16 : k < 16
   ·obtain ⟨p, hp⟩ : ∃ p, p = 4 * k := ⟨_, rfl⟩
    have rc := ((hr.below HB).cutS p (64 - p) (by omega) (by omega)).take 4 (by omega)
    have hF : fromBe ((xs.drop p).take 4) = shWord xs (shWs xs k) k := by
     unfold fromBe shWord; rw [if_pos h16, List.take_take, hp]; rfl
    have hF2 : shWord xs (shWs xs k) k < 4294967296 := shWord_lt _ _ _
    generalize shWord xs (shWs xs k) k = M at *
    have HF := Lib.hid hF
    have wM : IntKind.u32.wrap (M : Int) = M := by rw [IntKind.wrap_u32]; omega
    have oo := HOLD.out
    obtain ⟨u9, hu9⟩ : ∃ u : Nat, (wsP xs k).getD k 0 = u := ⟨_, rfl⟩
    rw [hu9] at oo
    obtain ⟨q, hq⟩ : ∃ q, q = p + 4 := ⟨_, rfl⟩
    have a1 : (4 : Int) * (k : Int) = (p : Int) := by omega
    have a2 : (p : Int) + 4 = (q : Int) := by omega
    have a3 : (q : Int) ≤ (c : Int) := by omega
    have a4 : ¬ (c = p) := by omega
    have a5 : q - p = 4 := by omega
    have a6 : (p : Int) ≤ (q : Int) := by omega
    clear hF hu9 hp hq
    go_wp2_with fail
    refine (fromBe_any _ _ _ _ _ rc).mono ?_
    rintro e w1 ⟨rfl, rfl⟩
    rw [HF.out]
    go_wp2_with fail
    go_roundw
    case rel => exact ⟨k + 1, by omega, by go_num, by rw [setc_rowT R3.out, wsV_set, HS.out], (Below.heap_setCell _ _ _ _ (by simp)).trans R2.out, HB.setCell (p := ⟨w.heap.size + 1, k, none⟩) (by simp) _, by simp [World.setCell]; omega⟩
    case measure => simp [intOf]; omega
   ·have g15 := wsP_get xs k (k - 15) (by omega)
    have g2 := wsP_get xs k (k - 2) (by omega)
    have g7 := wsP_get xs k (k - 7) (by omega)
    have g16 := wsP_get xs k (k - 16) (by omega)
    have cell : ∀ j, j < k → wr.cell? ⟨w.heap.size + 1, j, none⟩ = some (.int .u32 (((shWs xs k).getD j 0 : Nat) : Int)) := fun j hj => by
     rw [← wsP_get xs k j hj]
     exact (cell_of_row wr _ j _ _ _ R3.out).trans (wsV_get _ j (by rw [wsP_len _ _ (by omega)]; omega))
    have hword : shWord xs (shWs xs k) k = shSig (shWs xs k) k := by unfold shWord; rw [if_neg h16]
    have l15 := ws_lt xs k (k - 15)
    have l2 := ws_lt xs k (k - 2)
    have l7 := ws_lt xs k (k - 7)
    have l16 := ws_lt xs k (k - 16)
    have c15 := cell (k - 15) (by omega)
    have c2 := cell (k - 2) (by omega)
    have c7 := cell (k - 7) (by omega)
    have c16 := cell (k - 16) (by omega)
    have hsig : shSig (shWs xs k) k = ((shMix ((shWs xs k).getD (k - 2) 0) [17, 19] ^^^ (shWs xs k).getD (k - 2) 0 / 1024) + ((shWs xs k).getD (k - 7) 0 + (shWs xs k).getD (k - 16) 0 + (shMix ((shWs xs k).getD (k - 15) 0) [7, 18] ^^^ (shWs xs k).getD (k - 15) 0 / 8))) % 4294967296 := rfl
    rw [hword, hsig] at HS
    have old := HOLD.out
    obtain ⟨u9, hu9⟩ : ∃ u : Nat, (wsP xs k).getD k 0 = u := ⟨_, rfl⟩
    rw [hu9] at old
    generalize (shWs xs k).getD (k - 15) 0 = far at *
    generalize (shWs xs k).getD (k - 2) 0 = near at *
    generalize (shWs xs k).getD (k - 7) 0 = s7 at *
    generalize (shWs xs k).getD (k - 16) 0 = s16 at *
    obtain ⟨j15, e15⟩ : ∃ j, j = k - 15 := ⟨_, rfl⟩
    obtain ⟨j2, e2⟩ : ∃ j, j = k - 2 := ⟨_, rfl⟩
    obtain ⟨j7, e7⟩ : ∃ j, j = k - 7 := ⟨_, rfl⟩
    obtain ⟨j16, e16⟩ : ∃ j, j = k - 16 := ⟨_, rfl⟩
    rw [← e15] at c15
    rw [← e2] at c2
    rw [← e7] at c7
    rw [← e16] at c16
    have m15 : (k : Int) - 15 = (j15 : Int) := by omega
    have m2 : (k : Int) - 2 = (j2 : Int) := by omega
    have m7 : (k : Int) - 7 = (j7 : Int) := by omega
    have m16 : (k : Int) - 16 = (j16 : Int) := by omega
    have b15 : j15 < 64 := by omega
    have b2 : j2 < 64 := by omega
    have b7 : j7 < 64 := by omega
    have b16 : j16 < 64 := by omega
    have b15i : (j15 : Int) < 64 := by omega
    have b2i : (j2 : Int) < 64 := by omega
    have b7i : (j7 : Int) < 64 := by omega
    have b16i : (j16 : Int) < 64 := by omega
    have bki : (k : Int) < 64 := by omega
    have w15 := wi64n (k := j15) (by omega)
    have w2 := wi64n (k := j2) (by omega)
    have w7 := wi64n (k := j7) (by omega)
    have w16 := wi64n (k := j16) (by omega)
    have hlt15 : decide ((k : Int) < 16) = false := decide_eq_false (by omega)
    have M1 : shMix near [17, 19] < 4294967296 := shMix_lt l2 _
    have M2 : shMix far [7, 18] < 4294967296 := shMix_lt l15 _
    obtain ⟨n10, hn10⟩ : ∃ n, near / 1024 = n := ⟨_, rfl⟩
    obtain ⟨f3, hf3⟩ : ∃ n, far / 8 = n := ⟨_, rfl⟩
    have q10 : (near : Int) / 1024 = (n10 : Int) := by omega
    have q3 : (far : Int) / 8 = (f3 : Int) := by omega
    rw [hn10, hf3] at HS
    have x1 := u32_xor_nat (shMix near [17, 19]) n10 M1 (by omega)
    have x2 := u32_xor_nat (shMix far [7, 18]) f3 M2 (by omega)
    have X1 := xor_lt32 M1 (show n10 < 4294967296 by omega)
    have hm1 := fun W r => mixed_any near (some ⟨wr.heap.size, 0, none⟩) 2 2 [17, 19] W l2 r rfl (by omega) (by decide)
    have hm2 := fun W A r => mixed_any far A 2 2 [7, 18] W l15 r rfl (by omega) (by decide)
    generalize shMix near [17, 19] = m1 at *
    generalize shMix far [7, 18] = m2 at *
    obtain ⟨T1, hT1⟩ : ∃ n, m1 ^^^ n10 = n := ⟨_, rfl⟩
    obtain ⟨T2, hT2⟩ : ∃ n, m2 ^^^ f3 = n := ⟨_, rfl⟩
    rw [hT1] at x1 X1 HS
    rw [hT2] at x2 HS
    have HM1 := Lib.hid hm1
    have HM2 := Lib.hid hm2
    have HSS := Lib.hid HS.out
    have hg3 : w.heap.size + 1 < wr.heap.size := hz
    clear hm1 hm2 g15 g2 g7 g16 cell hword hsig hu9 e15 e2 e7 e16 hn10 hf3 hT1 hT2 l15 l2 l7 l16 M1 M2 HS
    go_wp2_with fail
    refine wp_region_plan (S := fun w' => Below wr.heap.size wr w') [(0, true), (1, true), (2, true), (3, true), (4, true), (5, true), (6, true), (7, true), (8, true), (9, true)] (by kernel_rfl) (by kernel_rfl) (fun _ _ d _ _ h => by cases d <;> exact h) ((Below.refl _ wr).drew) ?_
    iterate 10 (refine plan_take (v := ?_) rfl (Or.inl ⟨by rfl, ?_⟩) ?_; rotate_left; (focus (intro w' hw'; have jj := (hw'.cell (p := ⟨w.heap.size + 1, j15, none⟩) hg3).trans c15; have jk := (hw'.cell (p := ⟨w.heap.size + 1, j2, none⟩) hg3).trans c2; go_simp <;> with_reducible rfl)); try simp only [Act.put, pst3])
    refine plan_done ?_
    go_wp2_with fail
    refine named ?_
    intro W1 hW1
    have bW1 : Below wr.heap.size wr W1 := by rw [hW1]; repeat' (first | exact Below.refl _ _ | (refine Below.alloc ?_ ?_ _; rotate_left; (simp <;> omega)) | refine Below.drew ?_)
    have zW1 := bW1.size
    have HW1 := Lib.hid hW1
    clear hW1
    have rI : Rd W1 (some ⟨wr.heap.size, 0, none⟩) ([17, 19].map vI) := by rw [HW1.out]; exact Rd.new wr.drew #[.int .i64 17, .int .i64 19] _
    refine (HM1.out W1 rI).mono ?_
    rintro e v2 ⟨rfl, hv2⟩
    have B2 := below_then bW1 hv2
    have o2 := (B2.cell (p := ⟨w.heap.size + 1, k, none⟩) hg3).trans old
    have f2 := (B2.frozen (p := ⟨w.heap.size + 1, k, none⟩) hg3).trans frz
    have R32 := Lib.hid ((B2.block _ hg3).trans R3.out)
    go_wp2_with fail
    obtain ⟨V, hV⟩ : ∃ V, V = v2.setCell ⟨w.heap.size + 1, k, none⟩ (.int .u32 (T1 : Int)) := ⟨_, rfl⟩
    rw [← hV]
    have oV : V.cell? ⟨w.heap.size + 1, k, none⟩ = some (.int .u32 (T1 : Int)) := by rw [hV]; exact World.cell?_setCell_same _ _ _ o2
    have fV : V.frozen? ⟨w.heap.size + 1, k, none⟩ = false := by rw [hV, World.frozen?_setCell]; exact f2
    have rowV : V.heap[w.heap.size + 1]? = some (.cells (wsV ((wsP xs k).set k T1)) 166 (0, 0)) := by rw [hV, setc_rowT R32.out, wsV_set]
    have row2V : V.heap[w.heap.size]? = some (.cells (wsV z64) 166 (0, 0)) := by rw [hV]; exact (Below.heap_setCell _ _ _ _ (by simp)).trans ((B2.block _ (by omega)).trans R2.out)
    have BV : Below w.heap.size w V := by rw [hV]; exact (HB.trans (B2.mono HB.size)).setCell (p := ⟨w.heap.size + 1, k, none⟩) (by simp) _
    have zV : w.heap.size + 1 < V.heap.size := by rw [hV]; have := B2.size; simp [World.setCell]; omega
    have c7V : V.cell? ⟨w.heap.size + 1, j7, none⟩ = some (.int .u32 (s7 : Int)) := by rw [hV]; exact scell_off (by omega) ((B2.cell (p := ⟨w.heap.size + 1, j7, none⟩) hg3).trans c7)
    have c16V : V.cell? ⟨w.heap.size + 1, j16, none⟩ = some (.int .u32 (s16 : Int)) := by rw [hV]; exact scell_off (by omega) ((B2.cell (p := ⟨w.heap.size + 1, j16, none⟩) hg3).trans c16)
    have ROWV := Lib.hid rowV
    have ROW2V := Lib.hid row2V
    clear hV rowV row2V o2 f2 c15 c2 c7 c16 old frz
    refine wp_region_last (S := fun w' => Below V.heap.size V w') 21 (brw9 22 2097151) [(0, true), (1, true), (2, true), (3, true), (4, true), (5, true), (6, true), (7, true), (8, true), (9, true), (10, true), (11, true), (12, true), (15, true), (16, true), (13, false), (14, false), (17, true), (18, true), (19, true), (20, true)] (by kernel_rfl) (by kernel_rfl) (fun _ _ d _ _ h => by cases d <;> exact h) ((Below.refl _ V).drew) ?_
    iterate 15 (refine seg_take (v := ?_) rfl (Or.inl ⟨by rfl, ?_⟩) ?_; rotate_left; (focus (intro w' hw'; have jj := (hw'.cell (p := ⟨w.heap.size + 1, k, none⟩) zV).trans oV; have jk := (hw'.cell (p := ⟨w.heap.size + 1, j7, none⟩) zV).trans c7V; have jl := (hw'.cell (p := ⟨w.heap.size + 1, j16, none⟩) zV).trans c16V; go_simp <;> with_reducible rfl)); try simp only [Act.put, pst3])
    refine seg_run rfl (fun K hK => ?_)
    rw [if_pos (by rfl)]
    have HB8 := (Below.refl V.heap.size V).drew
    refine op_lit #[.int .i64 7, .int .i64 18] 3 2 rfl (fun w => by go_simp) ?_
    intro gI wI eI hIrow HIb hIsz
    have HB9 := below_then HB8 HIb
    have rI := rdsAt hIrow
    refine hK.out _ _ (HB9) ?_
    clear hK
    try simp only [Act.put, pst3]
    refine seg_run rfl (fun K hK => ?_)
    go_simp
    refine (HM2.out wI _ rI).mono ?_
    rintro e v5 ⟨rfl, hv5⟩
    have HB7 := below_then HB9 hv5
    refine hK.out _ _ (HB7) ?_
    clear hK
    try simp only [Act.put, pst3]
    iterate 4 (refine seg_take (v := ?_) rfl (Or.inl ⟨by rfl, ?_⟩) ?_; rotate_left; (focus (intro w' hw'; have jj := (hw'.cell (p := ⟨w.heap.size + 1, k, none⟩) zV).trans oV; have jk := (hw'.cell (p := ⟨w.heap.size + 1, j7, none⟩) zV).trans c7V; have jl := (hw'.cell (p := ⟨w.heap.size + 1, j16, none⟩) zV).trans c16V; go_simp <;> with_reducible rfl)); try simp only [Act.put, pst3])
    refine seg_done ?_
    refine last_run rfl (fun K hK => ?_)
    go_simp
    have o5 := (HB7.cell (p := ⟨w.heap.size + 1, k, none⟩) zV).trans oV
    have f5 := (HB7.frozen (p := ⟨w.heap.size + 1, k, none⟩) zV).trans fV
    go_simp
    refine hK.out _ _ ?_
    clear hK
    try simp only [Act.put, pst3]
    have z5 := HB7.size
    have hraw : ((T1 : Int) + (((s7 : Int) + (s16 : Int)) % 4294967296 + (T2 : Int)) % 4294967296) % 4294967296 = (((T1 + (s7 + s16 + T2)) % 4294967296 : Nat) : Int) := by omega
    have HRAW := Lib.hid hraw
    have ROW5 := Lib.hid ((HB7.block _ zV).trans ROWV.out)
    have ROW25 := Lib.hid ((HB7.block _ (by omega)).trans ROW2V.out)
    clear hraw o5 f5
    go_wp2_with fail
    go_roundw
    case rel => exact ⟨k + 1, by omega, by go_num, by rw [setc_rowT ROW5.out, HRAW.out, wsV_set, List.set_set, HSS.out], (Below.heap_setCell _ _ _ _ (by simp)).trans ROW25.out, (BV.trans (HB7.mono BV.size)).setCell (p := ⟨w.heap.size + 1, k, none⟩) (by simp) _, by simp [World.setCell]; omega⟩
    case measure => simp [intOf]; omega
  ·obtain rfl : k = 64 := by omega
   rw [wsP_all] at r3
   have R3 := Lib.hid r3
   have R2 := Lib.hid r2
   have hl := Lib.hid (shWs_len xs 64)
   clear r3 r2
   go_wp2_with (first
    | (refine w64_load rfl _ rfl (w.heap.size + 1) rfl (shWs xs 64) 166 R3.out hl.out ?_)
    | (refine w64_store rfl _ _ rfl w.heap.size rfl (shWs xs 64) z64 rfl 166 R2.out hl.out rfl ?_))
   refine bodyPost_ret (results_cell_row Tryz.results139 _ _ w.heap.size 166 (wsV (shWs xs 64)) (0, 0) _ rfl (setRow_heap _ _ _ (wsV (shWs xs 64)) _ _ R2.out) Tryz.underlying166 rfl (info64 _ hl.out)) rfl ?_
   exact ⟨rfl, below_setRow HB (Nat.le_refl _) _⟩
theorem shaWords_any (A : Option Addr) (n c : Nat) (xs : List UInt8) (w : World) (hr : RdB w A n c xs) : Calls Tryz.prog 139 #[.slice A n c] w (RetW w (shWords xs)) := by
 by_cases h : n = 64
 ·subst h; exact shaWords_long A c xs w hr
 ·exact shaWords_short A n c xs w hr h
set_option maxHeartbeats 8000000
theorem info8 (ws : List Nat) (h : ws.length = 8) : (Tryz.prog.info? 137).map (·.size) = some (wsV ws).size := by rw [wsV_size, h]; kernel_rfl
def z8 : List Nat := [0, 0, 0, 0, 0, 0, 0, 0]
section
variable {ops : Array Oper} {rest : List Oper} {o : Oper} {a : Act} {w : World} {Q : Exit → Act → World → Prop}
theorem w8_load (hgd : o.guard = none) (x : Operand) (ho : o.op = .load 137 x) (h : Nat) (hx : a.eval x = .pointer (some ⟨h, 0, none⟩)) (y : List Nat) (T : TypeId) (hrow : w.heap[h]? = some (.cells (wsV y) T (0, 0))) (hl : y.length = 8)
  (hK : wpList Tryz.prog ops Q rest (a.put o.dst (.agg (wsV y))) w) : wpList Tryz.prog ops Q (o :: rest) a w :=
 wpList_load_row hgd 137 x ho h hx T (wsV y) (0, 0) _ hrow Tryz.underlying137 rfl (info8 y hl) hK
theorem w8_store (hgd : o.guard = none) (x z : Operand) (ho : o.op = .store 137 x z) (h : Nat) (hx : a.eval x = .pointer (some ⟨h, 0, none⟩)) (y old : List Nat) (hz : a.eval z = .agg (wsV y)) (T : TypeId) (hrow : w.heap[h]? = some (.cells (wsV old) T (0, 0))) (hl : y.length = 8) (ho2 : old.length = 8)
  (hK : wpList Tryz.prog ops Q rest (a.put o.dst undef) (w.setRow h (wsV y))) : wpList Tryz.prog ops Q (o :: rest) a w :=
 wpList_store_row hgd 137 x z ho h (wsV y) hx hz T (wsV old) hrow (info8 y hl) (by rw [wsV_size, wsV_size, hl, ho2]) (wsV_one y) hK
end
theorem H8.len (x : H8) : x.l.length = 8 := rfl
theorem index64 (ws : List Nat) (h : ws.length = 64) (k : Nat) (hk : k < 64) (W : World) : (Instr.index 166 (.agg (wsV ws)) (.int .i64 (k : Int))).run Tryz.prog W = .ok (.int .u32 ((ws.getD k 0 : Nat) : Int)) W := by
 have hs : ∃ i, Tryz.prog.info? 28 = some i ∧ i.size = 1 := by
  have : (Tryz.prog.info? 28).map (·.size) = some 1 := by kernel_rfl
  cases hq : Tryz.prog.info? 28 with
  | none => rw [hq] at this; cases this
  | some i => rw [hq] at this; exact ⟨i, rfl, by simpa using this⟩
 obtain ⟨i, hi, hsz⟩ := hs
 have hk2 : (k : Int) < 64 := by omega
 have hg := wsV_get ws k (by omega)
 have hagg : (isAgg 28).run Tryz.prog W = .ok false W := by
  unfold isAgg
  rw [Sem.run_bind, run_underlying Tryz.underlying28 W]
  rfl
 have hg2 : (wsV ws)[k]! = .int .u32 ((ws.getD k 0 : Nat) : Int) := by
  rw [getElem!_def, hg]
 simp [Instr.index, asIntOf, run_underlying Tryz.underlying166, hk2, sizeOf, typeInfo, hi, hsz, part, hagg, hg, hg2]
 intro h9
 omega
def adP (x y : H8) (k : Nat) : List Nat := (x.add y).l.take k ++ x.l.drop k
theorem adP_zero (x y : H8) : adP x y 0 = x.l := by simp [adP]
theorem adP_all (x y : H8) : adP x y 8 = (x.add y).l := by simp [adP, H8.l]
theorem adP_len (x y : H8) (k : Nat) (h : k ≤ 8) : (adP x y k).length = 8 := by simp [adP, H8.l]; omega
theorem adP_step (x y : H8) (k : Nat) (h : k < 8) : (adP x y k).getD k 0 = x.l.getD k 0 ∧ (adP x y k).set k ((x.l.getD k 0 + y.l.getD k 0) % 4294967296) = adP x y (k + 1) := by
 match k, h with
 | 0, _ | 1, _ | 2, _ | 3, _ | 4, _ | 5, _ | 6, _ | 7, _ => exact ⟨rfl, rfl⟩
theorem H8.l_lt {x : H8} (h : x.ok) (k : Nat) : x.l.getD k 0 < 4294967296 := by
 obtain ⟨h1, h2, h3, h4, h5, h6, h7, h8⟩ := h
 match k with
 | 0 => exact h1
 | 1 => exact h2
 | 2 => exact h3
 | 3 => exact h4
 | 4 => exact h5
 | 5 => exact h6
 | 6 => exact h7
 | 7 => exact h8
 | k + 8 => simp [H8.l, List.getD]
end Go.Proofs.YtpahicfnhhhifaaGreat
