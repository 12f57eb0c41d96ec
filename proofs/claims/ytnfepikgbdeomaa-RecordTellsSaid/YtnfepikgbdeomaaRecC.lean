/-
  Layer 12: records: Put.
-/
import Derived.Test.YtnfepikgbdeomaaRecB
import Derived.Test.YtnfepikgbdeomaaCrcC
import Derived.Test.YtnfepikgbdeomaaOpsC
namespace Go.Proofs.Ytnfepikgbdeomaa
set_option maxRecDepth 20000
open Go.RowKit
set_option linter.unusedVariables false
set_option linter.unusedSimpArgs false
set_option maxHeartbeats 4000000

theorem rcInfo (r : Rc) (A : Option Addr) (n c : Nat) (hD : r.D.length = 32) : (Try.prog.info? 69).map (·.size) = some (rcV r A n c).toArray.size := by
  rw [List.size_toArray, rcV_len r A n c hD]; kernel_rfl
theorem load_rc {w : World} {h : Nat} {r : Rc} {A : Option Addr} {n c : Nat} (q : RcAt w h r A n c) (hD : r.D.length = 32) : (loadVar 69 ⟨h, 0, none⟩).run Try.prog w = .ok (.agg (rcV r A n c).toArray) w :=
  run_loadVar_row w h _ 69 _ _ _ q Try.underlying69 rfl (rcInfo r A n c hD)
theorem rex_load {P : Program} {o : Oper} {a : Act} {w : World} {ty : TypeId} {x : Operand} {p : Addr} {v : Value} (ho : o.op = .load ty x) (hx : a.eval x = .pointer (some p)) (hl : (loadVar ty p).run P w = .ok v w) : (execOp a.eval o).run P w = .ok (.value v) w := by
  unfold execOp
  simp only [ho, hx, Instr.loadAt, Instr.sureAddr, Sem.run_bind, Sem.run_pure, Result.andThen_ok, hl]
theorem recPut_no (r : Rc) (A : Option Addr) (n c : Nat) (w : World) (hr : RdB w A n c r.b) (hchk : r.chk = false) :
    Calls Try.prog 37 #[.agg (rcV r A n c).toArray] w (RetBE w [] 2) := by
  have hn := hr.n63
  have hl := hr.2.1
  obtain ⟨V, hV⟩ : ∃ V, V = w.alloc (.cells (rcV r A n c).toArray 69) := ⟨_, rfl⟩
  have bV : Below w.heap.size w V := by rw [hV]; exact (below_self w).alloc (Nat.le_refl _) _
  have q : RcAt V w.heap.size r A n c := by rw [hV]; exact rw_at _ rfl
  have hc := recCheck_any r.t r.k r.c A n c V hn
  rw [show rcChk r.k r.c n = false by rw [← hl]; exact hchk] at hc
  have a3 := q.c3
  have a4 := q.c4
  have a5 := q.c5
  have a6 := q.c6
  rw [hV] at a3 a4 a5 a6
  have HC := Lib.hid hc
  have HV := Lib.hid hV
  obtain ⟨RV, hRV⟩ : ∃ z, z = (rcV r A n c).toArray := ⟨_, rfl⟩
  rw [← hRV] at HV a3 a4 a5 a6 ⊢
  clear hV hc q hRV hchk
  go_enter Try.func37, Try.ntmps37
  go_wp2_with fail
  rw [← HV.out]
  refine HC.out.mono ?_
  rintro e w2 ⟨rfl, hb2⟩
  clear a3 a4 a5 a6
  go_wp2
  go_ret2
  exact ⟨none, 0, 0, rfl, OwnB.nilB _ _, below_then bV hb2⟩
theorem recPut_yes (r : Rc) (A : Option Addr) (n c : Nat) (w : World) (hok : r.ok) (hr : RdB w A n c r.b) (hchk : r.chk = true) :
    Calls Try.prog 37 #[.agg (rcV r A n c).toArray] w (RetBE w (rcL r) 0) := by
  have hn := hr.n63
  have hl := hr.2.1
  have hD := hok.2.2.2.2.2.2
  have hb186 := (rcChk_len hchk).1
  obtain ⟨V, hV⟩ : ∃ V, V = w.alloc (.cells (rcV r A n c).toArray 69) := ⟨_, rfl⟩
  have bV : Below w.heap.size w V := by rw [hV]; exact (below_self w).alloc (Nat.le_refl _) _
  have q : RcAt V w.heap.size r A n c := by rw [hV]; exact rw_at _ rfl
  have hc := recCheck_any r.t r.k r.c A n c V hn
  rw [show rcChk r.k r.c n = true by rw [← hl]; exact hchk] at hc
  have a3 := q.c3
  have a4 := q.c4
  have a5 := q.c5
  have a6 := q.c6
  rw [hV] at a3 a4 a5 a6
  have HC := Lib.hid hc
  have HV := Lib.hid hV
  have Q := Lib.hid q
  have HLn := Lib.hid (fun W (h : RdB W A n c r.b) => recLinked_any r A n c W hok hchk h)
  have hfl : ([rcBody r, r.D] : List (List UInt8)).flatten.length = 252 := by simp [rcBody_len r (by omega), hD]
  have HFL := Lib.hid hfl
  have HLD := Lib.hid hD
  obtain ⟨RV, hRV⟩ : ∃ z, z = (rcV r A n c).toArray := ⟨_, rfl⟩
  have HRV := Lib.hid hRV
  rw [← hRV] at HV a3 a4 a5 a6 HLn ⊢
  clear hV hc q hRV hchk hfl hok hD
  go_enter Try.func37, Try.ntmps37
  go_wp2_with fail
  rw [← HV.out]
  refine HC.out.mono ?_
  rintro e w2 ⟨rfl, hb2⟩
  have B2 := below_then bV hb2
  have Q2 := Lib.hid (Q.out.up hb2)
  clear a3 a4 a5 a6
  go_wp2_with fail
  refine wp_region_seg (S := fun w' => Below w2.heap.size w2 w') 0 #[true, true, true, true, true, true, true, true, true] [(0, true), (2, true), (3, true), (1, false), (4, false), (5, false), (6, false), (7, true), (8, true)] (by kernel_rfl) (by kernel_rfl) (fun _ _ d _ _ h => by first | (cases d <;> exact h) | cases h.1) ((Below.refl w2.heap.size w2).drew) ?_
  have HB := (Below.refl w2.heap.size w2).drew
  refine seg_take (v := .agg RV) rfl (Or.inl ⟨by rfl, fun w' hw' => ?_⟩) ?_
  focus (exact rex_load rfl rfl (HRV.out ▸ load_rc (rw_up Q2.out hw') HLD.out))
  try simp only [Act.put, List.setIfInBounds_toArray, List.set_cons_zero, List.set_cons_succ]
  iterate 2 (refine seg_take (v := ?_) rfl (Or.inl ⟨by rfl, ?_⟩) ?_; rotate_left; (focus (intro w' hw'; go_simp <;> with_reducible rfl)); try simp only [Act.put, List.setIfInBounds_toArray, List.set_cons_zero, List.set_cons_succ])
  refine seg_run rfl (fun K hK => ?_)
  go_simp
  refine (HLn.out _ (hr.below (below_then B2 HB))).mono ?_
  rintro e_ w3 ⟨gb, rfl, rb, lgb, hb3⟩
  have HB := below_then HB hb3
  refine hK.out _ _ (HB) ?_
  clear hK
  try simp only [Act.put, List.setIfInBounds_toArray, List.set_cons_zero, List.set_cons_succ]
  refine seg_run rfl (fun K hK => ?_)
  rw [if_pos (by rfl)]
  refine op_lit #[.slice (some ⟨gb, 0, none⟩) 220 220, .slice (some ⟨w.heap.size, 7, none⟩) 32 32] 26 2 rfl (fun w => by go_simp) ?_
  intro gP wP eP hProw HPb hPsz
  have HB := below_then HB HPb
  have rb := rb.below HPb
  have rP := rdsAt hProw
  clear hProw
  refine hK.out _ _ (HB) ?_
  clear hK
  try simp only [Act.put, List.setIfInBounds_toArray, List.set_cons_zero, List.set_cons_succ]
  refine seg_run rfl (fun K hK => ?_)
  go_simp
  refine (concat_any _ 2 2 _ [rcBody r, r.D] _ rP rfl (by omega) ⟨⟨_, _, _, rfl, rb⟩, ⟨_, _, _, rfl, (Q2.out.dig HLD.out).below HB⟩, trivial⟩ (by rw [HFL.out]; omega)).mono ?_
  rintro e_ wJ ⟨AJ, nJ, cJ, rfl, oJ, HJb⟩
  have HB := below_then HB HJb
  obtain rfl : nJ = 252 := by rw [← oJ.len, HFL.out]
  refine hK.out _ _ (HB) ?_
  clear hK
  try simp only [Act.put, List.setIfInBounds_toArray, List.set_cons_zero, List.set_cons_succ]
  refine seg_run rfl (fun K hK => ?_)
  go_simp
  refine (closed_any AJ 252 cJ _ _ oJ.rd (by omega)).mono ?_
  rintro e_ wC ⟨AC, nC, cC, rfl, oC, HCb⟩
  have HB0 := HB.size
  have HB := below_then HB HCb
  refine hK.out _ _ (HB) ?_
  clear hK
  try simp only [Act.put, List.setIfInBounds_toArray, List.set_cons_zero, List.set_cons_succ]
  iterate 2 (refine seg_take (v := ?_) rfl (Or.inl ⟨by rfl, ?_⟩) ?_; rotate_left; (focus (intro w' hw'; go_simp <;> with_reducible rfl)); try simp only [Act.put, List.setIfInBounds_toArray, List.set_cons_zero, List.set_cons_succ])
  refine seg_done (fun _ => ?_)
  refine wpAnyH_done (by kernel_rfl) ?_ _
  go_wp2
  go_ret2
  have zz := B2.size
  refine ⟨_, _, _, rfl, ?_, below_then B2 HB⟩
  have e : crcClosed ([rcBody r, r.D] : List (List UInt8)).flatten = rcL r := by unfold rcL; simp
  rw [← e]
  exact OwnB.mono oC (by omega)
theorem recPut_any (r : Rc) (A : Option Addr) (n c : Nat) (w : World) (hok : r.ok) (hr : RdB w A n c r.b) :
    Calls Try.prog 37 #[.agg (rcV r A n c).toArray] w (RetBE w (rcPutL r) (rcPutE r)) := by
  unfold rcPutL rcPutE
  cases h : r.chk with
  | false => rw [if_neg (by decide), if_neg (by decide)]; exact recPut_no r A n c w hr h
  | true => rw [if_pos rfl, if_pos rfl]; exact recPut_yes r A n c w hok hr h
end Go.Proofs.Ytnfepikgbdeomaa
