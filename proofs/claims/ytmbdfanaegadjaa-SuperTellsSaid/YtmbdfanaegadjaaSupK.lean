/-
  Layer 13: the law's heads.
-/
import Derived.Test.YtmbdfanaegadjaaSupI
namespace Go.Proofs.Ytmbdfanaegadjaa
set_option maxRecDepth 20000
open Go.RowKit
set_option linter.unusedVariables false
set_option linter.unusedSimpArgs false
set_option maxHeartbeats 8000000

def D7 : List UInt8 := 7 :: List.replicate 31 0
def S4 : Su := ⟨4, 1, 300, D7⟩
def S3 : Su := ⟨3, 0, 20, List.replicate 32 0⟩
theorem S4_v : S4.v = #[.int .u32 4, .int .i64 1, .int .i64 300, .int .u8 7, .int .u8 0, .int .u8 0, .int .u8 0, .int .u8 0, .int .u8 0, .int .u8 0, .int .u8 0, .int .u8 0, .int .u8 0, .int .u8 0, .int .u8 0, .int .u8 0, .int .u8 0, .int .u8 0, .int .u8 0, .int .u8 0, .int .u8 0, .int .u8 0, .int .u8 0, .int .u8 0, .int .u8 0, .int .u8 0, .int .u8 0, .int .u8 0, .int .u8 0, .int .u8 0, .int .u8 0, .int .u8 0, .int .u8 0, .int .u8 0, .int .u8 0] := by rfl
theorem S3_v : S3.v = #[.int .u32 3, .int .i64 0, .int .i64 20, .int .u8 0, .int .u8 0, .int .u8 0, .int .u8 0, .int .u8 0, .int .u8 0, .int .u8 0, .int .u8 0, .int .u8 0, .int .u8 0, .int .u8 0, .int .u8 0, .int .u8 0, .int .u8 0, .int .u8 0, .int .u8 0, .int .u8 0, .int .u8 0, .int .u8 0, .int .u8 0, .int .u8 0, .int .u8 0, .int .u8 0, .int .u8 0, .int .u8 0, .int .u8 0, .int .u8 0, .int .u8 0, .int .u8 0, .int .u8 0, .int .u8 0, .int .u8 0] := by rfl
theorem X2_v : suV 0 2 0 (List.replicate 32 0) = #[.int .u32 0, .int .i64 2, .int .i64 0, .int .u8 0, .int .u8 0, .int .u8 0, .int .u8 0, .int .u8 0, .int .u8 0, .int .u8 0, .int .u8 0, .int .u8 0, .int .u8 0, .int .u8 0, .int .u8 0, .int .u8 0, .int .u8 0, .int .u8 0, .int .u8 0, .int .u8 0, .int .u8 0, .int .u8 0, .int .u8 0, .int .u8 0, .int .u8 0, .int .u8 0, .int .u8 0, .int .u8 0, .int .u8 0, .int .u8 0, .int .u8 0, .int .u8 0, .int .u8 0, .int .u8 0, .int .u8 0] := by rfl
def b4 : List UInt8 := suPutL 4 1 300 D7
def b3 : List UInt8 := suPutL 3 0 20 (List.replicate 32 0)
theorem b4_get : suGetE b4 = 0 ∧ suGet b4 = S4 := suGet_put 4 1 300 D7 (by omega) (by decide) rfl
theorem b3_get : suGetE b3 = 0 ∧ suGet b3 = S3 := suGet_put 3 0 20 _ (by omega) (by decide) rfl
theorem b4_good (h : Nat) : suGood b4 h = decide (4 % 2 = h) := suGood_put 4 1 300 D7 (by omega) (by decide) rfl h
theorem b3_good (h : Nat) : suGood b3 h = decide (3 % 2 = h) := suGood_put 3 0 20 _ (by omega) (by decide) rfl h
theorem nil_good (h : Nat) : suGood [] h = false := decide_eq_false (fun h => by have := h.1; unfold suGetE at this; simp at this)
theorem ch43 : suChE b4 b3 = 0 ∧ suCh b4 b3 = S4 := by
  unfold suChE suCh
  rw [b4_good, b3_good, b4_get.2, b3_get.2]
  decide
theorem ch33 : suChE b3 b3 = 0 ∧ suCh b3 b3 = S3 := by
  unfold suChE suCh
  rw [b3_good, b3_good, b3_get.2]
  decide
theorem ch34 : suChE b3 b4 = 7 ∧ suCh b3 b4 = suZ := by
  unfold suChE suCh
  rw [b4_good, b3_good, b4_get.2, b3_get.2]
  decide
theorem ch03 : suChE [] b3 = 0 ∧ suCh [] b3 = S3 := by
  unfold suChE suCh
  rw [nil_good, b3_good, b3_get.2]
  simp
theorem b4_take : b4.take 4 = [80, 72, 83, 66] := by
  unfold b4 suPutL
  rw [if_pos (by decide)]
  unfold suL crcClosed
  rw [List.take_append_of_le_length (by rw [suB_len _ _ _ _ rfl]; omega)]
  rfl
theorem b4_len : b4.length = 256 := by unfold b4 suPutL; rw [if_pos (by decide), suL_len _ _ _ _ rfl]
theorem upon_congr {P : Program} {o : Oper} {a : Act} {K : Act → World → Prop} {Q : Exit → Act → World → Prop} {r r' : Result Next} (h : r = r') (hu : Oper.upon P o a K Q r') : Oper.upon P o a K Q r := by rw [h]; exact hu
def D7c : Array Value := #[.int .u8 7, .int .u8 0, .int .u8 0, .int .u8 0, .int .u8 0, .int .u8 0, .int .u8 0, .int .u8 0, .int .u8 0, .int .u8 0, .int .u8 0, .int .u8 0, .int .u8 0, .int .u8 0, .int .u8 0, .int .u8 0, .int .u8 0, .int .u8 0, .int .u8 0, .int .u8 0, .int .u8 0, .int .u8 0, .int .u8 0, .int .u8 0, .int .u8 0, .int .u8 0, .int .u8 0, .int .u8 0, .int .u8 0, .int .u8 0, .int .u8 0, .int .u8 0]
/-- A digest that lies in a head, loaded behind a guard. -/
theorem dig_loadG {ops : Array Oper} {rest : List Oper} {o : Oper} {a : Act} {w : World} {Q : Exit → Act → World → Prop} (hw : Region.wanted o (yielded ops a.tmps) = true) (x : Operand) (ho : o.op = .load 24 x) (h : Nat) (hx : a.eval x = .pointer (some ⟨h, 3, none⟩)) (y : Su) (hrow : w.heap[h]? = some (.cells y.v 26 (0, 0))) (hl : y.D.length = 32) (C : Array Value) (hC : (y.D.map vB).toArray = C)
    (hK : wpList Try.prog ops Q rest (a.put o.dst (.agg C)) w) : wpList Try.prog ops Q (o :: rest) a w := by
  subst hC
  refine wpList_unguard hw (wpList_plain rfl fun K hKK => ?_)
  have := ex_load (P := Try.prog) (o := { o with guard := none }) (a := a) (w := w) ho hx (load_dig (suDig hrow hl) hl)
  unfold Oper.wp
  rw [this]
  exact hKK _ _ hK
theorem heads13 (w : World) : Calls Try.prog 15 #[] w (RetV w (.bool true)) := by
  have qd : ∀ W : World, (binOp .eql 24 (.agg D7c) (.agg #[.int .u8 7, .int .u8 0, .int .u8 0, .int .u8 0, .int .u8 0, .int .u8 0, .int .u8 0, .int .u8 0, .int .u8 0, .int .u8 0, .int .u8 0, .int .u8 0, .int .u8 0, .int .u8 0, .int .u8 0, .int .u8 0, .int .u8 0, .int .u8 0, .int .u8 0, .int .u8 0, .int .u8 0, .int .u8 0, .int .u8 0, .int .u8 0, .int .u8 0, .int .u8 0, .int .u8 0, .int .u8 0, .int .u8 0, .int .u8 0, .int .u8 0, .int .u8 0])).run Try.prog W = .ok (.bool true) W := fun W => by
    have := run_eql_digest W D7 D7 rfl rfl
    rw [decide_eq_true rfl] at this
    exact this
  have QD := Lib.hid qd
  clear qd
  go_enter Try.func15, Try.ntmps15
  go_wp2_with fail
  have hh := suPut_any 4 1 300 D7 w (by omega) (by omega) rfl
  rw [show suPutE 1 300 = 0 from rfl, show suPutL 4 1 300 D7 = b4 from rfl, show suV 4 1 300 D7 = #[.int .u32 4, .int .i64 1, .int .i64 300, .int .u8 7, .int .u8 0, .int .u8 0, .int .u8 0, .int .u8 0, .int .u8 0, .int .u8 0, .int .u8 0, .int .u8 0, .int .u8 0, .int .u8 0, .int .u8 0, .int .u8 0, .int .u8 0, .int .u8 0, .int .u8 0, .int .u8 0, .int .u8 0, .int .u8 0, .int .u8 0, .int .u8 0, .int .u8 0, .int .u8 0, .int .u8 0, .int .u8 0, .int .u8 0, .int .u8 0, .int .u8 0, .int .u8 0, .int .u8 0, .int .u8 0, .int .u8 0] from rfl] at hh
  refine hh.mono ?_
  clear hh
  rintro e w1 ⟨A1, n1, c1, rfl, ho1, hb1⟩
  generalize Value.agg #[.int .u32 4, .int .i64 1, .int .i64 300, .int .u8 7, .int .u8 0, .int .u8 0, .int .u8 0, .int .u8 0, .int .u8 0, .int .u8 0, .int .u8 0, .int .u8 0, .int .u8 0, .int .u8 0, .int .u8 0, .int .u8 0, .int .u8 0, .int .u8 0, .int .u8 0, .int .u8 0, .int .u8 0, .int .u8 0, .int .u8 0, .int .u8 0, .int .u8 0, .int .u8 0, .int .u8 0, .int .u8 0, .int .u8 0, .int .u8 0, .int .u8 0, .int .u8 0, .int .u8 0, .int .u8 0, .int .u8 0] = v19
  generalize Value.agg #[.int .u8 7, .int .u8 0, .int .u8 0, .int .u8 0, .int .u8 0, .int .u8 0, .int .u8 0, .int .u8 0, .int .u8 0, .int .u8 0, .int .u8 0, .int .u8 0, .int .u8 0, .int .u8 0, .int .u8 0, .int .u8 0, .int .u8 0, .int .u8 0, .int .u8 0, .int .u8 0, .int .u8 0, .int .u8 0, .int .u8 0, .int .u8 0, .int .u8 0, .int .u8 0, .int .u8 0, .int .u8 0, .int .u8 0, .int .u8 0, .int .u8 0, .int .u8 0] = v18
  obtain rfl : n1 = 256 := by rw [← ho1.len, b4_len]
  go_wp2_with fail
  have hh := suPut_any 3 0 20 (List.replicate 32 0) w1 (by omega) (by omega) rfl
  rw [show suPutE 0 20 = 0 from rfl, show suPutL 3 0 20 (List.replicate 32 0) = b3 from rfl, show suV 3 0 20 (List.replicate 32 0) = #[.int .u32 3, .int .i64 0, .int .i64 20, .int .u8 0, .int .u8 0, .int .u8 0, .int .u8 0, .int .u8 0, .int .u8 0, .int .u8 0, .int .u8 0, .int .u8 0, .int .u8 0, .int .u8 0, .int .u8 0, .int .u8 0, .int .u8 0, .int .u8 0, .int .u8 0, .int .u8 0, .int .u8 0, .int .u8 0, .int .u8 0, .int .u8 0, .int .u8 0, .int .u8 0, .int .u8 0, .int .u8 0, .int .u8 0, .int .u8 0, .int .u8 0, .int .u8 0, .int .u8 0, .int .u8 0, .int .u8 0] from rfl] at hh
  refine hh.mono ?_
  clear hh
  rintro e w2 ⟨A2, n2, c2, rfl, ho2, hb2⟩
  generalize Value.agg #[.int .u32 3, .int .i64 0, .int .i64 20, .int .u8 0, .int .u8 0, .int .u8 0, .int .u8 0, .int .u8 0, .int .u8 0, .int .u8 0, .int .u8 0, .int .u8 0, .int .u8 0, .int .u8 0, .int .u8 0, .int .u8 0, .int .u8 0, .int .u8 0, .int .u8 0, .int .u8 0, .int .u8 0, .int .u8 0, .int .u8 0, .int .u8 0, .int .u8 0, .int .u8 0, .int .u8 0, .int .u8 0, .int .u8 0, .int .u8 0, .int .u8 0, .int .u8 0, .int .u8 0, .int .u8 0, .int .u8 0] = v24
  have r1 := ho1.rd.below hb2
  have r2 := ho2.rd
  go_wp2_with fail
  have hh := suGet_any A1 256 c1 b4 w2 r1
  rw [b4_get.1, b4_get.2] at hh
  obtain ⟨v6, hv6⟩ : ∃ v : Value, v = .int .i64 0 := ⟨_, rfl⟩
  have Hv6 := Lib.hid hv6
  unfold RetSu at hh
  rw [← hv6] at hh
  clear hv6
  refine hh.mono ?_
  clear hh
  rintro e u3 ⟨rfl, hb3⟩
  have HAV3 := Lib.hid (allocZ u3)
  go_wp2_with (refine su_store rfl _ _ rfl u3.heap.size rfl S4 suZ rfl HAV3.out rfl suZ_len ?_; obtain ⟨V3, hV⟩ : ∃ V, V = (u3.alloc (.cells #[.int .u32 0, .int .i64 0, .int .i64 0, .int .u8 0, .int .u8 0, .int .u8 0, .int .u8 0, .int .u8 0, .int .u8 0, .int .u8 0, .int .u8 0, .int .u8 0, .int .u8 0, .int .u8 0, .int .u8 0, .int .u8 0, .int .u8 0, .int .u8 0, .int .u8 0, .int .u8 0, .int .u8 0, .int .u8 0, .int .u8 0, .int .u8 0, .int .u8 0, .int .u8 0, .int .u8 0, .int .u8 0, .int .u8 0, .int .u8 0, .int .u8 0, .int .u8 0, .int .u8 0, .int .u8 0, .int .u8 0] 26)).setRow u3.heap.size S4.v := ⟨_, rfl⟩; rw [← hV]; obtain ⟨hrV3, hbV3, hzV3⟩ := storedZ _ hV; have hlV3 := Nat.le_of_eq hzV3; have hgV3 := Nat.le_of_eq hzV3.symm; have HRV3 := Lib.hid hrV3; clear hV hzV3 hrV3)
  have r13 := r1.below (below_then hb3 hbV3)
  have r23 := r2.below (below_then hb3 hbV3)
  have hh := suChoose_any A1 256 c1 b4 A2 n2 c2 b3 V3 (r13) (r23)
  rw [ch43.1, ch43.2] at hh
  obtain ⟨v8, hv8⟩ : ∃ v : Value, v = .int .i64 0 := ⟨_, rfl⟩
  have Hv8 := Lib.hid hv8
  unfold RetSu at hh
  rw [← hv8] at hh
  clear hv8
  refine hh.mono ?_
  clear hh
  rintro e u4 ⟨rfl, hbu4⟩
  have HAV4 := Lib.hid (allocZ u4)
  go_wp2_with (refine su_store rfl _ _ rfl u4.heap.size rfl S4 suZ rfl HAV4.out rfl suZ_len ?_; obtain ⟨V4, hV⟩ : ∃ V, V = (u4.alloc (.cells #[.int .u32 0, .int .i64 0, .int .i64 0, .int .u8 0, .int .u8 0, .int .u8 0, .int .u8 0, .int .u8 0, .int .u8 0, .int .u8 0, .int .u8 0, .int .u8 0, .int .u8 0, .int .u8 0, .int .u8 0, .int .u8 0, .int .u8 0, .int .u8 0, .int .u8 0, .int .u8 0, .int .u8 0, .int .u8 0, .int .u8 0, .int .u8 0, .int .u8 0, .int .u8 0, .int .u8 0, .int .u8 0, .int .u8 0, .int .u8 0, .int .u8 0, .int .u8 0, .int .u8 0, .int .u8 0, .int .u8 0] 26)).setRow u4.heap.size S4.v := ⟨_, rfl⟩; rw [← hV]; obtain ⟨hrV4, hbV4, hzV4⟩ := storedZ _ hV; have hlV4 := Nat.le_of_eq hzV4; have hgV4 := Nat.le_of_eq hzV4.symm; have HRV4 := Lib.hid hrV4; clear hV hzV4 hrV4)
  have r24 := r23.below (below_then hbu4 hbV4)
  have r14 := r13.below (below_then hbu4 hbV4)
  have hh := suChoose_any A2 n2 c2 b3 A2 n2 c2 b3 V4 (r24) (r24)
  rw [ch33.1, ch33.2] at hh
  obtain ⟨v10, hv10⟩ : ∃ v : Value, v = .int .i64 0 := ⟨_, rfl⟩
  have Hv10 := Lib.hid hv10
  unfold RetSu at hh
  rw [← hv10] at hh
  clear hv10
  refine hh.mono ?_
  clear hh
  rintro e u5 ⟨rfl, hbu5⟩
  have HAV5 := Lib.hid (allocZ u5)
  go_wp2_with (refine su_store rfl _ _ rfl u5.heap.size rfl S3 suZ rfl HAV5.out rfl suZ_len ?_; obtain ⟨V5, hV⟩ : ∃ V, V = (u5.alloc (.cells #[.int .u32 0, .int .i64 0, .int .i64 0, .int .u8 0, .int .u8 0, .int .u8 0, .int .u8 0, .int .u8 0, .int .u8 0, .int .u8 0, .int .u8 0, .int .u8 0, .int .u8 0, .int .u8 0, .int .u8 0, .int .u8 0, .int .u8 0, .int .u8 0, .int .u8 0, .int .u8 0, .int .u8 0, .int .u8 0, .int .u8 0, .int .u8 0, .int .u8 0, .int .u8 0, .int .u8 0, .int .u8 0, .int .u8 0, .int .u8 0, .int .u8 0, .int .u8 0, .int .u8 0, .int .u8 0, .int .u8 0] 26)).setRow u5.heap.size S3.v := ⟨_, rfl⟩; rw [← hV]; obtain ⟨hrV5, hbV5, hzV5⟩ := storedZ _ hV; have hlV5 := Nat.le_of_eq hzV5; have hgV5 := Nat.le_of_eq hzV5.symm; have HRV5 := Lib.hid hrV5; clear hV hzV5 hrV5)
  have r25 := r24.below (below_then hbu5 hbV5)
  have r15 := r14.below (below_then hbu5 hbV5)
  have hh := suChoose_any A2 n2 c2 b3 A1 256 c1 b4 V5 (r25) (r15)
  rw [ch34.1, ch34.2] at hh
  obtain ⟨v12, hv12⟩ : ∃ v : Value, v = .int .i64 7 := ⟨_, rfl⟩
  have Hv12 := Lib.hid hv12
  unfold RetSu at hh
  rw [← hv12] at hh
  clear hv12
  refine hh.mono ?_
  clear hh
  rintro e u6 ⟨rfl, hbu6⟩
  have HAV6 := Lib.hid (allocZ u6)
  go_wp2_with (refine su_store rfl _ _ rfl u6.heap.size rfl suZ suZ rfl HAV6.out suZ_len suZ_len ?_; obtain ⟨V6, hV⟩ : ∃ V, V = (u6.alloc (.cells #[.int .u32 0, .int .i64 0, .int .i64 0, .int .u8 0, .int .u8 0, .int .u8 0, .int .u8 0, .int .u8 0, .int .u8 0, .int .u8 0, .int .u8 0, .int .u8 0, .int .u8 0, .int .u8 0, .int .u8 0, .int .u8 0, .int .u8 0, .int .u8 0, .int .u8 0, .int .u8 0, .int .u8 0, .int .u8 0, .int .u8 0, .int .u8 0, .int .u8 0, .int .u8 0, .int .u8 0, .int .u8 0, .int .u8 0, .int .u8 0, .int .u8 0, .int .u8 0, .int .u8 0, .int .u8 0, .int .u8 0] 26)).setRow u6.heap.size suZ.v := ⟨_, rfl⟩; rw [← hV]; obtain ⟨hrV6, hbV6, hzV6⟩ := storedZ _ hV; have hlV6 := Nat.le_of_eq hzV6; have hgV6 := Nat.le_of_eq hzV6.symm; have HRV6 := Lib.hid hrV6; clear hV hzV6 hrV6)
  have r26 := r25.below (below_then hbu6 hbV6)
  have hh := suChoose_any none 0 0 [] A2 n2 c2 b3 V6 (RdB.nilB _) (r26)
  rw [ch03.1, ch03.2] at hh
  obtain ⟨v14, hv14⟩ : ∃ v : Value, v = .int .i64 0 := ⟨_, rfl⟩
  have Hv14 := Lib.hid hv14
  unfold RetSu at hh
  rw [← hv14] at hh
  clear hv14
  refine hh.mono ?_
  clear hh
  rintro e u7 ⟨rfl, hbu7⟩
  have HAV7 := Lib.hid (allocZ u7)
  go_wp2_with (refine su_store rfl _ _ rfl u7.heap.size rfl S3 suZ rfl HAV7.out rfl suZ_len ?_; obtain ⟨V7, hV⟩ : ∃ V, V = (u7.alloc (.cells #[.int .u32 0, .int .i64 0, .int .i64 0, .int .u8 0, .int .u8 0, .int .u8 0, .int .u8 0, .int .u8 0, .int .u8 0, .int .u8 0, .int .u8 0, .int .u8 0, .int .u8 0, .int .u8 0, .int .u8 0, .int .u8 0, .int .u8 0, .int .u8 0, .int .u8 0, .int .u8 0, .int .u8 0, .int .u8 0, .int .u8 0, .int .u8 0, .int .u8 0, .int .u8 0, .int .u8 0, .int .u8 0, .int .u8 0, .int .u8 0, .int .u8 0, .int .u8 0, .int .u8 0, .int .u8 0, .int .u8 0] 26)).setRow u7.heap.size S3.v := ⟨_, rfl⟩; rw [← hV]; obtain ⟨hrV7, hbV7, hzV7⟩ := storedZ _ hV; have hlV7 := Nat.le_of_eq hzV7; have hgV7 := Nat.le_of_eq hzV7.symm; have HRV7 := Lib.hid hrV7; clear hV hzV7 hrV7)
  have hh := suPut_any 0 2 0 (List.replicate 32 0) V7 (by omega) (by omega) rfl
  rw [show suPutE 2 0 = 2 from rfl, show suV 0 2 0 (List.replicate 32 0) = #[.int .u32 0, .int .i64 2, .int .i64 0, .int .u8 0, .int .u8 0, .int .u8 0, .int .u8 0, .int .u8 0, .int .u8 0, .int .u8 0, .int .u8 0, .int .u8 0, .int .u8 0, .int .u8 0, .int .u8 0, .int .u8 0, .int .u8 0, .int .u8 0, .int .u8 0, .int .u8 0, .int .u8 0, .int .u8 0, .int .u8 0, .int .u8 0, .int .u8 0, .int .u8 0, .int .u8 0, .int .u8 0, .int .u8 0, .int .u8 0, .int .u8 0, .int .u8 0, .int .u8 0, .int .u8 0, .int .u8 0] from rfl] at hh
  refine hh.mono ?_
  clear hh
  rintro e X ⟨A8, n8, c8, rfl, ho8, hb8⟩
  generalize Value.agg #[.int .u32 0, .int .i64 2, .int .i64 0, .int .u8 0, .int .u8 0, .int .u8 0, .int .u8 0, .int .u8 0, .int .u8 0, .int .u8 0, .int .u8 0, .int .u8 0, .int .u8 0, .int .u8 0, .int .u8 0, .int .u8 0, .int .u8 0, .int .u8 0, .int .u8 0, .int .u8 0, .int .u8 0, .int .u8 0, .int .u8 0, .int .u8 0, .int .u8 0, .int .u8 0, .int .u8 0, .int .u8 0, .int .u8 0, .int .u8 0, .int .u8 0, .int .u8 0, .int .u8 0, .int .u8 0, .int .u8 0] = v57
  have b67 := below_then hbu7 (below_then hbV7 hb8)
  have b56 := below_then hbu6 (below_then hbV6 b67)
  have b45 := below_then hbu5 (below_then hbV5 b56)
  have b34 := below_then hbu4 (below_then hbV4 b45)
  have x3 := hb3.size
  have x4 := hbu4.size
  have x5 := hbu5.size
  have x6 := hbu6.size
  have x7 := hbu7.size
  have y3 := hbV3.size
  have q3 := (b34.block u3.heap.size (by omega)).trans HRV3.out
  have q4 := (b45.block u4.heap.size (by omega)).trans HRV4.out
  have q5 := (b56.block u5.heap.size (by omega)).trans HRV5.out
  have q7 := (hb8.block u7.heap.size (by omega)).trans HRV7.out
  have k31 := (cell_of_row X _ 1 _ _ _ q3).trans (show S4.v[1]? = some (.int .i64 1) from rfl)
  have k32 := (cell_of_row X _ 2 _ _ _ q3).trans (show S4.v[2]? = some (.int .i64 300) from rfl)
  obtain ⟨vq, hvq⟩ : ∃ v : Value, v = .int .i64 1 := ⟨_, rfl⟩
  have Hvq := Lib.hid hvq
  rw [← hvq] at k31
  clear hvq
  have k40 := (cell_of_row X _ 0 _ _ _ q4).trans (show S4.v[0]? = some (.int .u32 4) from rfl)
  have k50 := (cell_of_row X _ 0 _ _ _ q5).trans (show S3.v[0]? = some (.int .u32 3) from rfl)
  have k70 := (cell_of_row X _ 0 _ _ _ q7).trans (show S3.v[0]? = some (.int .u32 3) from rfl)
  have rX := r13.below b34
  have hc1 := rX.2.2.1
  have hcc := rX.c63
  have kc4 : (4 : Int) ≤ (c1 : Int) := by omega
  have ks := (rX.take 4 (by omega)).str
  rw [b4_take] at ks
  have kst : strOf [80, 72, 83, 66] = (⟨#[80, 72, 83, 66]⟩ : ByteArray) := rfl
  rw [kst] at ks
  have Q3 := Lib.hid q3
  clear q3 q4 q5 q7
  as_aux_lemma =>
    go_wp2_with fail
    obtain rfl := Hv6.out
    as_aux_lemma =>
      go_simp
      go_wp2_with fail
      obtain rfl := Hvq.out
      as_aux_lemma =>
        go_simp
        generalize hp : Value.pointer (some ⟨u3.heap.size, 0, none⟩) = vp
        have Hp := Lib.hid hp
        clear hp
        go_wp2_with fail
        rotate_left
        exact ((show ∀ (a : Addr), vp = Value.pointer (some a) → False by assumption) _ Hp.out.symm).elim
        rename_i ad _
        have hp := Hp.out
        injection hp with hp
        injection hp with hp
        subst hp
        go_simp
        go_step
        refine dig_loadG (by rfl) _ rfl u3.heap.size rfl S4 Q3.out rfl D7c rfl ?_
        as_aux_lemma =>
          have qd := QD.out
          go_wp2_with fail
          obtain rfl := Hv8.out
          clear qd
          as_aux_lemma =>
            go_simp
            go_wp2_with fail
            obtain rfl := Hv10.out
            as_aux_lemma =>
              go_simp
              go_wp2_with fail
              obtain rfl := Hv12.out
              as_aux_lemma =>
                go_simp
                go_wp2_with fail
                obtain rfl := Hv14.out
                as_aux_lemma =>
                  go_simp
                  go_wp2_with fail
                  refine (suHome_any 5 X (by omega)).mono ?_
                  rintro e w9 ⟨rfl, rfl⟩
                  as_aux_lemma =>
                    go_wp2_with fail
                    refine (suPlace_any 0 X).mono ?_
                    rintro e w9 ⟨rfl, rfl⟩
                    go_wp2_with fail
                    refine (suPlace_any 1 X).mono ?_
                    rintro e w9 ⟨rfl, rfl⟩
                    go_wp2_with (refine su_loadG (by rfl) _ rfl u3.heap.size rfl S4 Q3.out rfl ?_)
                    have hh := suCheck_any 4 1 300 D7 X (by omega) rfl
                    rw [show suCheck 1 300 = true from rfl] at hh
                    refine hh.mono ?_
                    clear hh
                    rintro e w9 ⟨rfl, hb9⟩
                    go_wp2
                    go_ret
                    exact ⟨rfl, below_then hb1 (below_then hb2 (below_then hb3 (below_then hbV3 (below_then b34 hb9))))⟩
end Go.Proofs.Ytmbdfanaegadjaa
