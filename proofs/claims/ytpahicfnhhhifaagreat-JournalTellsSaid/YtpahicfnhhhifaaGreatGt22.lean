/-
 Proved here, for the statement JournalTells:
 Layer 14: journal: Format.
 Layer 14: journal: what a checkpoint has (state).
-/
import Derived.Great.BuildSlice
import Derived.Test.YtpahicfnhhhifaaGreatGt21
set_option linter.unusedVariables false
set_option linter.unusedSimpArgs false
namespace Go.Proofs.YtpahicfnhhhifaaGreat
set_option maxRecDepth 20000
open Go.RowKit
set_option maxHeartbeats 8000000
theorem jnFmt_wr (state : List UInt8) (n : Nat) (hn : 98 ≤ n ∧ n ≤ 256) (hs : state.length ≤ 12288) : dkOk (jnWrites (dkNew (n : Int)) (jnFmtJobs state)) = true ∧ (jnFmtJobs state).length = (state.length + 255) / 256 + 1 := by
 have eN : dkNew (n : Int) = ⟨List.replicate n (List.replicate 256 0), []⟩ := by unfold dkNew dkNewE; rw [if_pos (by rw [if_neg (by omega)])]; simp
 have hok : dkOk (dkNew (n : Int)) = true := by
  rw [eN]
  refine (dkOk_iff _).2 ⟨by simp; omega, by simp, fun b hb => ?_, by simp⟩
  rw [(List.mem_replicate.1 hb).2]; simp
 have hcs : suCheck 0 (state.length : Int) = true := by unfold suCheck; simp; omega
 have hsl : (suPutL 1 0 (state.length : Int) (jnBase state)).length = 256 := by
  unfold suPutL; rw [if_pos hcs]; exact suL_len _ _ _ _ (by unfold jnBase; exact shOf_len _)
 have hjobs : jnFmtJobs state = jnSplitK state ((2 : Nat) : Int) ((state.length + 255) / 256) ++ [(1, suPutL 1 0 (state.length : Int) (jnBase state))] := by unfold jnFmtJobs jnSplit; rw [if_pos rfl]; rfl
 refine ⟨(jnWrites_in (jnFmtJobs state) (dkNew (n : Int)) hok (by rw [eN, hjobs]; simp [jnSplitK_len]; omega) (fun j hj => ?_)).2, by rw [hjobs]; simp [jnSplitK_len]⟩
 rw [eN]
 simp only [List.length_replicate]
 rw [hjobs] at hj
 rcases List.mem_append.1 hj with h | h
 ·obtain ⟨i, hi, rfl⟩ := jnSplitK_mem _ _ _ _ h
  exact ⟨by simp only; omega, by simp only; omega, jnSec_len _ _⟩
 ·obtain rfl : j = (1, suPutL 1 0 (state.length : Int) (jnBase state)) := by simpa using h
  exact ⟨by simp, by simp only; omega, hsl⟩
theorem jnWrites_snoc (D : Dk) (l : List Jb) (x : Jb) : jnWrites D (l ++ [x]) = dkWrite (jnWrites D l) x.1 x.2 := by unfold jnWrites; rw [List.foldl_append]; rfl
theorem takeJ_snoc (l : List Jb) (k : Nat) (hk : k < l.length) : l.take (k + 1) = l.take k ++ [l.getD k (0, [])] := by
 rw [List.take_add_one, List.getElem?_eq_getElem hk]; simp [List.getD, hk]
theorem OwJ.mono {w : World} {base base' : Nat} {A : Option Addr} {n c : Nat} {l : List Jb} (h : OwJ w base A n c l) (hb : base' ≤ base) : OwJ w base' A n c l := by
 obtain ⟨us, u1, u2⟩ := h
 exact ⟨us, own_monoK u1 hb, u2.keep' hb⟩
theorem dk_over {ops : Array Oper} {rest : List Oper} {o : Oper} {a : Act} {w : World} {Q : Exit → Act → World → Prop} {h : Nat} {AV BV : Array Value} {D : Dk} {P : Nat → Prop} (hgd : o.guard = none) (x z : Operand) (ho : o.op = .store 40 x z) (hx : a.eval x = .pointer (some ⟨h, 0, none⟩)) (hz : a.eval z = .agg AV) (hrow : w.heap[h]? = some (.cells BV 40 (0, 0))) (hB : BV.size = 2) (v : DkIn P w AV D) (hP : P h)
  (hK : ∀ X, X.heap.size = w.heap.size → X.heap[h]? = some (.cells AV 40 (0, 0)) → DkIn P X AV D → (∀ B, B ≤ h → Below B w X) → (∀ j, j ≠ h → X.heap[j]? = w.heap[j]?) → wpList Tryz.prog ops Q rest (a.put o.dst undef) X) : wpList Tryz.prog ops Q (o :: rest) a w :=
 dk_set (E := D) hgd x z ho hx hz hrow hB v.val (hK _ (by simp) (setRow_heap _ _ _ _ _ _ hrow) (v.row AV hP) (fun B hB => below_setRow (Below.refl _ _) hB _) (fun j hj => setRow_other _ _ _ _ hj))
def FmI (w w8 : World) (h N : Nat) (D0 : Dk) (l : List Jb) (i : Value) (Y : World) : Prop :=
 ∃ k : Nat, k ≤ N ∧ i = .int .i64 (k : Int) ∧ ∃ AV, Y.heap[h]? = some (.cells AV 40 (0, 0)) ∧ DkIn (fun j => j = h) Y AV (jnWrites D0 (l.take k)) ∧ AgrP (fun j => j = h) w8 Y ∧ Y.heap[w.heap.size]? = some (.cells #[.slice none 0 0, .slice none 0 0] 40 (0, 0)) ∧ Below w.heap.size w Y
theorem disk2 : (Tryz.prog.info? 40).map (·.size) = some 2 := by kernel_rfl
theorem dkE_none (w : World) : DkVal #[.slice none 0 0, .slice none 0 0] w ⟨[], []⟩ := ⟨none, 0, 0, none, 0, 0, rfl, rdDk_nil w⟩
set_option maxRecDepth 100000 in
theorem jrnFmt_no (A : Option Addr) (L c : Nat) (state : List UInt8) (n : Int) (w : World) (hr : RdB w A L c state) (er : Int) (h : ((n < 98 ∨ 256 < n) ∧ er = 2) ∨ ((98 ≤ n ∧ n ≤ 256) ∧ 12288 < L ∧ er = 4)) :
  Calls Tryz.prog 33 #[.slice A L c, .int .i64 n] w (RetDv w ⟨[], []⟩ er) := by
 have hL := hr.n63
 obtain ⟨V, hV⟩ : ∃ V, V = w.alloc (.cells #[.slice none 0 0, .slice none 0 0] 40) := ⟨_, rfl⟩
 have bV : Below w.heap.size w V := by rw [hV]; exact (below_self w).alloc (Nat.le_refl _) _
 have qV : Hid (V.heap[w.heap.size]? = some (.cells #[.slice none 0 0, .slice none 0 0] 40 (0, 0))) := by rw [hV]; exact Lib.hid (drw_at _ rfl)
 have HV := Lib.hid hV
 clear hV
 have fin : ∀ X, X.heap[w.heap.size]? = some (.cells #[.slice none 0 0, .slice none 0 0] 40 (0, 0)) → Below w.heap.size w X → RetDv w ⟨[], []⟩ er (.returned (.tuple #[.agg #[.slice none 0 0, .slice none 0 0], .int .i64 er])) X := fun X _ hb => ⟨_, rfl, dkE_none X, hb⟩
 have k0 := (cell_of_row V _ 0 _ _ _ qV.out).trans rfl
 have k1 := (cell_of_row V _ 1 _ _ _ qV.out).trans rfl
 have f0 := frozen_of_row V _ 0 _ _ qV.out
 have f1 := frozen_of_row V _ 1 _ _ qV.out
 rcases h with ⟨h, rfl⟩ | ⟨h, h2, rfl⟩
 ·have hh : decide (n < 98) = true ∨ (decide (n < 98) = false ∧ decide (256 < n) = true) := by
   simp only [decide_eq_true_eq, decide_eq_false_iff_not]; omega
  clear h
  rcases hh with d1 | ⟨d1, d2⟩
  all_goals
   go_enter Tryz.func33, Tryz.ntmps33
   go_wp2_with (rw [← HV.out])
   have qF : ((V.setCell ⟨w.heap.size, 0, none⟩ (.slice none 0 0)).setCell ⟨w.heap.size, 1, none⟩ (.slice none 0 0)).heap[w.heap.size]? = some (.cells #[.slice none 0 0, .slice none 0 0] 40 (0, 0)) := (setc_rowT (setc_rowT qV.out)).trans rfl
   refine bodyPost_ret (dresults_cell_tmp Tryz.results33 _ _ w.heap.size 40 _ (0, 0) _ rfl qF Tryz.underlying40 rfl disk2) rfl ?_
   exact fin _ qF ((bV.setCell (p := ⟨w.heap.size, 0, none⟩) (Nat.le_refl _) _).setCell (p := ⟨w.heap.size, 1, none⟩) (Nat.le_refl _) _)
 ·have d1 : decide (n < 98) = false := decide_eq_false (by omega)
  have d2 : decide (256 < n) = false := decide_eq_false (by omega)
  have d3 : decide ((12288 : Int) < (L : Int)) = true := decide_eq_true (by omega)
  go_enter Tryz.func33, Tryz.ntmps33
  go_wp2_with (rw [← HV.out])
  have qF : ((V.setCell ⟨w.heap.size, 0, none⟩ (.slice none 0 0)).setCell ⟨w.heap.size, 1, none⟩ (.slice none 0 0)).heap[w.heap.size]? = some (.cells #[.slice none 0 0, .slice none 0 0] 40 (0, 0)) := (setc_rowT (setc_rowT qV.out)).trans rfl
  refine bodyPost_ret (dresults_cell_tmp Tryz.results33 _ _ w.heap.size 40 _ (0, 0) _ rfl qF Tryz.underlying40 rfl disk2) rfl ?_
  exact fin _ qF ((bV.setCell (p := ⟨w.heap.size, 0, none⟩) (Nat.le_refl _) _).setCell (p := ⟨w.heap.size, 1, none⟩) (Nat.le_refl _) _)
theorem suB3 (g : Nat) (l : Int) (D : List UInt8) (hD : D.length = 32) (w : World) : (Instr.build 33 #[(0, .int .u32 (g : Int)), (2, .int .i64 l), (3, .agg (dgA D))]).run Tryz.prog w = .ok (.agg (suV g 0 l D)) w := by
 obtain ⟨d0, d1, d2, d3, d4, d5, d6, d7, d8, d9, d10, d11, d12, d13, d14, d15, d16, d17, d18, d19, d20, d21, d22, d23, d24, d25, d26, d27, d28, d29, d30, d31, rfl⟩ := list32 D hD
 exact run_build w _ _ _ (by show Tryz.prog.built _ _ = some _; kernel_rfl)
set_option maxRecDepth 100000 in
theorem jrnFmt_yes (A : Option Addr) (L c : Nat) (state : List UInt8) (n : Nat) (w : World) (hr : RdB w A L c state) (hn : 98 ≤ n ∧ n ≤ 256) (hL : L ≤ 12288) :
  Calls Tryz.prog 33 #[.slice A L c, .int .i64 (n : Int)] w (RetDv w (dkFlush (jnWrites (dkNew (n : Int)) (jnFmtJobs state))) 0) := by
 obtain ⟨V, hV⟩ : ∃ V, V = w.alloc (.cells #[.slice none 0 0, .slice none 0 0] 40) := ⟨_, rfl⟩
 have bV : Below w.heap.size w V := by rw [hV]; exact (below_self w).alloc (Nat.le_refl _) _
 have qV : Hid (V.heap[w.heap.size]? = some (.cells #[.slice none 0 0, .slice none 0 0] 40 (0, 0))) := by rw [hV]; exact Lib.hid (drw_at _ rfl)
 have zV : Hid (V.heap.size = w.heap.size + 1) := by rw [hV]; exact Lib.hid (by simp)
 have HV := Lib.hid hV
 clear hV
 have hl := hr.2.1
 have HL := Lib.hid hl
 have d1 : decide ((n : Int) < 98) = false := decide_eq_false (by omega)
 have d2 : decide ((256 : Int) < (n : Int)) = false := decide_eq_false (by omega)
 have d3 : decide ((12288 : Int) < (L : Int)) = false := decide_eq_false (by omega)
 obtain ⟨wok, wlen⟩ := jnFmt_wr state n hn (by omega)
 have WOK := Lib.hid wok
 have WLEN := Lib.hid wlen
 obtain ⟨D0, hD0⟩ : ∃ D, dkNew (n : Int) = D := ⟨dkNew (n : Int), rfl⟩
 have C1 := Lib.hid (vNew (n : Int) V (by omega))
 rw [hD0, show dkNewE (n : Int) = 0 by unfold dkNewE; rw [if_neg (by omega)]] at C1
 rw [hD0]
 have HD0 := Lib.hid hD0
 have C2 := Lib.hid (fun W (h : RdB W A L c state) => jrnBase_any A L c state W h (by omega))
 obtain ⟨DG, hDG⟩ : ∃ q, jnBase state = q := ⟨jnBase state, rfl⟩
 have hDl : DG.length = 32 := by rw [← hDG]; exact shOf_len _
 rw [hDG] at C2
 have BS := Lib.hid (suB3 1 (L : Int) DG hDl)
 obtain ⟨DV, hDV⟩ : ∃ z, z = dgA DG := ⟨_, rfl⟩
 have HDV := Lib.hid hDV
 obtain ⟨SV, hSV⟩ : ∃ z, z = suV 1 0 (L : Int) DG := ⟨_, rfl⟩
 have HSV := Lib.hid hSV
 rw [← hDV, ← hSV] at BS
 clear hDV
 have C3 := Lib.hid (fun W => suPut_any 1 0 (L : Int) DG W (by omega) (by omega) hDl)
 rw [← hSV] at C3
 clear hSV
 have C4 := Lib.hid (fun W (h : RdB W A L c state) => jrnSplit_any A L c state 0 W h (by omega))
 have C5 := Lib.hid (fun W => suHome_any 1 W (by omega))
 have hJ : jnFmtJobs state = jnSplit state 0 ++ [(1, suPutL 1 0 (L : Int) DG)] := by unfold jnFmtJobs; rw [hDG, hl]
 have HJ := Lib.hid hJ
 have HDG := Lib.hid hDG
 have HDL := Lib.hid hDl
 have HR := Lib.hid hr
 clear hl wok wlen hD0 hDG hDl hJ hr
 go_enter Tryz.func33, Tryz.ntmps33
 go_wp2_with (rw [← HV.out])
 refine C1.out.mono ?_
 rintro e w2 ⟨A2, rfl, v2, b2⟩
 go_wp2_with (refine dk_fresh rfl _ _ rfl rfl rfl w2 rfl rfl v2 ?_; intro X3 q3 x3)
 have B3 := Lib.hid (below_then bV (below_then b2 x3))
 refine (C2.out X3 (HR.out.below B3.out)).mono ?_
 rintro e w4 ⟨rfl, b4⟩
 rw [← HDV.out]
 go_wp2_with (refine wpList_of_exec rfl (rex_build rfl #[(0, .int .u32 ((1 : Nat) : Int)), (2, .int .i64 (L : Int)), (3, .agg DV)] rfl (BS.out _)) ?_)
 refine (C3.out w4).mono ?_
 rintro e w5 ⟨A5, n5, c5, rfl, o5, b5⟩
 have B5 := Lib.hid (below_then B3.out (below_then b4 b5))
 have O5 := Lib.hid o5
 clear o5
 go_wp2_with fail
 refine (C4.out w5 (HR.out.below B5.out)).mono ?_
 rintro e w6 ⟨A6, n6, c6, rfl, o6, b6⟩
 go_wp2_with fail
 refine (C5.out w6).mono ?_
 rintro e w7 ⟨rfl, rfl⟩
 obtain ⟨X7, hX7⟩ : ∃ X, X = w6.alloc (.cells #[.int .i64 1, .slice A5 n5 c5] 60) := ⟨_, rfl⟩
 have b7 : Below w6.heap.size w6 X7 := by rw [hX7]; exact (below_self w6).alloc (Nat.le_refl _) _
 have r7 : Hid (X7.heap[w6.heap.size]? = some (.cells #[.int .i64 1, .slice A5 n5 c5] 60 (0, 0))) := by rw [hX7]; exact Lib.hid (drw_at _ rfl)
 have HX7 := Lib.hid hX7
 have sz2 : w.heap.size + 1 ≤ w2.heap.size := by have := zV.out; have := b2.size; omega
 have szX3 : w2.heap.size < X3.heap.size := q3.out.lt
 have sz4 : w2.heap.size < w4.heap.size := by have := b4.size; omega
 have sz5 := b5.size
 have hJ6 := ((o6.below b7).mono (base' := w4.heap.size) sz5)
 have hn6 : n6 = (L + 255) / 256 := by
  obtain ⟨us, hu⟩ := hJ6.rd
  have := hu.len
  rw [← this]; unfold jnSplit; rw [jnSplitK_len, HL.out]
 obtain ⟨us, u1, u2⟩ := hJ6
 have U := Lib.hid (And.intro u1 u2)
 have O7 := Lib.hid ((O5.out.upB b6).upB b7)
 have HN6 := Lib.hid hn6
 have hn48 : n6 ≤ 48 := by omega
 have hb7 : w4.heap.size ≤ X7.heap.size := by have := b6.size; have := b7.size; omega
 obtain ⟨N, hN⟩ : ∃ N, N = n6 + 1 := ⟨_, rfl⟩
 have HN := Lib.hid hN
 clear hX7 u1 u2 o6 hn6 hN
 go_wp2_with (at_builtin; rw [← HX7.out]; refine wp_appJ rfl _ _ rfl w4.heap.size _ n6 us rfl U.out.1 _ 1 1 [.int .i64 1, .slice A5 n5 c5] rfl (one_rd r7.out) rfl (by simp [Value.oneCell']) (by omega) hb7 N _ HN.out.symm rfl ?_; intro A8 c8 w8 ho8 hg8)
 rw [HN.out] at ho8
 have hg8' : X7.grownBy w8 (Value.slice A6 n6 c6).ownBlock := hg8
 have hJ8 := OwJ.app U.out.1 U.out.2 ho8 hg8' O7.out (by omega)
 rw [← HJ.out] at hJ8
 have HJ8 := Lib.hid hJ8
 have G8 := Lib.hid hg8'
 have hown : ∀ q, (Value.slice A6 n6 c6).ownBlock = some q → w4.heap.size ≤ q := fun q e => (U.out.1.lt _ e).1
 have b27 : Below w2.heap.size w2 X7 := below_then x3 (below_then b4 (below_then b5 (below_then b6 b7)))
 have b28 : Below w2.heap.size w2 w8 := b27.grown hg8' b27.size (fun q hq => by have := hown q hq; omega)
 have b08 : Below w.heap.size w w8 := below_then bV (below_then b2 (b28))
 have szw : w2.heap.size < X7.heap.size := by omega
 have r8 : w8.heap[w2.heap.size]? = some (.cells A2 40 (0, 0)) := (hg8'.block _ szw (fun e => by have := hown _ e.symm; omega)).trans (drw_up (drw_up (drw_up (drw_up q3.out.1 b4) b5) b6) b7)
 have s8 : w8.heap[w.heap.size]? = some (.cells #[.slice none 0 0, .slice none 0 0] 40 (0, 0)) := (b28.block _ (by omega)).trans (drw_up qV.out b2)
 have hd8 : DkIn (fun j => j = w2.heap.size) w8 A2 D0 := v2.inn b28 (fun j hj => by omega)
 obtain ⟨l, hll⟩ : ∃ l, jnFmtJobs state = l := ⟨jnFmtJobs state, rfl⟩
 rw [hll] at hJ8
 have HLL := Lib.hid hll
 rw [← HN.out] at hJ8
 have hws : WsIn (fun j => j = w2.heap.size) w8 A8 N c8 l := hJ8.inn (fun j hj => by omega)
 obtain ⟨us8, hus8⟩ := hws
 have HUS := Lib.hid hus8
 have hll2 : l.length = N := (hus8 w8 (AgrP.refl _ _)).len
 have HLN := Lib.hid hll2
 have hI0 : FmI w w8 w2.heap.size N D0 l (.int .i64 0) w8 := ⟨0, by omega, rfl, A2, r8, hd8, AgrP.refl _ _, s8, b08⟩
 have HI0 := Lib.hid hI0
 have hN49 : N ≤ 49 := by have := HN.out; omega
 have SZ := Lib.hid sz2
 clear hJ8 ho8 hg8 hg8' b27 b28 b08 r8 s8 hd8 hus8 hll2 hI0 hll hown hn48 hb7 sz2 szX3 sz4 sz5 szw
 go_wp2_with fail
 go_loopw [47] (FmI w w8 w2.heap.size N D0 l) (fun i _ => N - (intOf i).toNat)
 case atStart => exact HI0.out
 case round =>
  obtain ⟨k, hk, rfl, AV, hrow, hdk, hag, hsr, hB⟩ := hrel
  by_cases hlt : k < N
  ·obtain ⟨b, o, B, m, d, rfl, hb, hc0, hc1, hy, hrg⟩ := (HUS.out _ hag).at_ k hlt
   obtain ⟨av, hav⟩ : ∃ q, (l.getD k (0, [])).1 = q := ⟨_, rfl⟩
   rw [hav] at hc0 hrg
   obtain ⟨X9, hX9⟩ : ∃ X, X = wr.alloc (.cells #[.int .i64 av, .slice B m d] 60) := ⟨_, rfl⟩
   have b9 : Below wr.heap.size wr X9 := by rw [hX9]; exact (below_self wr).alloc (Nat.le_refl _) _
   have r9 : X9.heap[wr.heap.size]? = some (.cells #[.int .i64 av, .slice B m d] 60 (0, 0)) := by rw [hX9]; exact drw_at _ rfl
   have HX9 := Lib.hid hX9
   have k0 := (cell_of_row X9 _ 0 _ _ _ r9).trans (show (#[.int .i64 av, .slice B m d] : Array Value)[0]? = some (.int .i64 av) from rfl)
   have k1 := (cell_of_row X9 _ 1 _ _ _ r9).trans (show (#[.int .i64 av, .slice B m d] : Array Value)[1]? = some (.slice B m d) from rfl)
   have v9 : Hid (DkV X9 w2.heap.size AV (jnWrites D0 (l.take k))) := Lib.hid ⟨drw_up hrow b9, (hdk.below b9).val⟩
   have HDK := Lib.hid hdk
   have HROW := Lib.hid hrow
   have HAG := Lib.hid hag
   have HSR := Lib.hid hsr
   have HY := Lib.hid hy
   have HAV := Lib.hid hav
   clear hX9 r9 hdk hrow hag hsr hy hav
   go_wp2_with (first | (rw [← HX9.out]) | (refine dk_load rfl _ rfl rfl v9.out ?_))
   refine (vWriteI (P := fun j => j = w2.heap.size) (HDK.out.below b9) (fun j hj => by have := v9.out.lt; omega) av B m d _ hrg (HY.out.below b9)).mono ?_
   rintro e w10 ⟨AV', rfl, hd10, b10⟩
   have D10 := Lib.hid hd10
   have R10 := Lib.hid (drw_up (drw_up HROW.out b9) b10)
   have hsz := v9.out.2.size
   clear hd10 k0 k1
   go_wp2_with (refine dk_over (P := fun j => j = w2.heap.size) rfl _ _ rfl rfl rfl R10.out hsz D10.out rfl ?_; intro X11 z11 q11 d11 c11 n11)
   go_roundw
   case rel =>
    have h9 := b9.size
    have h10 := b10.size
    have hz2 := SZ.out
    refine ⟨k + 1, by omega, by go_num, AV', q11, ?_, ?_, ?_, ?_⟩
    ·rw [takeJ_snoc l k (by rw [HLN.out]; exact hlt), jnWrites_snoc, HAV.out]; exact d11
    ·have h1 : AgrP (fun j => j = w2.heap.size) w8 w10 := ⟨by have := HAG.out.1; omega, fun j hj hn => (b10.block j (by have := HAG.out.1; omega)).trans ((b9.block j (by have := HAG.out.1; omega)).trans (HAG.out.2 j hj hn))⟩
     exact h1.one rfl z11 n11
    ·exact (n11 _ (by omega)).trans (drw_up (drw_up HSR.out b9) b10)
    ·exact (below_then hB (below_then b9 b10)).trans (c11 w.heap.size (by omega))
   case measure => simp [intOf]; omega
  ·obtain rfl : k = N := by omega
   have hall : l.take k = l := List.take_of_length_le (by rw [HLN.out]; exact Nat.le_refl _)
   rw [hall] at hdk
   have v9 : Hid (DkV wr w2.heap.size AV (jnWrites D0 l)) := Lib.hid ⟨hrow, hdk.val⟩
   have hok9 : dkOk (jnWrites D0 l) = true := by rw [← HD0.out, ← HLL.out]; exact WOK.out
   have HOK9 := Lib.hid hok9
   have HSR := Lib.hid hsr
   have hsz := hdk.val.size
   clear hdk hrow hag hsr hall hok9
   have HB9 := Lib.hid hB
   have hz2 := SZ.out
   go_wp2_with (refine dk_load rfl _ rfl rfl v9.out ?_)
   refine (vFlushN (P := fun j => j = w2.heap.size ∨ j = w.heap.size) v9.out.2 HOK9.out (fun j hj => by have := v9.out.lt; omega)).mono ?_
   rintro e w10 ⟨AV', rfl, hd10, b10⟩
   have D10 := Lib.hid hd10
   have R10 := Lib.hid (drw_up v9.out.1 b10)
   have S10 := Lib.hid (drw_up HSR.out b10)
   clear hd10
   go_wp2_with (first
    | (refine dk_over (P := fun j => j = w2.heap.size ∨ j = w.heap.size) rfl _ _ rfl rfl rfl R10.out hsz D10.out (.inl rfl) ?_; intro X11 z11 q11 d11 c11 n11; have V11 : Hid (DkV X11 w2.heap.size AV' _) := Lib.hid ⟨q11, d11.val⟩; have S11 := Lib.hid ((n11 _ (by omega)).trans S10.out))
    | (refine dk_load rfl _ rfl rfl V11.out ?_)
    | (refine dk_over (P := fun j => j = w2.heap.size ∨ j = w.heap.size) rfl _ _ rfl rfl rfl S11.out rfl d11 (.inr rfl) ?_; intro X12 z12 q12 d12 c12 n12))
   refine bodyPost_ret (dresults_cell_tmp Tryz.results33 _ _ w.heap.size 40 _ (0, 0) _ rfl q12 Tryz.underlying40 rfl d12.val.info) rfl ?_
   refine ⟨AV', rfl, ?_, ((below_then HB9.out b10).trans (c11 w.heap.size (by omega))).trans (c12 w.heap.size (Nat.le_refl _))⟩
   rw [HLL.out]
   exact d12.val
theorem jrnFmt_any (A : Option Addr) (L c : Nat) (state : List UInt8) (n : Int) (w : World) (hr : RdB w A L c state) (hn : -9223372036854775808 ≤ n ∧ n ≤ 9223372036854775807) :
  Calls Tryz.prog 33 #[.slice A L c, .int .i64 n] w (RetDv w (jnFmt state n) (jnFmtE state n)) := by
 have hl := hr.2.1
 by_cases h1 : n < 98 ∨ 256 < n
 ·have e : jnFmtE state n = 2 := by unfold jnFmtE; rw [if_pos h1]
  rw [show jnFmt state n = ⟨[], []⟩ by unfold jnFmt; rw [e]; rfl, e]
  exact jrnFmt_no A L c state n w hr 2 (.inl ⟨h1, rfl⟩)
 ·by_cases h2 : 12288 < L
  ·have e : jnFmtE state n = 4 := by unfold jnFmtE; rw [if_neg h1, if_pos (by omega)]
   rw [show jnFmt state n = ⟨[], []⟩ by unfold jnFmt; rw [e]; rfl, e]
   exact jrnFmt_no A L c state n w hr 4 (.inr ⟨by omega, h2, rfl⟩)
  ·have e : jnFmtE state n = 0 := by unfold jnFmtE; rw [if_neg h1, if_neg (by omega)]
   obtain ⟨k, rfl⟩ : ∃ k : Nat, n = (k : Int) := ⟨n.toNat, by omega⟩
   rw [show jnFmt state (k : Int) = dkFlush (jnWrites (dkNew (k : Int)) (jnFmtJobs state)) by unfold jnFmt; rw [if_pos e], e]
   exact jrnFmt_yes A L c state k w hr (by omega) (by omega)
set_option maxHeartbeats 8000000
theorem dkRead_len (D : Dk) (hok : dkOk D = true) (i : Nat) (hi : i < D.s.length) : (dkRead D (i : Int)).length = 256 := by
 rw [dkRead_eq D hok i hi]; exact dkAt_len D _ i hok hi
theorem OwnB.cutR {w : World} {base : Nat} {A : Option Addr} {n c : Nat} {xs : List UInt8} (h : OwnB w base A n c xs) (k : Nat) (hk : k ≤ n) : OwnB w base A k c (xs.take k) := by
 have hl := h.len
 refine ⟨by simp [hl]; omega, ?_⟩
 rcases h.2 with ⟨h1, h2⟩ | ⟨g, cap, cur, hv, hb, hg, hn, hm, hs, ht⟩
 ·injection h1 with e1 e2 e3
  subst e1 e2 e3
  obtain rfl : k = 0 := by omega
  exact .inl ⟨rfl, rfl⟩
 ·injection hv with e1 e2 e3
  subst e1 e3
  refine .inr ⟨g, c, cur, rfl, hb, hg, by omega, hm, hs, ?_⟩
  have e : List.take (k * 1) cur.toList = List.take k (List.take (n * 1) cur.toList) := by rw [List.take_take]; congr 1; omega
  have hlen : (List.map vB (xs.take k)).length = k := by simp [hl]; omega
  simp only [Nat.mul_one] at e ht ⊢
  rw [e, ht, List.map_take]
def StI (w : World) (D : Dk) (p K : Nat) (v a : Value) (Y : World) : Prop := ∃ (k : Nat) (A : Option Addr) (n c : Nat), k ≤ K ∧ n = 256 * k ∧ v = .slice A n c ∧ a = .int .i64 ((p + k : Nat) : Int) ∧ OwnB Y w.heap.size A n c (jnHadK D (p : Int) k) ∧ Below w.heap.size w Y
set_option maxRecDepth 100000 in
theorem jrnState_any (AV : Array Value) (D : Dk) (s : Su) (w : World) (v : DkVal AV w D) (hok : dkOk D = true) (hl : 98 ≤ D.s.length) (hs : suCheck s.s s.l = true) (hD : s.D.length = 32) :
  Calls Tryz.prog 71 #[.agg AV, .agg (suV s.g s.s s.l s.D)] w (RetB w (jnHad D s)) := by
 obtain ⟨V, hV⟩ : ∃ V, V = (w.alloc (.cells AV 40)).alloc (.cells (suV s.g s.s s.l s.D) 33) := ⟨_, rfl⟩
 have bV : Below w.heap.size w V := by rw [hV]; exact ((below_self w).alloc (Nat.le_refl _) _).alloc (by simp) _
 have qV : Hid (DkV V w.heap.size AV D) := Lib.hid ⟨by rw [hV]; exact drw_old _ (drw_at _ rfl), v.below bV⟩
 have rV : V.heap[w.heap.size + 1]? = some (.cells (suV s.g s.s s.l s.D) 33 (0, 0)) := by rw [hV]; exact drw_at _ (by simp)
 have RV := Lib.hid rV
 have HV := Lib.hid hV
 have hsc := of_decide_eq_true hs
 obtain ⟨L, hL⟩ : ∃ L : Nat, s.l = (L : Int) := ⟨s.l.toNat, by omega⟩
 obtain ⟨p, hp⟩ : ∃ p : Nat, (if s.s = 0 then (2 : Int) else 50) = (p : Int) := by
  by_cases h : s.s = 0
  ·exact ⟨2, by rw [if_pos h]; rfl⟩
  ·exact ⟨50, by rw [if_neg h]; rfl⟩
 have hp50 : p ≤ 50 := by split at hp <;> omega
 obtain ⟨K, hK⟩ : ∃ K, K = (L + 255) / 256 := ⟨_, rfl⟩
 have hR : jnHad D s = (jnHadK D (p : Int) K).take L := by unfold jnHad; rw [hp, hL, hK]; rfl
 have hK48 : K ≤ 48 := by omega
 rw [hR]
 have C1 := Lib.hid (fun W => suPlace_any s.s W)
 rw [hp] at C1
 have y1 : ∀ W : World, Below V.heap.size V W → W.cell? ⟨w.heap.size + 1, 1, none⟩ = some (.int .i64 s.s) := fun W hb => (cell_of_row W _ 1 _ _ _ (drw_up RV.out hb)).trans (suV1 ..)
 have y2 : ∀ W : World, Below V.heap.size V W → W.cell? ⟨w.heap.size + 1, 2, none⟩ = some (.int .i64 (L : Int)) := fun W hb => (cell_of_row W _ 2 _ _ _ (drw_up RV.out hb)).trans (by rw [suV2, hL])
 have Y1 := Lib.hid y1
 have Y2 := Lib.hid y2
 have HK := Lib.hid hK
 have HOK := Lib.hid hok
 have HLN := Lib.hid hl
 clear hV rV hs hsc hL hp hK hR y1 y2 hok hl v
 have x1 := Y1.out V (Below.refl _ _)
 go_enter Tryz.func71, Tryz.ntmps71
 go_wp2_with (rw [← HV.out])
 refine (C1.out V).mono ?_
 rintro e w2 ⟨rfl, rfl⟩
 clear x1
 go_wp2_with fail
 go_loopw [5, 6] (StI V D p K) (fun _ a _ => p + K - (intOf a).toNat)
 case atStart => exact ⟨0, none, 0, 0, by omega, rfl, rfl, rfl, OwnB.nilB _ _, Below.refl _ _⟩
 case round =>
  obtain ⟨k, A, n, c, hk, hn, rfl, rfl, ho, hB⟩ := hrel
  have x2 := Y2.out wr hB
  have hKK := HK.out
  have hll := HLN.out
  obtain ⟨pk, hpk⟩ : ∃ q, q = p + k := ⟨p + k, rfl⟩
  obtain ⟨pk1, hpk1⟩ : ∃ q, q = p + (k + 1) := ⟨p + (k + 1), rfl⟩
  rw [← hpk]
  have e1 : IntKind.i64.wrap ((pk : Int) + 1) = (pk1 : Int) := by rw [IntWalk.i64_in _ (by omega)]; omega
  by_cases hlt : k < K
  ·have d1 : decide ((n : Int) < (L : Int)) = true := decide_eq_true (by omega)
   have d1n : decide (n < L) = true := decide_eq_true (by omega)
   have C2 := Lib.hid (vRead (qV.out.up hB).2 (pk : Int) (by omega))
   have hrl := dkRead_len D HOK.out pk (by omega)
   have hask := dkAsk_in D HOK.out pk (by omega)
   rw [hask] at C2
   have hnx : jnHadK D (p : Int) (k + 1) = jnHadK D (p : Int) k ++ dkRead D (pk : Int) := by
    show jnHadK D (p : Int) k ++ dkRead D ((p : Int) + (k : Int)) = _
    rw [show (p : Int) + (k : Int) = (pk : Int) by omega]
   obtain ⟨HA, hHA⟩ : ∃ q, jnHadK D (p : Int) k = q := ⟨_, rfl⟩
   obtain ⟨RD, hRD⟩ : ∃ q, dkRead D (pk : Int) = q := ⟨_, rfl⟩
   rw [hHA] at hnx ho
   rw [hRD] at hnx C2 hrl
   obtain ⟨N1, hN1⟩ : ∃ q, q = n + 256 := ⟨_, rfl⟩
   have HNX := Lib.hid hnx
   have HN1 := Lib.hid hN1
   have HPK := Lib.hid (show pk1 = p + (k + 1) by omega)
   have HN := Lib.hid hn
   have HO := Lib.hid ho
   have hn6 : n ≤ 100000 := by omega
   have QB := Lib.hid (qV.out.up hB)
   have hpk50 : pk < 98 := by omega
   have hmu : p + K - (pk1 : Int).toNat < p + K - (pk : Int).toNat := by omega
   have HMU := Lib.hid hmu
   clear hnx hN1 hn ho hHA hRD hask hKK hpk hpk1 hmu
   go_wp2_with (refine dk_load rfl _ rfl rfl QB.out ?_)
   refine C2.out.mono ?_
   rintro e w3 ⟨A3, n3, c3, rfl, o3, b3⟩
   obtain rfl : n3 = 256 := by rw [← o3.len]; exact hrl
   go_wp2_with (at_builtin; refine wp_appB (w0 := V) rfl _ _ rfl (below_then hB b3) (Nat.le_refl _) (below_then hB b3).size A n c HA rfl (HO.out.upB b3) A3 256 c3 RD rfl o3.rd (by omega) N1 _ HN1.out.symm rfl ?_; intro A4 c4 w4 ho4 hb4 hg4)
   go_roundw
   case rel => exact ⟨k + 1, A4, N1, c4, by omega, by have := HN1.out; have := HN.out; omega, rfl, by rw [HPK.out], by rw [HNX.out]; exact ho4, hb4⟩
   case measure => have := HMU.out; simp [intOf, e1]; omega
  ·obtain rfl : k = K := by omega
   have d1 : decide ((n : Int) < (L : Int)) = false := decide_eq_false (by omega)
   have d1n : decide (n < L) = false := decide_eq_false (by omega)
   have hlen := ho.len
   have HO := Lib.hid (ho.cutR L (by omega))
   have hLn : L ≤ n := by omega
   have hLc : L ≤ c := by have := ho.rd.2.2.1; omega
   have hLc2 : (L : Int) ≤ (c : Int) := by omega
   clear ho hn hpk hpk1 hKK hll hlen
   go_wp2_with fail
   go_ret
   exact ⟨A, L, c, rfl, own_mono HO.out bV.size, below_then bV hB⟩
set_option maxHeartbeats 8000000
def rcZero : Value := .agg (rcV rcZ none 0 0).toArray
theorem rinfo : ∃ i : TypeInfo, Tryz.prog.info? 90 = some i ∧ i.zero = some rcZero ∧ i.size = 39 ∧ i.bytes = 96 := by
 have h : (Tryz.prog.info? 90).map (fun i => (i.zero, i.size, i.bytes)) = some (some rcZero, 39, 96) := by kernel_rfl
 obtain ⟨i, hi, he⟩ := Option.map_eq_some_iff.1 h
 injection he with e1 e2
 injection e2 with e2 e3
 exact ⟨i, hi, e1, e2, e3⟩
theorem own39_form {w : World} {base : Nat} {e : TypeId} {v : Value} {n : Nat} {xs : List Value} (h : w.ownsRow base e 39 v n xs) : ∃ A c, v = .slice A n c := by
 rcases h.2 with ⟨rfl, h0⟩ | ⟨g, cap, cur, rfl, _⟩
 ·exact ⟨none, 0, by rw [h0]⟩
 ·exact ⟨_, _, rfl⟩
theorem run_appR {w : World} (ty : TypeId) (base : Nat) (v : Value) (n : Nat) (xs : List Value) (hown : w.ownsRow base 90 39 v n xs)
  (A : Option Addr) (m c : Nat) (news : List Value) (hr : Rd w A news) (hm : news.length = 39 * m) (h1 : ∀ u ∈ news, u.oneCell' = true)
  (h63 : n + m ≤ 100000) (hbase : base ≤ w.heap.size) :
  ∃ A' c' w', (Builtin.append_ #[73, 73] ty #[v, .slice A m c]).run Tryz.prog w = .ok (.slice A' (n + m) c') w' ∧ w'.ownsRow base 90 39 (.slice A' (n + m) c') (n + m) (xs ++ news) ∧ w.grownBy w' v.ownBlock ∧ ((Value.slice A' (n + m) c').ownBlock = v.ownBlock ∨ (Value.slice A' (n + m) c').ownBlock = some w.heap.size) := by
 obtain ⟨i, hi, hz, hsz, hby⟩ := rinfo
 have hsl : Tryz.prog.underlying 73 = some (.slice 90) := Tryz.underlying73
 have fin : ∀ (v' : Value) (w' : World), w'.ownsRow base 90 39 v' (n + m) (xs ++ news) → ∃ A' c', v' = .slice A' (n + m) c' := fun v' w' h => own39_form h
 by_cases h0 : news = []
 ·subst h0
  obtain rfl : m = 0 := by simp at hm; omega
  rcases A with _ | a
  ·have hrun : (Builtin.append_ #[73, 73] ty #[v, .slice none 0 c]).run Tryz.prog w = .ok v w := by
    rcases hown.2 with ⟨rfl, rfl⟩ | ⟨g, cap, cur, rfl, _, _, hnc, _⟩
    ·simp [Builtin.append_, run_underlying hsl, sizeOf, typeInfo, hi, Builtin.lenOf, Builtin.firstCells]
    ·simp [Builtin.append_, run_underlying hsl, sizeOf, typeInfo, hi, Builtin.lenOf, Builtin.firstCells, hnc, storeCells]
   obtain ⟨A', c', rfl⟩ := fin v w (by simpa using hown)
   exact ⟨A', c', w, by simpa using hrun, by simpa using hown, World.grownBy.refl _ _, .inl rfl⟩
  ·obtain ⟨v', w', hrun, ho, hg, _, hb2⟩ := run_append_own_at (P := Tryz.prog) w base 73 ty 90 i _ 39 96 hsl hi hz hsz hby (by kernel_rfl) (by decide) v n xs hown a 0 c [] (by simp) (by simp) (by simp) (by unfold maxLen; omega) (by omega) hbase
   obtain ⟨A', c', rfl⟩ := fin v' w' ho
   exact ⟨A', c', w', hrun, ho, hg, hb2⟩
 ·rcases hr with h | ⟨b, o, rfl, hb, hc⟩
  ·exact absurd h h0
  ·obtain ⟨v', w', hrun, ho, hg, _, hb2⟩ := run_append_own_at (P := Tryz.prog) w base 73 ty 90 i _ 39 96 hsl hi hz hsz hby (by kernel_rfl) (by decide) v n xs hown ⟨b, o, none⟩ m c news (by omega) (fun j u hj => by
    have := hc j u hj
    rwa [Addr.add_lit]) h1 (by unfold maxLen; omega) (by omega) hbase
   obtain ⟨A', c', rfl⟩ := fin v' w' ho
   exact ⟨A', c', w', hrun, ho, hg, hb2⟩
theorem wp_appR {w : World} {ops : Array Oper} {rest : List Oper} {o : Oper} {a : Act} {Q : Exit → Act → World → Prop} (hgd : o.guard = none) (s x : Operand)
  (ho : o.op = .call { callee := .builtin .append, args := #[s, x], argTypes := #[73, 73] })
  (base : Nat) (v : Value) (n : Nat) (xs : List Value) (hs : a.eval s = v) (hown : w.ownsRow base 90 39 v n xs)
  (A : Option Addr) (m c : Nat) (news : List Value) (hx : a.eval x = .slice A m c) (hr : Rd w A news) (hm : news.length = 39 * m) (h1 : ∀ u ∈ news, u.oneCell' = true)
  (h63 : n + m ≤ 100000) (hbase : base ≤ w.heap.size) (k : Nat) (zs : List Value) (hk : n + m = k) (hz : xs ++ news = zs)
  (h : ∀ A' c' w', w'.ownsRow base 90 39 (.slice A' k c') k zs → w.grownBy w' v.ownBlock → ((Value.slice A' k c').ownBlock = v.ownBlock ∨ (Value.slice A' k c').ownBlock = some w.heap.size) → wpList Tryz.prog ops Q rest (a.put o.dst (.slice A' k c')) w') : wpList Tryz.prog ops Q (o :: rest) a w := by
 subst hk hz
 refine wpList_plain hgd fun K hK => ?_
 obtain ⟨A', c', w', hr, h2, h3, h4⟩ := run_appR (w := w) o.type base v n xs hown A m c news hr hm h1 h63 hbase
 unfold Oper.wp execOp
 simp only [ho, resolve, invoke, builtin, Sem.run_bind, Sem.run_pure, Result.andThen_ok, List.map_toArray, List.map_cons, List.map_nil, hs, hx, hr]
 exact hK _ _ (h A' c' w' h2 h3 h4)
def RcRow (w : World) (base : Nat) (Z : Option Nat) : List Value → List Rc → Prop
 | us, [] => us = []
 | us, r :: l => ∃ B m d rest, us = rcV r B m d ++ rest ∧ r.ok ∧ RdB w B m d r.b ∧ (0 < m → ∀ a, B = some a → base ≤ a.block ∧ Z ≠ some a.block) ∧ RcRow w base Z rest l
theorem RcRow.len {w : World} {base : Nat} {Z : Option Nat} : ∀ {us : List Value} {l : List Rc}, RcRow w base Z us l → us.length = 39 * l.length
 | us, [], h => by rw [show us = [] from h]; rfl
 | us, r :: l, ⟨B, m, d, rest, h1, h2, _, _, h5⟩ => by rw [h1, List.length_append, rcV_len _ _ _ _ h2.2.2.2.2.2.2, RcRow.len h5]; simp; omega
theorem RcRow.keep {w w' : World} {base : Nat} {Z Z' : Option Nat} (hk : ∀ B m d xs, RdB w B m d xs → (0 < m → ∀ a, B = some a → base ≤ a.block ∧ Z ≠ some a.block) → RdB w' B m d xs ∧ (0 < m → ∀ a, B = some a → base ≤ a.block ∧ Z' ≠ some a.block)) : ∀ {us : List Value} {l : List Rc}, RcRow w base Z us l → RcRow w' base Z' us l
 | _, [], h => h
 | _, r :: l, ⟨B, m, d, rest, h1, h2, h3, h4, h5⟩ => ⟨B, m, d, rest, h1, h2, (hk B m d _ h3 h4).1, (hk B m d _ h3 h4).2, RcRow.keep hk h5⟩
theorem RcRow.snoc {w : World} {base : Nat} {Z : Option Nat} {r : Rc} {B : Option Addr} {m d : Nat} (hr : r.ok) (hb : RdB w B m d r.b) (hz : 0 < m → ∀ a, B = some a → base ≤ a.block ∧ Z ≠ some a.block) : ∀ {us : List Value} {l : List Rc}, RcRow w base Z us l → RcRow w base Z (us ++ rcV r B m d) (l ++ [r])
 | us, [], h => by rw [show us = [] from h]; exact ⟨B, m, d, [], by simp, hr, hb, hz, rfl⟩
 | us, x :: l, ⟨B', m', d', rest, h1, h2, h3, h4, h5⟩ => ⟨B', m', d', rest ++ rcV r B m d, by rw [h1, List.append_assoc], h2, h3, h4, RcRow.snoc hr hb hz h5⟩
def OwR (w : World) (base : Nat) (A : Option Addr) (n c : Nat) (l : List Rc) : Prop := ∃ us, w.ownsRow base 90 39 (.slice A n c) n us ∧ RcRow w base (Value.slice A n c).ownBlock us l
theorem owR_nil (w : World) (base : Nat) : OwR w base none 0 0 [] := ⟨[], World.ownsRow_nil w base _ 39, rfl⟩
theorem OwR.len {w : World} {base : Nat} {A : Option Addr} {n c : Nat} {l : List Rc} (h : OwR w base A n c l) : l.length = n := by
 obtain ⟨us, h1, h2⟩ := h
 have := h1.1
 have := h2.len
 omega
theorem own_up {w w' : World} {base : Nat} {e : TypeId} {size n : Nat} {v : Value} {xs : List Value} (h : w.ownsRow base e size v n xs) (hb : Below w.heap.size w w') : w'.ownsRow base e size v n xs := own_agr0 h (below_agr hb (fun _ => False)) (fun _ h => h.elim)
theorem OwR.below {w w' : World} {base : Nat} {A : Option Addr} {n c : Nat} {l : List Rc} (h : OwR w base A n c l) (hb : Below w.heap.size w w') : OwR w' base A n c l := by
 obtain ⟨us, h1, h2⟩ := h
 exact ⟨us, own_up h1 hb, h2.keep (fun B m d xs hx hz => ⟨hx.below hb, hz⟩)⟩
theorem OwR.app {w w' : World} {base : Nat} {A A' B : Option Addr} {n c c' m d : Nat} {l : List Rc} {r : Rc} {us : List Value} (h2 : RcRow w base (Value.slice A n c).ownBlock us l) (ho : w'.ownsRow base 90 39 (.slice A' (n + 1) c') (n + 1) (us ++ rcV r B m d)) (hg : w.grownBy w' (Value.slice A n c).ownBlock) (hr : r.ok) (hb : RdB w B m d r.b) (hz : 0 < m → ∀ a, B = some a → base ≤ a.block ∧ (Value.slice A n c).ownBlock ≠ some a.block)
  (hnew : (Value.slice A' (n + 1) c').ownBlock = (Value.slice A n c).ownBlock ∨ (Value.slice A' (n + 1) c').ownBlock = some w.heap.size) : OwR w' base A' (n + 1) c' (l ++ [r]) := by
 have hk : ∀ B m d xs, RdB w B m d xs → (0 < m → ∀ a, B = some a → base ≤ a.block ∧ (Value.slice A n c).ownBlock ≠ some a.block) → RdB w' B m d xs ∧ (0 < m → ∀ a, B = some a → base ≤ a.block ∧ (Value.slice A' (n + 1) c').ownBlock ≠ some a.block) := fun B m d xs hx hz => by
  rcases hx.1 with h0 | ⟨b, o, rfl, hlt, hc⟩
  ·have hm0 : m = 0 := by have := hx.2.1; simp at h0; rw [h0] at this; simp at this; omega
   exact ⟨⟨.inl h0, hx.2⟩, fun hm => by omega⟩
  ·by_cases hm : 0 < m
   ·have hzz := hz hm _ rfl
    refine ⟨⟨.inr ⟨b, o, rfl, Nat.lt_of_lt_of_le hlt hg.size, fun i v hv => (World.cell?_of_block (hg.block b hlt hzz.2.symm)).trans (hc i v hv)⟩, hx.2⟩, fun _ a ha => ⟨(hz hm a ha).1, fun e => ?_⟩⟩
    rcases hnew with h | h
    ·exact (hz hm a ha).2 (h ▸ e)
    ·rw [h] at e
     injection ha with ha
     injection e with e
     rw [← ha] at e
     simp at e; omega
   ·refine ⟨⟨.inl ?_, hx.2⟩, fun h => absurd h hm⟩
    have : xs = [] := List.eq_nil_of_length_eq_zero (by rw [hx.2.1]; omega)
    rw [this]; rfl
 exact ⟨_, ho, (h2.keep hk).snoc hr (hk _ _ _ _ hb hz).1 (hk _ _ _ _ hb hz).2⟩
set_option maxHeartbeats 8000000
theorem fold_get (i : Nat) : ∀ (l : List Value) (j : Nat) (cs : Array Value), (List.foldl (fun (cs : Array Value) (p : Value × Nat) => cs.setIfInBounds (0 + p.2) p.1) cs (l.zipIdx j))[i]? = if j ≤ i ∧ i < j + l.length ∧ i < cs.size then l[i - j]? else cs[i]?
 | [], j, cs => by rw [if_neg (by simp; omega)]; rfl
 | v :: l, j, cs => by
  rw [List.zipIdx_cons, List.foldl_cons, fold_get i l (j + 1)]
  simp only [Array.size_setIfInBounds, List.length_cons, Nat.zero_add]
  by_cases h1 : j + 1 ≤ i ∧ i < j + 1 + l.length ∧ i < cs.size
  ·rw [if_pos h1, if_pos (by omega), show i - j = (i - (j + 1)) + 1 by omega, List.getElem?_cons_succ]
  ·rw [if_neg h1]
   by_cases h2 : i = j
   ·subst h2
    by_cases h3 : i < cs.size
    ·rw [if_pos (by omega)]; simp [h3]
    ·rw [if_neg (by omega)]; simp [h3]
   ·rw [if_neg (by omega)]
    simp [Array.getElem?_setIfInBounds, Ne.symm h2]
theorem fill_one (K : Nat) (z xs : Array Value) (hz : z.size = K) (hx : xs.size = K) : Instr.fill (fun i => some (i * K, K)) z [(0, .agg xs)] = some xs := by
 unfold Instr.fill
 have h1 : (Value.agg xs).cells = xs := rfl
 simp only [h1, hx, hz, Nat.zero_mul, Nat.zero_add]
 rw [if_neg (by simp)]
 unfold Instr.fill
 congr 1
 rw [← Array.foldl_toList, Array.toList_zipIdx]
 apply Array.ext_getElem?
 intro i
 have := fold_get i xs.toList 0 z
 simp only [Nat.zero_add] at this
 rw [this]
 by_cases hi : i < K
 ·rw [if_pos (by simp [hx, hz]; exact hi)]; simp
 ·rw [if_neg (by simp [hx]; intro h; omega), Array.getElem?_eq_none (by omega), Array.getElem?_eq_none (by omega)]
theorem fill_one0 (K : Nat) {zz : Array Value} {xs : Array Value} (hx : xs.size = K) : Instr.fill (fun i => some (i * K, K)) ((Array.range (1 * K)).map (zz[· % zz.size]!)) [(0, .agg xs)] = some xs := fill_one K _ _ (by rw [Array.size_map, Array.size_range, Nat.one_mul]) hx
theorem wp_litR {ops : Array Oper} {rest : List Oper} {o : Oper} {a : Act} {w : World} {Q : Exit → Act → World → Prop} (hgd : o.guard = none) (x : Operand) (ho : o.op = .buildSlice 73 1 #[(0, x)]) {r : Rc} {A : Option Addr} {n c : Nat} (hx : a.eval x = .agg (rcV r A n c).toArray) (hD : r.D.length = 32)
  (h : ∀ X, X.heap[w.heap.size]? = some (.cells (rcV r A n c).toArray 90 (0, 0)) → Below w.heap.size w X → wpList Tryz.prog ops Q rest (a.put o.dst (.slice (some ⟨w.heap.size, 0, none⟩) 1 1)) X) : wpList Tryz.prog ops Q (o :: rest) a w := by
 obtain ⟨ie, h1, h2, h3, h4⟩ := rinfo
 refine wpList_buildSlice hgd 73 90 1 _ ho (rcV r A n c).toArray ie _ Tryz.underlying73 h1 h2 (by rw [h3]; decide) (by rw [h3]; decide) (by rw [h3]; simp only [List.map_toArray, List.map_cons, List.map_nil, hx]; exact fill_one0 39 (zz := rcZero.cells) (by rw [List.size_toArray, rcV_len _ _ _ _ hD])) (h _ (drw_at _ rfl) ((below_self w).alloc (Nat.le_refl _) _))
def RetRs (w : World) (l : List Rc) (e : Ending) (w' : World) : Prop := ∃ A n c, e = .returned (.slice A n c) ∧ OwR w' w.heap.size A n c l ∧ Below w.heap.size w w'
theorem OwR.agr {P : Nat → Prop} {w W : World} {base : Nat} {A : Option Addr} {n c : Nat} {l : List Rc} (h : OwR w base A n c l) (ha : AgrP P w W) (hs : ∀ j, P j → j < base) : OwR W base A n c l := by
 obtain ⟨us, h1, h2⟩ := h
 refine ⟨us, own_agr0 h1 ha hs, h2.keep (fun B m d xs hx hz => ⟨?_, hz⟩)⟩
 by_cases hm : 0 < m
 ·exact ⟨rd_agr hx.1 ha (fun a e hp => by have := (hz hm a e).1; have := hs _ hp; omega), hx.2⟩
 ·have : xs = [] := List.eq_nil_of_length_eq_zero (by rw [hx.2.1]; omega)
  exact ⟨.inl (by rw [this]; rfl), hx.2⟩
theorem OwR.mono {w : World} {base base' : Nat} {A : Option Addr} {n c : Nat} {l : List Rc} (h : OwR w base A n c l) (hb : base' ≤ base) : OwR w base' A n c l := by
 obtain ⟨us, h1, h2⟩ := h
 have hk : ∀ {us : List Value} {l : List Rc} {Z : Option Nat}, RcRow w base Z us l → RcRow w base' Z us l := by
  intro us l Z
  induction l generalizing us with
  | nil => exact fun h => h
  | cons r l ih => exact fun ⟨B, m, d, rest, a1, a2, a3, a4, a5⟩ => ⟨B, m, d, rest, a1, a2, a3, fun hm a e => ⟨Nat.le_trans hb (a4 hm a e).1, (a4 hm a e).2⟩, ih a5⟩
 exact ⟨us, own_monoK h1 hb, hk h2⟩
def RrI (w V : World) (q : Nat) (D : Dk) (g T : Nat) (l : List Rc) (v i : Value) (Y : World) : Prop := ∃ (k : Nat) (A : Option Addr) (c : Nat) (done : List Rc) (P : List UInt8), k ≤ T ∧ v = .slice A k c ∧ i = .int .i64 (k : Int) ∧ OwR Y (q + 1) A k c done ∧ Y.heap[q]? = some (.cells (dgA P) 30 (0, 0)) ∧ P.length = 32 ∧ l = done ++ jnRecs D g (T - k) k P ∧ Below V.heap.size V Y
theorem sup_dig {w : World} {h g : Nat} {s l : Int} {D : List UInt8} (q : w.heap[h]? = some (.cells (suV g s l D) 33 (0, 0))) : w.rangeAt h 3 (D.map vB) := fun j v hv => by
 rw [cell_of_row w h (3 + j) _ _ _ q, suV3]; exact hv
set_option maxRecDepth 100000 in
theorem jrnRecords_any (AV : Array Value) (D : Dk) (s : Su) (w : World) (v : DkVal AV w D) (hok : dkOk D = true) (hl : 98 ≤ D.s.length) (hg : s.g < 4294967296) (hD : s.D.length = 32) :
  Calls Tryz.prog 72 #[.agg AV, .agg (suV s.g s.s s.l s.D)] w (RetRs w (jnRecs D s.g (D.s.length - 98) 0 s.D)) := by
 obtain ⟨D0, hD0⟩ : ∃ D0 : Array Value, #[.int .u8 0, .int .u8 0, .int .u8 0, .int .u8 0, .int .u8 0, .int .u8 0, .int .u8 0, .int .u8 0, .int .u8 0, .int .u8 0, .int .u8 0, .int .u8 0, .int .u8 0, .int .u8 0, .int .u8 0, .int .u8 0, .int .u8 0, .int .u8 0, .int .u8 0, .int .u8 0, .int .u8 0, .int .u8 0, .int .u8 0, .int .u8 0, .int .u8 0, .int .u8 0, .int .u8 0, .int .u8 0, .int .u8 0, .int .u8 0, .int .u8 0, .int .u8 0] = D0 := ⟨#[.int .u8 0, .int .u8 0, .int .u8 0, .int .u8 0, .int .u8 0, .int .u8 0, .int .u8 0, .int .u8 0, .int .u8 0, .int .u8 0, .int .u8 0, .int .u8 0, .int .u8 0, .int .u8 0, .int .u8 0, .int .u8 0, .int .u8 0, .int .u8 0, .int .u8 0, .int .u8 0, .int .u8 0, .int .u8 0, .int .u8 0, .int .u8 0, .int .u8 0, .int .u8 0, .int .u8 0, .int .u8 0, .int .u8 0, .int .u8 0, .int .u8 0, .int .u8 0], rfl⟩
 have hD0s : D0.size = 32 := by rw [← hD0]; rfl
 have HD0 := Lib.hid hD0
 clear hD0
 obtain ⟨V, hV⟩ : ∃ V, V = (w.alloc (.cells AV 40)).alloc (.cells (suV s.g s.s s.l s.D) 33) := ⟨_, rfl⟩
 have bV : Below w.heap.size w V := by rw [hV]; exact ((below_self w).alloc (Nat.le_refl _) _).alloc (by simp) _
 have zV : V.heap.size = w.heap.size + 2 := by rw [hV]; simp
 have qV : Hid (DkV V w.heap.size AV D) := Lib.hid ⟨by rw [hV]; exact drw_old _ (drw_at _ rfl), v.below bV⟩
 have rV : V.heap[w.heap.size + 1]? = some (.cells (suV s.g s.s s.l s.D) 33 (0, 0)) := by rw [hV]; exact drw_at _ (by simp)
 have RV := Lib.hid rV
 have HV := Lib.hid hV
 have ZV := Lib.hid zV
 obtain ⟨V2, hV2⟩ : ∃ W, W = V.alloc (.cells D0 30) := ⟨_, rfl⟩
 have b2 : Below V.heap.size V V2 := by rw [hV2]; exact (below_self V).alloc (Nat.le_refl _) _
 have r2 : Hid (V2.heap[V.heap.size]? = some (.cells D0 30 (0, 0))) := by rw [hV2]; exact Lib.hid (drw_at _ rfl)
 have HV2 := Lib.hid hV2
 obtain ⟨l, hll⟩ : ∃ l, jnRecs D s.g (D.s.length - 98) 0 s.D = l := ⟨_, rfl⟩
 rw [hll]
 have HLL := Lib.hid hll
 have HOK := Lib.hid hok
 have HDL := Lib.hid hD
 have HG := Lib.hid hg
 obtain ⟨N, hN⟩ : ∃ N, D.s.length = N := ⟨_, rfl⟩
 obtain ⟨T, hT⟩ : ∃ T, T = N - 98 := ⟨_, rfl⟩
 rw [hN] at hl
 have hN256 : N ≤ 256 := by rw [← hN]; exact ((dkOk_iff D).1 hok).1
 have eT : IntKind.i64.wrap ((N : Int) - 98) = (T : Int) := by rw [IntWalk.i64_in _ (by omega)]; omega
 have eT2 : (N : Int) - 98 = (T : Int) := by omega
 have HNN := Lib.hid hN
 have HT := Lib.hid hT
 have HNL := Lib.hid (And.intro hl hN256)
 obtain ⟨K0, kc0, vs0, hc0, hss0⟩ := qV.out.c0
 rw [hN] at hc0
 obtain ⟨V3, hV3⟩ : ∃ W, W = V2.setRow V.heap.size (dgA s.D) := ⟨_, rfl⟩
 have HV3 := Lib.hid hV3
 have R3 : Hid (V3.heap[V.heap.size]? = some (.cells (dgA s.D) 30 (0, 0))) := by rw [hV3]; exact Lib.hid (setRow_heap _ _ _ _ _ _ r2.out)
 have B3 : Hid (Below V.heap.size V V3) := by rw [hV3]; exact Lib.hid (below_setRow b2 (Nat.le_refl _) _)
 replace hc0 := (B3.out.cell (p := ⟨w.heap.size, 0, none⟩) (by show w.heap.size < V.heap.size; omega)).trans hc0
 clear hV3 hV rV zV hV2 hll hok hD hg hN hT v hss0
 go_enter Tryz.func72, Tryz.ntmps72
 go_wp2_with (first
  | (rw [← HV.out])
  | (refine wpList_load_mid rfl 30 _ rfl (w.heap.size + 1) 3 rfl (s.D.map vB) _ (sup_dig RV.out) Tryz.underlying30 rfl (by rw [List.length_map, HDL.out]; kernel_rfl) ?_)
  | (rw [HD0.out, ← HV2.out]; refine dig_store rfl _ _ rfl V.heap.size rfl s.D D0 rfl 30 r2.out HDL.out hD0s ?_; rw [← HV3.out]))
 go_loopw [5, 18] (RrI w V V.heap.size D s.g T l) (fun _ i _ => T - (intOf i).toNat)
 case atStart => exact ⟨0, none, 0, [], s.D, by omega, rfl, rfl, owR_nil _ _, R3.out, HDL.out, by rw [← HLL.out, HNN.out, HT.out]; rfl, B3.out⟩
 case round =>
  obtain ⟨k, A, c, done, P, hk, rfl, rfl, hown, hbox, hPl, hrest, hB⟩ := hrel
  by_cases hlt : k < T
  ·have hNl := HNL.out
   have hTT := HT.out
   obtain ⟨pk, hpk⟩ : ∃ q, q = 98 + k := ⟨98 + k, rfl⟩
   have e1 : IntKind.i64.wrap (98 + (k : Int)) = (pk : Int) := by rw [IntWalk.i64_in _ (by omega)]; omega
   have e2 : 98 + (k : Int) = (pk : Int) := by omega
   have e3 : IntKind.u32.wrap (k : Int) = (k : Int) := by rw [IntKind.wrap_u32]; omega
   have k1 : (k : Int) < (T : Int) := by omega
   have C1 := Lib.hid (vRead (qV.out.up hB).2 (pk : Int) (by omega))
   rw [dkAsk_in D HOK.out pk (by rw [HNN.out]; omega)] at C1
   obtain ⟨RD, hRD⟩ : ∃ q, dkRead D (pk : Int) = q := ⟨_, rfl⟩
   rw [hRD] at C1
   have hstep : jnRecs D s.g (T - k) k P = if rcFolE P s.g k RD = 0 then rcGet RD :: jnRecs D s.g (T - (k + 1)) (k + 1) (rcGet RD).D else [] := by
    rw [show T - k = (T - (k + 1)) + 1 by omega]
    show (if rcFolE P s.g k (dkRead D (98 + (k : Int))) = 0 then _ else _) = _
    rw [show (98 : Int) + (k : Int) = (pk : Int) by omega, hRD]
   rw [hstep] at hrest
   have QB := Lib.hid (qV.out.up hB)
   have HRE := Lib.hid hrest
   have HBX := Lib.hid hbox
   have HPL := Lib.hid hPl
   have HOW := Lib.hid hown
   have hk256 : k < 256 := by omega
   clear hrest hbox hPl hown hpk hTT hNl hstep hRD
   have g0 : wr.cell? ⟨w.heap.size + 1, 0, none⟩ = some (.int .u32 (s.g : Int)) := (cell_of_row wr _ 0 _ _ _ (drw_up RV.out hB)).trans (suV0 ..)
   go_wp2_with (refine dk_load rfl _ rfl rfl QB.out ?_)
   refine C1.out.mono ?_
   rintro e w3 ⟨A3, n3, c3, rfl, o3, b3⟩
   have O3 := Lib.hid o3.rd
   have g3 : w3.cell? ⟨w.heap.size + 1, 0, none⟩ = some (.int .u32 (s.g : Int)) := (cell_of_row w3 _ 0 _ _ _ (drw_up (drw_up RV.out hB) b3)).trans (suV0 ..)
   have BX3 := Lib.hid (drw_up HBX.out b3)
   clear g0 o3
   go_wp2_with (refine dig_load rfl _ rfl V.heap.size rfl P 30 BX3.out HPL.out ?_)
   refine (recFollow_any P HPL.out s.g k A3 n3 c3 RD w3 O3.out).mono ?_
   rintro e w4 ⟨A4, n4, c4, rfl, r4, z4, b4⟩
   obtain ⟨R, hR⟩ : ∃ q, rcFol P s.g k RD = q := ⟨_, rfl⟩
   obtain ⟨E, hE⟩ : ∃ q, rcFolE P s.g k RD = q := ⟨_, rfl⟩
   rw [hR] at r4 ⊢
   rw [hE] at HRE ⊢
   have hRok : R.ok := by
    rw [← hR]; unfold rcFol; split
    ·exact (rcGet_okk RD).1
    ·exact rcZ_ok
   have HRO := Lib.hid hRok
   have B4 := Lib.hid (below_then hB (below_then b3 b4))
   have R4 := Lib.hid r4
   have Z4 := Lib.hid z4
   have OW4 := Lib.hid ((HOW.out.below b3).below b4)
   have BX4 := Lib.hid (drw_up BX3.out b4)
   have hzz := ZV.out
   have HZZ := Lib.hid hzz
   clear hzz
   by_cases hE0 : E = 0
   ·subst hE0
    have hRg : R = rcGet RD := by rw [← hR]; unfold rcFol; rw [if_pos hE]
    rw [if_pos rfl, ← hRg] at HRE
    have hw34 : w3.heap.size ≤ w4.heap.size := b4.size
    have hVw3 : V.heap.size + 1 ≤ w3.heap.size := drw_lt BX3.out
    clear hR hE hRok r4 z4 hRg g3
    have hub : V.heap.size + 1 ≤ w4.heap.size := by omega
    obtain ⟨us, u1, u2⟩ := OW4.out
    have U := Lib.hid (And.intro u1 u2)
    have HW3 := Lib.hid (And.intro hw34 hVw3)
    obtain ⟨K1, hK1⟩ : ∃ q, q = k + 1 := ⟨_, rfl⟩
    have e6 : (k : Int) + 1 = (K1 : Int) := by omega
    have HK1 := Lib.hid hK1
    clear u1 u2 hw34 hVw3 hK1
    go_wp2_with (first
     | (refine rc_fresh rfl _ _ rfl rfl rfl w4 rfl rfl HRO.out.2.2.2.2.2.2 ?_; intro X5 q5 x5)
     | (refine rc_load rfl _ rfl rfl q5.out HRO.out.2.2.2.2.2.2 ?_)
     | (refine wp_litR rfl _ rfl rfl HRO.out.2.2.2.2.2.2 ?_; intro X6 r6 b6)
     | (at_builtin; refine wp_appR rfl _ _ rfl (V.heap.size + 1) _ k us rfl (own_up (own_up U.out.1 x5) b6) _ 1 1 (rcV R A4 n4 c4) rfl (.inr ⟨_, 0, rfl, drw_lt r6, fun i v hv => by rw [cell_of_row X6 _ (0 + i) _ _ _ r6]; simpa using hv⟩) (by rw [rcV_len _ _ _ _ HRO.out.2.2.2.2.2.2]) (rcV_one _ _ _ _) (by omega) (by have := x5.size; have := b6.size; omega) K1 _ HK1.out.symm rfl ?_; intro A7 c7 w7 ho7 hg7 hn7
        have hg7' : X6.grownBy w7 (Value.slice A k c).ownBlock := hg7
        have Q7 : Hid (RcAt w7 w4.heap.size R A4 n4 c4) := Lib.hid ((hg7'.block _ (by have := drw_lt q5.out; have := b6.size; omega) (fun e => by have := (U.out.1.lt _ e.symm).2; omega)).trans (drw_up q5.out b6))
        have X7 : Hid (w7.heap[V.heap.size]? = some (.cells (dgA P) 30 (0, 0))) := Lib.hid ((hg7'.block _ (by have := x5.size; have := b6.size; omega) (fun e => by have := (U.out.1.lt _ e.symm).1; omega)).trans (drw_up (drw_up BX4.out x5) b6)))
     | (refine wpList_load_mid rfl 30 _ rfl w4.heap.size 7 rfl (R.D.map vB) _ (rd_range (Q7.out.dig HRO.out.2.2.2.2.2.2)) Tryz.underlying30 rfl (by rw [List.length_map, HRO.out.2.2.2.2.2.2]; kernel_rfl) ?_)
     | (refine dig_store rfl _ _ rfl V.heap.size rfl R.D (dgA P) rfl 30 X7.out HRO.out.2.2.2.2.2.2 (by rw [dgA_size, HPL.out]) ?_))
    go_roundw
    case rel =>
     have hn7' : (Value.slice A7 K1 c7).ownBlock = (Value.slice A k c).ownBlock ∨ (Value.slice A7 K1 c7).ownBlock = some X6.heap.size := hn7
     have hk1 := HK1.out
     subst hk1
     have h56 := below_then x5 b6
     obtain ⟨us', v1, _⟩ := HOW.out
     have hz6 : 0 < n4 → ∀ a, A4 = some a → V.heap.size + 1 ≤ a.block ∧ (Value.slice A k c).ownBlock ≠ some a.block := fun hm a ha => by
      have h1 := Z4.out hm a ha
      have h2 := HW3.out
      refine ⟨by omega, fun e => ?_⟩
      have h3 := (v1.lt _ e).2
      have h4 := b3.size
      omega
     have hJ7 := OwR.app (U.out.2.keep (w' := X6) (Z' := (Value.slice A k c).ownBlock) (fun B m d xs hx hz => ⟨hx.below h56, hz⟩)) ho7 hg7' HRO.out (R4.out.below h56) hz6 hn7'
     have hb7 : Below V.heap.size V w7 := (below_then B4.out h56).grown hg7' (below_then B4.out h56).size (fun q hq => by have := (U.out.1.lt _ hq).1; omega)
     refine ⟨k + 1, A7, c7, done ++ [R], R.D, by omega, rfl, by go_num, ?_, setRow_heap _ _ _ _ _ _ X7.out, HRO.out.2.2.2.2.2.2, by rw [HRE.out]; simp, below_setRow hb7 (Nat.le_refl _) _⟩
     exact hJ7.agr (P := fun j => j = V.heap.size) ⟨by simp, fun j _ hn => setRow_other _ _ _ _ hn⟩ (fun j hj => by omega)
    case measure => simp [intOf, e6]; omega
   ·have e5 : (E != 0) = true := by simpa using hE0
    rw [if_neg hE0, List.append_nil] at HRE
    clear hR hE hRok r4 z4 g3 hE0
    go_wp2_with (refine rc_fresh rfl _ _ rfl rfl rfl w4 rfl rfl HRO.out.2.2.2.2.2.2 ?_; intro X5 q5 x5)
    go_ret
    refine ⟨A, k, c, rfl, ?_, below_then (below_then bV B4.out) x5⟩
    rw [HRE.out]
    exact (OW4.out.below x5).mono (by have := HZZ.out; omega)
  ·obtain rfl : k = T := by omega
   have e0 : jnRecs D s.g (k - k) k P = [] := by rw [Nat.sub_self]; rfl
   rw [e0, List.append_nil] at hrest
   have HRE := Lib.hid hrest
   have HOW := Lib.hid hown
   clear hrest hown e0 hbox
   have zz := ZV.out
   go_wp2_with fail
   go_ret
   refine ⟨A, k, c, rfl, ?_, below_then bV hB⟩
   rw [HRE.out]
   exact HOW.out.mono (by omega)
set_option maxHeartbeats 8000000
section
variable {ops : Array Oper} {rest : List Oper} {o : Oper} {a : Act} {w : World} {Q : Exit → Act → World → Prop}
theorem su_load (hgd : o.guard = none) (x : Operand) (ho : o.op = .load 33 x) (h : Nat) (hx : a.eval x = .pointer (some ⟨h, 0, none⟩)) (y : Su) (hrow : w.heap[h]? = some (.cells y.v 33 (0, 0))) (hl : y.D.length = 32)
  (hK : wpList Tryz.prog ops Q rest (a.put o.dst (.agg y.v)) w) : wpList Tryz.prog ops Q (o :: rest) a w :=
 wpList_load_row hgd 33 x ho h hx 33 y.v (0, 0) _ hrow Tryz.underlying33 rfl (y.info hl) hK
theorem su_store (hgd : o.guard = none) (x z : Operand) (ho : o.op = .store 33 x z) (h : Nat) (hx : a.eval x = .pointer (some ⟨h, 0, none⟩)) (y old : Su) (hz : a.eval z = .agg y.v) (hrow : w.heap[h]? = some (.cells old.v 33 (0, 0))) (hl : y.D.length = 32) (ho2 : old.D.length = 32)
  (hK : wpList Tryz.prog ops Q rest (a.put o.dst undef) (w.setRow h y.v)) : wpList Tryz.prog ops Q (o :: rest) a w :=
 wpList_store_row hgd 33 x z ho h y.v hx hz 33 old.v hrow (y.info hl) (Su.size _ _ ho2 hl) (suV_one ..) hK
end
end Go.Proofs.YtpahicfnhhhifaaGreat
