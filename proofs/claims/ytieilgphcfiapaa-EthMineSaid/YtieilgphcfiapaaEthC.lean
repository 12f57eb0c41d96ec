/-
  Layer 18, frames: Same, Get.
-/
import Derived.Test.YtieilgphcfiapaaEthB
import Derived.Laws.Cover3
import Derived.Deep.DeepCutAuto
namespace Go.Proofs.Ytieilgphcfiapaa
set_option maxRecDepth 20000
open Go.RowKit
set_option linter.unusedVariables false
set_option linter.unusedSimpArgs false

def frSame (d s : Mc) (k : Nat) (xs : List UInt8) (d' s' : Mc) (k' : Nat) (xs' : List UInt8) : Bool := mcEq d d' && (mcEq s s' && (decide (k = k') && decide (xs = xs')))
theorem same18_any (d s : Mc) (k : Nat) (A : Option Addr) (n c : Nat) (xs : List UInt8) (d' s' : Mc) (k' : Nat) (A' : Option Addr) (n' c' : Nat) (xs' : List UInt8) (w : World) (hr : RdB w A n c xs) (hr' : RdB w A' n' c' xs') :
    Calls Try.prog 24 #[.agg #[.int .u8 (d.a0.toNat : Int), .int .u8 (d.a1.toNat : Int), .int .u8 (d.a2.toNat : Int), .int .u8 (d.a3.toNat : Int), .int .u8 (d.a4.toNat : Int), .int .u8 (d.a5.toNat : Int), .int .u8 (s.a0.toNat : Int), .int .u8 (s.a1.toNat : Int), .int .u8 (s.a2.toNat : Int), .int .u8 (s.a3.toNat : Int), .int .u8 (s.a4.toNat : Int), .int .u8 (s.a5.toNat : Int), .int .u16 k, .slice A n c], .agg #[.int .u8 (d'.a0.toNat : Int), .int .u8 (d'.a1.toNat : Int), .int .u8 (d'.a2.toNat : Int), .int .u8 (d'.a3.toNat : Int), .int .u8 (d'.a4.toNat : Int), .int .u8 (d'.a5.toNat : Int), .int .u8 (s'.a0.toNat : Int), .int .u8 (s'.a1.toNat : Int), .int .u8 (s'.a2.toNat : Int), .int .u8 (s'.a3.toNat : Int), .int .u8 (s'.a4.toNat : Int), .int .u8 (s'.a5.toNat : Int), .int .u16 k', .slice A' n' c']] w (RetV w (.bool (frSame d s k xs d' s' k' xs'))) := by
  have q1 := fun (W : World) => run_eql_mac W d d'
  have q2 := fun (W : World) => run_eql_mac W s s'
  cases h1 : mcEq d d' with
  | false =>
    have hM : frSame d s k xs d' s' k' xs' = false := by unfold frSame; rw [h1]; rfl
    rw [hM]
    clear hM
    go_enter Try.func24, Try.ntmps24
    go_wp2
    go_ret
    exact ⟨rfl, ((below_self w).alloc (Nat.le_refl _) _).alloc (by simp) _⟩
  | true =>
    cases h2 : mcEq s s' with
    | false =>
      have hM : frSame d s k xs d' s' k' xs' = false := by unfold frSame; rw [h1, h2]; rfl
      rw [hM]
      clear hM
      go_enter Try.func24, Try.ntmps24
      go_wp2
      go_ret
      exact ⟨rfl, ((below_self w).alloc (Nat.le_refl _) _).alloc (by simp) _⟩
    | true =>
      by_cases h3 : k = k'
      · have hM : frSame d s k xs d' s' k' xs' = decide (xs = xs') := by unfold frSame; rw [h1, h2, decide_eq_true h3]; rfl
        rw [hM]
        have k3 : ((k : Int) == (k' : Int)) = true := by rw [beq_iff_eq]; omega
        clear hM h3
        go_enter Try.func24, Try.ntmps24
        go_wp2_with fail
        refine (bytes_any _ _ _ _ _ _ xs xs' _ ((hr.alloc _).alloc _) ((hr'.alloc _).alloc _)).mono ?_
        rintro e w1 ⟨rfl, rfl⟩
        go_wp2
        go_ret
        exact ⟨rfl, ((below_self w).alloc (Nat.le_refl _) _).alloc (by simp) _⟩
      · have hM : frSame d s k xs d' s' k' xs' = false := by unfold frSame; rw [h1, h2, decide_eq_false h3]; rfl
        rw [hM]
        have k3 : ((k : Int) == (k' : Int)) = false := by rw [beq_eq_false_iff_ne]; omega
        clear hM h3
        go_enter Try.func24, Try.ntmps24
        go_wp2
        go_ret
        exact ⟨rfl, ((below_self w).alloc (Nat.le_refl _) _).alloc (by simp) _⟩

structure Fr where
  d : Mc
  s : Mc
  k : Nat
  b : List UInt8
def frZero : Fr := ⟨mcZero, mcZero, 0, []⟩
def ethGet (xs : List UInt8) : Fr := if 14 ≤ xs.length ∧ xs.length ≤ 180 then ⟨mcAt xs 0, mcAt xs 6, bev ((xs.drop 12).take 2), xs.drop 14⟩ else frZero
def ethGetE (xs : List UInt8) : Int := if xs.length < 14 then 5 else if 180 < xs.length then 2 else 0
def RetFr (w : World) (f : Fr) (er : Int) (e : Ending) (w' : World) : Prop := ∃ A n c, e = .returned (.tuple #[.agg #[.int .u8 (f.d.a0.toNat : Int), .int .u8 (f.d.a1.toNat : Int), .int .u8 (f.d.a2.toNat : Int), .int .u8 (f.d.a3.toNat : Int), .int .u8 (f.d.a4.toNat : Int), .int .u8 (f.d.a5.toNat : Int), .int .u8 (f.s.a0.toNat : Int), .int .u8 (f.s.a1.toNat : Int), .int .u8 (f.s.a2.toNat : Int), .int .u8 (f.s.a3.toNat : Int), .int .u8 (f.s.a4.toNat : Int), .int .u8 (f.s.a5.toNat : Int), .int .u16 f.k, .slice A n c], .int .i64 er]) ∧ RdB w' A n c f.b ∧ Below w.heap.size w w'

theorem clone18_any (A : Option Addr) (n c : Nat) (xs : List UInt8) (w : World) (hr : RdB w A n c xs) (hm : n ≤ 70368744177664) :
    Calls Try.prog 66 #[.slice A n c] w (RetB w xs) := by
  have kn := fun (W : World) (A : Option Addr) (n c n' c' : Nat) => Lib.run_eql_slice_nil (P := Try.prog) W 25 5 A n c n' c' Try.underlying25
  rcases A with _ | a
  · obtain ⟨h1, h2, h3, h4⟩ := hr
    have hx : xs = [] := by
      rcases h1 with h1 | ⟨b, o, h, _⟩
      · simpa using h1
      · cases h
    subst hx
    go_enter Try.func66, Try.ntmps66
    go_wp2
    go_ret
    exact ⟨none, 0, 0, rfl, OwnB.nilB _ _, Below.refl _ _⟩
  · go_enter Try.func66, Try.ntmps66
    go_wp2_with (at_builtin; refine wp_appB rfl _ _ rfl ((below_self w).alloc (Nat.le_refl _) _) (Nat.le_refl _) (by simp) _ _ _ _ rfl (own0 w) _ _ _ _ rfl (hr.alloc _) (by omega) n xs (by omega) (by simp) ?_; intro A4 c4 w4 ho4 hb4 hg4)
    go_ret
    exact ⟨_, _, _, rfl, ho4, hb4⟩

theorem ethGet_short (A : Option Addr) (n c : Nat) (xs : List UInt8) (w : World) (hr : RdB w A n c xs) (h : n < 14 ∨ 180 < n) :
    Calls Try.prog 20 #[.slice A n c] w (RetFr w frZero (ethGetE xs)) := by
  have hn63 := hr.n63
  by_cases h1 : n < 14
  · have e1 : ethGetE xs = 5 := by unfold ethGetE; rw [hr.2.1, if_pos h1]
    rw [e1]
    have d1 : decide ((n : Int) < 14) = true := decide_eq_true (by omega)
    clear e1 h
    go_enter Try.func20, Try.ntmps20
    go_wp2
    exact bodyPost_ret (v := .tuple #[.agg #[.int .u8 (frZero.d.a0.toNat : Int), .int .u8 (frZero.d.a1.toNat : Int), .int .u8 (frZero.d.a2.toNat : Int), .int .u8 (frZero.d.a3.toNat : Int), .int .u8 (frZero.d.a4.toNat : Int), .int .u8 (frZero.d.a5.toNat : Int), .int .u8 (frZero.s.a0.toNat : Int), .int .u8 (frZero.s.a1.toNat : Int), .int .u8 (frZero.s.a2.toNat : Int), .int .u8 (frZero.s.a3.toNat : Int), .int .u8 (frZero.s.a4.toNat : Int), .int .u8 (frZero.s.a5.toNat : Int), .int .u16 frZero.k, .slice none 0 0], .int .i64 5]) (by simp [results, Try.results20, go_sem, alloc_box, frZero, mcZero]) rfl ⟨_, _, _, rfl, RdB.nilB _, (below_self w).alloc (Nat.le_refl _) _⟩
  · have e1 : ethGetE xs = 2 := by unfold ethGetE; rw [hr.2.1, if_neg h1, if_pos (by omega)]
    rw [e1]
    have d1 : decide ((n : Int) < 14) = false := decide_eq_false (by omega)
    have d2 : decide ((180 : Int) < (n : Int)) = true := decide_eq_true (by omega)
    clear e1 h
    go_enter Try.func20, Try.ntmps20
    go_wp2
    exact bodyPost_ret (v := .tuple #[.agg #[.int .u8 (frZero.d.a0.toNat : Int), .int .u8 (frZero.d.a1.toNat : Int), .int .u8 (frZero.d.a2.toNat : Int), .int .u8 (frZero.d.a3.toNat : Int), .int .u8 (frZero.d.a4.toNat : Int), .int .u8 (frZero.d.a5.toNat : Int), .int .u8 (frZero.s.a0.toNat : Int), .int .u8 (frZero.s.a1.toNat : Int), .int .u8 (frZero.s.a2.toNat : Int), .int .u8 (frZero.s.a3.toNat : Int), .int .u8 (frZero.s.a4.toNat : Int), .int .u8 (frZero.s.a5.toNat : Int), .int .u16 frZero.k, .slice none 0 0], .int .i64 2]) (by simp [results, Try.results20, go_sem, alloc_box, frZero, mcZero]) rfl ⟨_, _, _, rfl, RdB.nilB _, (below_self w).alloc (Nat.le_refl _) _⟩

theorem RdB.mac {w : World} {b o n c : Nat} {xs : List UInt8} (h : RdB w (some ⟨b, o, none⟩) n c xs) (k : Nat) (hk : k + 6 ≤ n) : MacAt w b (o + k) (mcAt xs k) :=
  ⟨h.cellS k (by omega), h.cellS (k + 1) (by omega), h.cellS (k + 2) (by omega), h.cellS (k + 3) (by omega), h.cellS (k + 4) (by omega), h.cellS (k + 5) (by omega)⟩
theorem ethGet_main (A : Option Addr) (n c : Nat) (xs : List UInt8) (w : World) (hr : RdB w A n c xs) (h1 : 14 ≤ n) (h2 : n ≤ 180) :
    Calls Try.prog 20 #[.slice A n c] w (RetFr w ⟨mcAt xs 0, mcAt xs 6, bev ((xs.drop 12).take 2), xs.drop 14⟩ 0) := by
  have hn63 := hr.n63
  have hc := hr.2.2.1
  have hc63 := hr.c63
  have d1 : decide ((n : Int) < 14) = false := decide_eq_false (by omega)
  have d2 : decide ((180 : Int) < (n : Int)) = false := decide_eq_false (by omega)
  obtain ⟨b, o, u, rfl, hbl, _⟩ := hr.at_ 0 (by omega)
  have hnc : (14 : Int) ≤ (c : Int) := by omega
  have hcn : ¬ (c = 12) := by omega
  have kc6 : (6 : Int) ≤ (c : Int) := by omega
  have kc12 : (12 : Int) ≤ (c : Int) := by omega
  have kn14 : (14 : Int) ≤ (n : Int) := by omega
  have knc : (n : Int) ≤ (c : Int) := by omega
  have kn6 : ¬ (c = 6) := by omega
  have kAA := fun (W : World) (a : Option Addr) (c : Nat) => run_arrayAt (P := Try.prog) W 23 5 6 a 6 c Try.underlying23 (Nat.le_refl 6)
  obtain ⟨A2, k14⟩ : ∃ A2, (if c = 14 then some (⟨b, o, none⟩ : Addr) else some ⟨b, o + 14, none⟩) = A2 := ⟨_, rfl⟩
  have hr3 : RdB w A2 (n - 14) (c - 14) (xs.drop 14) := by
    have := hr.drop 14 h1
    rw [← k14]
    simpa [Addr.add_lit] using this
  have hr2 := (hr.cutS 12 (n - 12) (by omega) (by omega)).take 2 (by omega)
  have hK : fromBe ((xs.drop 12).take 2) = bev ((xs.drop 12).take 2) := by unfold fromBe; rw [List.take_of_length_le (by rw [hr2.2.1]; omega)]
  have hK2 : bev ((xs.drop 12).take 2) < 65536 := by have := bev_lt ((xs.drop 12).take 2); rwa [hr2.2.1] at this
  generalize bev ((xs.drop 12).take 2) = Kd at hK hK2 ⊢
  have HK := Lib.hid hK
  clear hK
  have m1 : MacAt w b o (mcAt xs 0) := hr.mac 0 (by omega)
  have m2 := hr.mac 6 (by omega)
  generalize hD : mcAt xs 0 = D at m1 ⊢
  generalize hS : mcAt xs 6 = S at m2 ⊢
  clear hD hS
  go_enter Try.func20, Try.ntmps20
  go_wp2_with fail
  refine (fromBe_any _ _ _ _ _ (hr2.alloc _)).mono ?_
  rintro e w1 ⟨rfl, rfl⟩
  rw [HK.out]
  go_wp2_with fail
  have wk : IntKind.u16.wrap (Kd : Int) = Kd := by rw [IntKind.wrap_u16]; omega
  obtain ⟨W, hW⟩ : ∃ W, W = w.alloc (.cells #[.int .u8 0, .int .u8 0, .int .u8 0, .int .u8 0, .int .u8 0, .int .u8 0, .int .u8 0, .int .u8 0, .int .u8 0, .int .u8 0, .int .u8 0, .int .u8 0, .int .u16 0, .slice none 0 0] 27) := ⟨_, rfl⟩
  rw [← hW]
  have bW : Below w.heap.size w W := by rw [hW]; exact (below_self w).alloc (Nat.le_refl _) _
  have hzW : W.heap.size = w.heap.size + 1 := by rw [hW]; simp
  have hg0 : W.heap[w.heap.size]? = some (.cells #[.int .u8 0, .int .u8 0, .int .u8 0, .int .u8 0, .int .u8 0, .int .u8 0, .int .u8 0, .int .u8 0, .int .u8 0, .int .u8 0, .int .u8 0, .int .u8 0, .int .u16 0, .slice none 0 0] 27 (0, 0)) := by rw [hW]; exact heap_alloc_new w _
  have HZ := Lib.hid hzW
  have HG := Lib.hid hg0
  have hbW : b < W.heap.size := by omega
  have n1 := m1.below bW hbl
  have n2 := m2.below bW hbl
  have hrW := (hr.below bW)
  clear hW hzW hg0
  refine wp_region_plan (S := fun w' => Below w.heap.size w w') [(0, true), (1, true), (2, true), (3, true), (4, true), (5, true), (6, true), (7, true), (8, true), (9, true), (10, true), (11, false), (12, true), (13, false), (14, true)] (by kernel_rfl) (by kernel_rfl) (fun _ _ d _ _ h => by cases d <;> exact h) (bW.drew) ?_
  iterate 11 (refine plan_take (v := ?_) rfl (Or.inl ⟨by rfl, ?_⟩) ?_; rotate_left; (focus (intro w' hw'; obtain ⟨j0, j1, j2, j3, j4, j5⟩ := m1.below hw' hbl; obtain ⟨l0, l1, l2, l3, l4, l5⟩ := m2.below hw' hbl; go_simp <;> with_reducible rfl)); try simp only [Act.put, List.setIfInBounds_toArray, List.set_cons_zero, List.set_cons_succ])
  refine plan_run rfl (fun K hK => ?_)
  go_simp
  refine (clone18_any A2 _ _ _ _ (hr3.below bW).drew (by omega)).mono ?_
  rintro e w3 ⟨A3, n3, c3, rfl, ho3, hb3⟩
  refine hK.out _ _ (below_then bW (undrew hb3)) ?_
  clear hK
  try simp only [Act.put, List.setIfInBounds_toArray, List.set_cons_zero, List.set_cons_succ]
  iterate 1 (refine plan_take (v := ?_) rfl (Or.inl ⟨by rfl, ?_⟩) ?_; rotate_left; (focus (intro w' hw'; obtain ⟨j0, j1, j2, j3, j4, j5⟩ := m1.below hw' hbl; obtain ⟨l0, l1, l2, l3, l4, l5⟩ := m2.below hw' hbl; go_simp <;> with_reducible rfl)); try simp only [Act.put, List.setIfInBounds_toArray, List.set_cons_zero, List.set_cons_succ])
  refine plan_run rfl (fun K hK => ?_)
  rw [if_pos (by rfl)]
  have hg3 : w3.heap[w.heap.size]? = some (.cells #[.int .u8 0, .int .u8 0, .int .u8 0, .int .u8 0, .int .u8 0, .int .u8 0, .int .u8 0, .int .u8 0, .int .u8 0, .int .u8 0, .int .u8 0, .int .u8 0, .int .u16 0, .slice none 0 0] 27 (0, 0)) := by
    rw [hb3.block _ (by simp [HZ.out])]; exact HG.out
  have B4 := below_setRow (below_then bW (undrew hb3)) (Nat.le_refl _) #[.int .u8 (D.a0.toNat : Int), .int .u8 (D.a1.toNat : Int), .int .u8 (D.a2.toNat : Int), .int .u8 (D.a3.toNat : Int), .int .u8 (D.a4.toNat : Int), .int .u8 (D.a5.toNat : Int), .int .u8 (S.a0.toNat : Int), .int .u8 (S.a1.toNat : Int), .int .u8 (S.a2.toNat : Int), .int .u8 (S.a3.toNat : Int), .int .u8 (S.a4.toNat : Int), .int .u8 (S.a5.toNat : Int), .int .u16 Kd, .slice A3 n3 c3]
  refine wp_store_row _ _ _ rfl w.heap.size #[.int .u8 (D.a0.toNat : Int), .int .u8 (D.a1.toNat : Int), .int .u8 (D.a2.toNat : Int), .int .u8 (D.a3.toNat : Int), .int .u8 (D.a4.toNat : Int), .int .u8 (D.a5.toNat : Int), .int .u8 (S.a0.toNat : Int), .int .u8 (S.a1.toNat : Int), .int .u8 (S.a2.toNat : Int), .int .u8 (S.a3.toNat : Int), .int .u8 (S.a4.toNat : Int), .int .u8 (S.a5.toNat : Int), .int .u16 Kd, .slice A3 n3 c3] rfl rfl _ _ hg3 (by kernel_rfl : (Try.prog.info? 27).map (·.size) = some 14) rfl (by simp [Value.oneCell']) ?_
  refine hK.out _ _ (B4) ?_
  clear hK
  try simp only [Act.put, List.setIfInBounds_toArray, List.set_cons_zero, List.set_cons_succ]
  iterate 1 (refine plan_take (v := ?_) rfl (Or.inl ⟨by rfl, ?_⟩) ?_; rotate_left; (focus (intro w' hw'; obtain ⟨j0, j1, j2, j3, j4, j5⟩ := m1.below hw' hbl; obtain ⟨l0, l1, l2, l3, l4, l5⟩ := m2.below hw' hbl; go_simp <;> with_reducible rfl)); try simp only [Act.put, List.setIfInBounds_toArray, List.set_cons_zero, List.set_cons_succ])
  refine plan_done ?_
  go_wp2
  have cs := fun j => cell_setRow_same w3 w.heap.size j _ #[.int .u8 (D.a0.toNat : Int), .int .u8 (D.a1.toNat : Int), .int .u8 (D.a2.toNat : Int), .int .u8 (D.a3.toNat : Int), .int .u8 (D.a4.toNat : Int), .int .u8 (D.a5.toNat : Int), .int .u8 (S.a0.toNat : Int), .int .u8 (S.a1.toNat : Int), .int .u8 (S.a2.toNat : Int), .int .u8 (S.a3.toNat : Int), .int .u8 (S.a4.toNat : Int), .int .u8 (S.a5.toNat : Int), .int .u16 Kd, .slice A3 n3 c3] _ _ hg3
  have hlen3 := ho3.len
  exact bodyPost_ret (v := .tuple #[.agg #[.int .u8 (D.a0.toNat : Int), .int .u8 (D.a1.toNat : Int), .int .u8 (D.a2.toNat : Int), .int .u8 (D.a3.toNat : Int), .int .u8 (D.a4.toNat : Int), .int .u8 (D.a5.toNat : Int), .int .u8 (S.a0.toNat : Int), .int .u8 (S.a1.toNat : Int), .int .u8 (S.a2.toNat : Int), .int .u8 (S.a3.toNat : Int), .int .u8 (S.a4.toNat : Int), .int .u8 (S.a5.toNat : Int), .int .u16 Kd, .slice A3 n3 c3], .int .i64 0]) (by simp [results, Try.results20, go_sem, cs]) rfl ⟨_, _, _, rfl, rd_row ho3.rd _ _ (fun hn a ha => by obtain ⟨g, hg, h1, _⟩ := ho3.addr hn; rw [hg] at ha; cases ha; simp [HZ.out] at h1; simp; omega), B4⟩
end Go.Proofs.Ytieilgphcfiapaa
