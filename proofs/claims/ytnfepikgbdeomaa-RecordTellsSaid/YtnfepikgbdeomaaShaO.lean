/-
  Layer 3: digests (the document): Of, Link.
-/
import Derived.Test.YtnfepikgbdeomaaShaK
import Derived.Test.YtnfepikgbdeomaaShaN
namespace Go.Proofs.Ytnfepikgbdeomaa
set_option maxRecDepth 20000
open Go.RowKit Go.Shelf
set_option linter.unusedVariables false
set_option linter.unusedSimpArgs false
set_option maxHeartbeats 8000000
attribute [local go_sem] Oper.semAt_some

/-- Between two rounds of Of's first loop. -/
def RoI (w W : World) (g3 : Nat) (X : H8) (AL : List UInt8) (M : Nat) (i : Value) (wr : World) : Prop :=
  ∃ k : Nat, k ≤ M ∧ i = .int .i64 k ∧ wr.heap[g3]? = some (.cells (wsV (shFold X AL k).l) 127 (0, 0)) ∧ KpX W.heap.size g3 W wr ∧ Below w.heap.size w wr
/-- The digest, the first k bytes of which are laid. -/
def dgQ (D : List UInt8) (k : Nat) : List UInt8 := D.take k ++ List.replicate (32 - k) 0
theorem dgQ_zero (D : List UInt8) : dgQ D 0 = List.replicate 32 0 := by simp [dgQ]
theorem dgQ_all (D : List UInt8) (h : D.length = 32) : dgQ D 32 = D := by unfold dgQ; rw [List.take_of_length_le (by omega)]; simp
theorem dgQ_set (D : List UInt8) (k : Nat) (h : D.length = 32) (hk : k < 32) : (dgQ D k).set k (D.getD k 0) = dgQ D (k + 1) := by
  unfold dgQ
  have e : (D.take k).length = k := by rw [List.length_take]; omega
  rw [List.set_append_right _ _ (by omega), e, Nat.sub_self, show 32 - k = (32 - (k + 1)) + 1 by omega, List.replicate_succ, List.set_cons_zero]
  have e3 : D.take (k + 1) = D.take k ++ [D.getD k 0] := by
    rw [List.take_add_one, List.getElem?_eq_getElem (by omega)]
    simp [List.getD, List.getElem?_eq_getElem (show k < D.length by omega)]
  rw [e3, List.append_assoc]; rfl
theorem dgA_set (D : List UInt8) (k : Nat) (u : UInt8) : (dgA D).setIfInBounds k (.int .u8 (u.toNat : Int)) = dgA (D.set k u) := by
  apply Array.ext'
  simp [dgA, vB, List.map_set]
/-- A digest's byte. -/
theorem shDig_byte (y : H8) (k : Nat) (h : k < 32) : (((shDig y).getD k 0).toNat : Nat) = y.l.getD (k / 4) 0 / 2 ^ (24 - 8 * (k % 4)) % 256 := by
  have b4 : ∀ n : Nat, beB n 4 = [UInt8.ofNat (n / 256 ^ 3), UInt8.ofNat (n / 256 ^ 2), UInt8.ofNat (n / 256 ^ 1), UInt8.ofNat (n / 256 ^ 0)] := fun n => rfl
  match k, h with
  | 0, _ | 1, _ | 2, _ | 3, _ | 4, _ | 5, _ | 6, _ | 7, _ | 8, _ | 9, _ | 10, _ | 11, _ | 12, _ | 13, _ | 14, _ | 15, _ | 16, _ | 17, _ | 18, _ | 19, _ | 20, _ | 21, _ | 22, _ | 23, _ | 24, _ | 25, _ | 26, _ | 27, _ | 28, _ | 29, _ | 30, _ | 31, _ => simp [shDig, H8.l, b4]
  | k + 32, h => omega
def RoL (g2 g3 g6 : Nat) (W : World) (D0 : Array Value) (y : H8) (DG : List UInt8) (i : Value) (wr : World) : Prop :=
  ∃ k : Nat, k ≤ 32 ∧ i = .int .i64 k ∧ wr.heap[g6]? = some (.cells (dgA (dgQ DG k)) 67 (0, 0)) ∧ wr.heap[g3]? = some (.cells (wsV y.l) 127 (0, 0)) ∧ wr.heap[g2]? = some (.cells D0 67 (0, 0)) ∧ Below W.heap.size W wr
set_option maxRecDepth 100000 in
theorem refShaOf_any (A : Option Addr) (n c : Nat) (xs : List UInt8) (w : World) (hr : RdB w A n c xs) (hn : n ≤ 1000000) : Calls Try.prog 39 #[.slice A n c] w (RetDg w (shOf xs)) := by
  obtain ⟨X, hX⟩ : ∃ X, shBegin = X := ⟨shBegin, rfl⟩
  have hXo : X.ok := hX ▸ shBegin_ok
  obtain ⟨AL, hAL⟩ : ∃ AL, shAll xs = AL := ⟨shAll xs, rfl⟩
  obtain ⟨PD, hPD⟩ : ∃ PD, shPad n = PD := ⟨shPad n, rfl⟩
  have hPl : PD.length = 9 + (119 - n % 64) % 64 := by rw [← hPD, shPad_len]
  have hPl2 : PD.length ≤ 100 := by omega
  have hall : AL = xs ++ PD := by rw [← hAL, shAll, hr.2.1, hPD]
  obtain ⟨M, hM⟩ : ∃ M, M = AL.length / 64 := ⟨_, rfl⟩
  have hL4 : AL.length = 64 * M := by rw [hM, ← hAL, shAll_len]; omega
  have hM1 : 1 ≤ M := by rw [hM, ← hAL, shAll_len]; omega
  have hMb : M ≤ 20000 := by have h1 : AL.length = n + PD.length := (by rw [hall, List.length_append, hr.2.1]); omega
  obtain ⟨DG, hDG⟩ : ∃ DG, shOf xs = DG := ⟨shOf xs, rfl⟩
  have hDGl : DG.length = 32 := by rw [← hDG]; exact shOf_len xs
  have hDGe : shDig (shFold X AL M) = DG := by rw [← hDG, ← hX, hM, ← hAL]; rfl
  have hgb : ∀ k, k < 32 → (DG.getD k 0).toNat = (shFold X AL M).l.getD (k / 4) 0 / 2 ^ (24 - 8 * (k % 4)) % 256 := fun k hk => by rw [← hDGe]; exact shDig_byte _ k hk
  rw [hDG]
  have HPD := Lib.hid hPD
  have HALL := Lib.hid hall
  have HL4 := Lib.hid hL4
  have HX0 : Hid (shBegin = X) := Lib.hid hX
  have HGB := Lib.hid hgb
  have HXF := Lib.hid (fun k => shFold_ok hXo AL k)
  clear hX hXo hAL hPD hPl hall hM hL4 hDG hDGe hgb
  obtain ⟨D0, hD0⟩ : ∃ D0 : Array Value, #[.int .u8 0, .int .u8 0, .int .u8 0, .int .u8 0, .int .u8 0, .int .u8 0, .int .u8 0, .int .u8 0, .int .u8 0, .int .u8 0, .int .u8 0, .int .u8 0, .int .u8 0, .int .u8 0, .int .u8 0, .int .u8 0, .int .u8 0, .int .u8 0, .int .u8 0, .int .u8 0, .int .u8 0, .int .u8 0, .int .u8 0, .int .u8 0, .int .u8 0, .int .u8 0, .int .u8 0, .int .u8 0, .int .u8 0, .int .u8 0, .int .u8 0, .int .u8 0] = D0 := ⟨#[.int .u8 0, .int .u8 0, .int .u8 0, .int .u8 0, .int .u8 0, .int .u8 0, .int .u8 0, .int .u8 0, .int .u8 0, .int .u8 0, .int .u8 0, .int .u8 0, .int .u8 0, .int .u8 0, .int .u8 0, .int .u8 0, .int .u8 0, .int .u8 0, .int .u8 0, .int .u8 0, .int .u8 0, .int .u8 0, .int .u8 0, .int .u8 0, .int .u8 0, .int .u8 0, .int .u8 0, .int .u8 0, .int .u8 0, .int .u8 0, .int .u8 0, .int .u8 0], rfl⟩
  have HD0 := Lib.hid hD0
  have H1 := Lib.hid (show ((w.alloc (.cells #[.int .u8 0, .int .u8 0, .int .u8 0, .int .u8 0, .int .u8 0, .int .u8 0, .int .u8 0, .int .u8 0, .int .u8 0, .int .u8 0, .int .u8 0, .int .u8 0, .int .u8 0, .int .u8 0, .int .u8 0, .int .u8 0, .int .u8 0, .int .u8 0, .int .u8 0, .int .u8 0, .int .u8 0, .int .u8 0, .int .u8 0, .int .u8 0, .int .u8 0, .int .u8 0, .int .u8 0, .int .u8 0, .int .u8 0, .int .u8 0, .int .u8 0, .int .u8 0] 67)).alloc (.cells #[.int .u32 0, .int .u32 0, .int .u32 0, .int .u32 0, .int .u32 0, .int .u32 0, .int .u32 0, .int .u32 0] 127)).heap[w.heap.size + 1]? = some (.cells (wsV z8) 127 (0, 0)) by rw [z8_V]; exact row2b ..)
  have H0 := Lib.hid (show ((w.alloc (.cells #[.int .u8 0, .int .u8 0, .int .u8 0, .int .u8 0, .int .u8 0, .int .u8 0, .int .u8 0, .int .u8 0, .int .u8 0, .int .u8 0, .int .u8 0, .int .u8 0, .int .u8 0, .int .u8 0, .int .u8 0, .int .u8 0, .int .u8 0, .int .u8 0, .int .u8 0, .int .u8 0, .int .u8 0, .int .u8 0, .int .u8 0, .int .u8 0, .int .u8 0, .int .u8 0, .int .u8 0, .int .u8 0, .int .u8 0, .int .u8 0, .int .u8 0, .int .u8 0] 67)).alloc (.cells #[.int .u32 0, .int .u32 0, .int .u32 0, .int .u32 0, .int .u32 0, .int .u32 0, .int .u32 0, .int .u32 0] 127)).heap[w.heap.size]? = some (.cells #[.int .u8 0, .int .u8 0, .int .u8 0, .int .u8 0, .int .u8 0, .int .u8 0, .int .u8 0, .int .u8 0, .int .u8 0, .int .u8 0, .int .u8 0, .int .u8 0, .int .u8 0, .int .u8 0, .int .u8 0, .int .u8 0, .int .u8 0, .int .u8 0, .int .u8 0, .int .u8 0, .int .u8 0, .int .u8 0, .int .u8 0, .int .u8 0, .int .u8 0, .int .u8 0, .int .u8 0, .int .u8 0, .int .u8 0, .int .u8 0, .int .u8 0, .int .u8 0] 67 (0, 0)) by exact row2a ..)
  clear hD0
  go_enter Try.func39, Try.ntmps39
  go_wp2_with (first
    | (at_builtin; go_loud (refine wp_appB rfl _ _ rfl ((below_self V1).alloc (Nat.le_refl _) _) (Nat.le_refl _) (by simp) _ _ _ _ rfl (own0 V1) A n c xs rfl ((hr.below bV1).alloc _) (by omega) n xs (by omega) (by simp) ?_); intro A3 c3 w3 ho3 hb3 hg3)
    | (refine w8_store rfl _ _ rfl (w.heap.size + 1) rfl shBegin.l z8 rfl 127 H1.out rfl rfl ?_; obtain ⟨V1, hV⟩ : ∃ V, V = (((w.alloc (.cells #[.int .u8 0, .int .u8 0, .int .u8 0, .int .u8 0, .int .u8 0, .int .u8 0, .int .u8 0, .int .u8 0, .int .u8 0, .int .u8 0, .int .u8 0, .int .u8 0, .int .u8 0, .int .u8 0, .int .u8 0, .int .u8 0, .int .u8 0, .int .u8 0, .int .u8 0, .int .u8 0, .int .u8 0, .int .u8 0, .int .u8 0, .int .u8 0, .int .u8 0, .int .u8 0, .int .u8 0, .int .u8 0, .int .u8 0, .int .u8 0, .int .u8 0, .int .u8 0] 67)).alloc (.cells #[.int .u32 0, .int .u32 0, .int .u32 0, .int .u32 0, .int .u32 0, .int .u32 0, .int .u32 0, .int .u32 0] 127)).setRow (w.heap.size + 1) (wsV shBegin.l)) := ⟨_, rfl⟩; rw [← hV]; have bV1 : Below w.heap.size w V1 := (by rw [hV]; exact below_setRow (((below_self w).alloc (Nat.le_refl _) _).alloc (by simp) _) (by omega) _); have zV1 : w.heap.size + 1 < V1.heap.size := (by rw [hV]; simp); have K1 := Lib.hid (show V1.heap[w.heap.size + 1]? = some (.cells (wsV X.l) 127 (0, 0)) by rw [hV, ← HX0.out]; exact setRow_heap _ _ _ (wsV shBegin.l) _ _ H1.out); have K0 := Lib.hid (show V1.heap[w.heap.size]? = some (.cells D0 67 (0, 0)) by rw [hV, ← HD0.out]; exact (setRow_other _ _ _ _ (by omega)).trans H0.out); clear hV))
  refine (refPad_any n w3 hn).mono ?_
  rw [HPD.out]
  rintro e_ w4 ⟨A4, n4, c4, rfl, ho4, hb4⟩
  have hn4 : n4 ≤ 100 := by rw [← ho4.len]; exact hPl2
  have B34 := below_then hb3 hb4
  obtain ⟨N, hN⟩ : ∃ N, N = n + n4 := ⟨_, rfl⟩
  have HN := Lib.hid hN
  clear hN
  go_wp2_with (at_builtin; refine wp_appB rfl _ _ rfl B34 (Nat.le_refl _) B34.size A3 n c3 xs rfl (ho3.below hb4) A4 n4 c4 PD rfl ho4.rd (by omega) N AL HN.out.symm (by rw [HALL.out]) ?_; intro A5 c5 w5 ho5 hb5 hg5)
  have hN64 : N = 64 * M := by rw [← ho5.len, HL4.out]
  obtain ⟨b5, o5, u5, rfl, hb5lt, -⟩ := ho5.rd.at_ 0 (by omega)
  have hlow : V1.heap.size ≤ b5 := own_lo1 ho5
  have hr5 := ho5.rd
  have hc5 := hr5.2.2.1
  have hc63 := hr5.c63
  have z5 := hb5.size
  have g3r := (hb5.block (w.heap.size + 1) zV1).trans K1.out
  have g2r := Lib.hid ((hb5.block w.heap.size (by omega)).trans K0.out)
  have B5 : Below w.heap.size w w5 := below_then bV1 hb5
  have hNM : (N : Int) / 64 = (M : Int) := by omega
  have HN64 := Lib.hid hN64
  have hNb : N ≤ 2000000 := by omega
  clear hN64
  clear ho3 hb3 hg3 ho4 hb4 hg5 B34 HN K1 K0 hPl2 HPD H0 H1 hr
  go_loopw [5] (RoI w w5 (w.heap.size + 1) X AL M) (fun i _ => M - (intOf i).toNat)
  case atStart => exact ⟨0, Nat.zero_le _, rfl, g3r, KpX.refl _ _ _, B5⟩
  case round =>
    obtain ⟨k, hk, rfl, hrow, hK, hB⟩ := hrel
    by_cases hlt : k < M
    · have hN64 := HN64.out
      have hx := HXF.out k
      obtain ⟨p, hp⟩ : ∃ p, p = 64 * k := ⟨_, rfl⟩
      have rb : RdB wr (some ⟨b5, o5, none⟩) N c5 AL := rdB_block hr5 hK.1 (hK.2 b5 hb5lt (by omega))
      have rc := (rb.cutS p (N - p) (by omega) (by omega)).take 64 (by omega)
      have hstep : shFold X AL (k + 1) = shTurn (shFold X AL k) ((AL.drop p).take 64) := by rw [hp]; rfl
      obtain ⟨q, hq⟩ : ∃ q, q = p + 64 := ⟨_, rfl⟩
      have a1 : (64 : Int) * (k : Int) = (p : Int) := by omega
      have a2 : (p : Int) + 64 = (q : Int) := by omega
      have a3 : (q : Int) ≤ (c5 : Int) := by omega
      have a4 : ¬ (c5 = p) := by omega
      have a5 : q - p = 64 := by omega
      have a6 : (p : Int) ≤ (q : Int) := by omega
      have hlt' : (k : Int) < (M : Int) := by omega
      have wp := wi64n (k := p) (by omega)
      have wq := wi64n (k := q) (by omega)
      have wm : max (q : Int) 0 = (q : Int) := by omega
      have hgw : w.heap.size + 1 < wr.heap.size := (Array.getElem?_eq_some_iff.1 hrow).1
      generalize shFold X AL k = y at *
      have HS := Lib.hid hstep
      have HR := Lib.hid hrow
      have HRC := Lib.hid rc
      clear hstep hrow rb rc g3r hp hq hN64
      go_wp2_with fail
      refine wp_region_last (S := fun w' => Below wr.heap.size wr w') 9 #[true, true, true, true, true, true, true, true, true, false] [(0, true), (1, true), (2, true), (3, true), (4, true), (5, true), (6, true), (7, true), (8, false)] (by kernel_rfl) (by kernel_rfl) (fun _ _ d _ _ h => by cases d <;> exact h) ((Below.refl _ wr).drew) ?_
      refine seg_take (v := .agg (wsV y.l)) rfl (Or.inl ⟨by rfl, fun w' hw' => ?_⟩) ?_
      focus (exact ex_loadP rfl rfl (load8 ((hw'.block _ hgw).trans HR.out) rfl))
      try simp only [Act.put, List.setIfInBounds_toArray, List.set_cons_zero, List.set_cons_succ]
      iterate 7 (refine seg_take (v := ?_) rfl (Or.inl ⟨by rfl, ?_⟩) ?_; rotate_left; (focus (intro w' hw'; go_simp <;> with_reducible rfl)); try simp only [Act.put, List.setIfInBounds_toArray, List.set_cons_zero, List.set_cons_succ])
      refine seg_run rfl (fun K hK => ?_)
      go_simp
      refine (refTurn_any y _ 64 _ _ _ hx (HRC.out.below (Below.refl _ wr).drew)).mono ?_
      rintro e_ w7 ⟨rfl, hb7⟩
      have HB7 : Below wr.heap.size wr w7 := below_then (Below.refl _ wr).drew hb7
      refine hK.out _ _ (HB7) ?_
      clear hK
      try simp only [Act.put, List.setIfInBounds_toArray, List.set_cons_zero, List.set_cons_succ]
      refine seg_done ?_
      refine last_run rfl (fun K hK => ?_)
      have R7 := (HB7.block _ hgw).trans HR.out
      refine wp_store_row 127 _ _ rfl (w.heap.size + 1) (wsV (shTurn y ((AL.drop p).take 64)).l) rfl rfl 127 (wsV y.l) R7 (info8 _ rfl) (by rw [wsV_size, wsV_size]; rfl) (wsV_one _) ?_
      refine hK.out _ _ ?_
      clear hK
      try simp only [Act.put, List.setIfInBounds_toArray, List.set_cons_zero, List.set_cons_succ]
      have R7 := (HB7.block _ hgw).trans HR.out
      have z7 := HB7.size
      go_wp2_with fail
      go_roundw
      case rel =>
        refine ⟨k + 1, by omega, by go_num, ?_, ⟨by have := hK.1; simp; omega, fun j hj hjg => (setRow_other _ _ _ _ hjg).trans ((HB7.block j (by have := hK.1; omega)).trans (hK.2 j hj hjg))⟩, below_setRow (hB.trans (HB7.mono hB.size)) (by omega) _⟩
        rw [HS.out]
        exact setRow_heap _ _ _ (wsV _) _ _ R7
      case measure => simp [intOf]; omega
    · obtain rfl : k = M := by omega
      have hgw : w.heap.size + 1 < wr.heap.size := (Array.getElem?_eq_some_iff.1 hrow).1
      have g2 := Lib.hid ((hK.2 w.heap.size (by omega) (by omega)).trans g2r.out)
      have HR := Lib.hid hrow
      have hyo := HXF.out k
      obtain ⟨y, hy⟩ : ∃ y, shFold X AL k = y := ⟨_, rfl⟩
      rw [hy] at HR hyo HGB
      have HYO := Lib.hid hyo
      clear hrow hyo hy g3r
      have HD := Lib.hid (heap_alloc_new wr (.cells #[.int .u8 0, .int .u8 0, .int .u8 0, .int .u8 0, .int .u8 0, .int .u8 0, .int .u8 0, .int .u8 0, .int .u8 0, .int .u8 0, .int .u8 0, .int .u8 0, .int .u8 0, .int .u8 0, .int .u8 0, .int .u8 0, .int .u8 0, .int .u8 0, .int .u8 0, .int .u8 0, .int .u8 0, .int .u8 0, .int .u8 0, .int .u8 0, .int .u8 0, .int .u8 0, .int .u8 0, .int .u8 0, .int .u8 0, .int .u8 0, .int .u8 0, .int .u8 0] 67))
      go_wp2_with fail
      obtain ⟨W, hW⟩ : ∃ W, W = wr.alloc (.cells #[.int .u8 0, .int .u8 0, .int .u8 0, .int .u8 0, .int .u8 0, .int .u8 0, .int .u8 0, .int .u8 0, .int .u8 0, .int .u8 0, .int .u8 0, .int .u8 0, .int .u8 0, .int .u8 0, .int .u8 0, .int .u8 0, .int .u8 0, .int .u8 0, .int .u8 0, .int .u8 0, .int .u8 0, .int .u8 0, .int .u8 0, .int .u8 0, .int .u8 0, .int .u8 0, .int .u8 0, .int .u8 0, .int .u8 0, .int .u8 0, .int .u8 0, .int .u8 0] 67) := ⟨_, rfl⟩
      have bW : Below wr.heap.size wr W := by rw [hW]; exact (below_self wr).alloc (Nat.le_refl _) _
      have zW : W.heap.size = wr.heap.size + 1 := by rw [hW]; simp
      have rW : W.heap[wr.heap.size]? = some (.cells (dgA (dgQ DG 0)) 67 (0, 0)) := by rw [hW, dgQ_zero]; exact heap_alloc_new wr _
      rw [← hW]
      have G2 := (bW.block w.heap.size (by omega)).trans g2.out
      have G3 := (bW.block (w.heap.size + 1) hgw).trans HR.out
      have BW := below_then hB bW
      obtain ⟨g6, hg6⟩ : ∃ g, g = wr.heap.size := ⟨_, rfl⟩
      rw [← hg6] at rW zW ⊢
      have hg36 : w.heap.size + 1 < g6 := by omega
      have HZW := Lib.hid zW
      clear hW hg6 HD zW
      go_loopw [7] (fun i w2 => ∃ j : Nat, j ≤ 32 ∧ i = .int .i64 j ∧ w2.heap[g6]? = some (.cells (dgA (dgQ DG j)) 67 (0, 0)) ∧ w2.heap[w.heap.size + 1]? = some (.cells (wsV y.l) 127 (0, 0)) ∧ w2.heap[w.heap.size]? = some (.cells D0 67 (0, 0)) ∧ Below w.heap.size w w2) (fun i _ => 32 - (intOf i).toNat)
      case atStart => exact ⟨0, by omega, rfl, rW, G3, G2, BW⟩
      case round =>
        clear rW G2 G3 BW bW hgw hB hK g2 HR
        obtain ⟨j, hj, rfl, q6, q3, q2, hB⟩ := hrel
        by_cases hlt : j < 32
        · have hb := HGB.out j hlt
          obtain ⟨a, ha⟩ : ∃ a, a = j / 4 := ⟨_, rfl⟩
          obtain ⟨r, hr⟩ : ∃ a, a = j % 4 := ⟨_, rfl⟩
          obtain ⟨e, he⟩ : ∃ a, a = 8 * r := ⟨_, rfl⟩
          obtain ⟨s, hs⟩ : ∃ a, a = 24 - e := ⟨_, rfl⟩
          rw [← ha, ← hr, ← he, ← hs] at hb
          have ha8 : a < 8 := by omega
          have hyv := H8.l_lt HYO.out a
          have c3 := (cell_of_row _ _ a _ _ _ q3).trans (wsV_get _ a ha8)
          have HS := Lib.hid (dgQ_set DG j hDGl hlt)
          have hlen : (dgQ DG j).length = 32 := by simp [dgQ, hDGl]; omega
          obtain ⟨ov, hov⟩ : ∃ v, (dgA (dgQ DG j))[j]? = some v := ⟨_, Array.getElem?_eq_getElem (by rw [dgA_size, hlen]; exact hlt)⟩
          have c6 := (cell_of_row _ _ j _ _ _ q6).trans hov
          have f6 := frozen_of_row _ _ j _ _ q6
          generalize y.l.getD a 0 = v at *
          obtain ⟨u, hu⟩ : ∃ u, DG.getD j 0 = u := ⟨_, rfl⟩
          rw [hu] at hb HS
          obtain ⟨V, hV⟩ : ∃ V, V = v / 2 ^ s := ⟨_, rfl⟩
          rw [← hV] at hb
          have b1 : (j : Int) / 4 = (a : Int) := by omega
          have b2 : (j : Int) % 4 = (r : Int) := by omega
          have b3 : (8 : Int) * (r : Int) = (e : Int) := by omega
          have b4 : (24 : Int) - (e : Int) = (s : Int) := by omega
          have b5 := w64n (k := s) (by omega)
          have b6 : (v : Int) / 2 ^ s = (V : Int) := by rw [hV]; push_cast; rfl
          have b7 : IntKind.u8.wrap (V : Int) = (u.toNat : Int) := by rw [IntKind.wrap_u8, hb]; omega
          have b8 : (a : Int) < 8 := by omega
          have b9 : (j : Int) < 32 := by omega
          have s24 : s ≤ 24 := by omega
          have Q6 := Lib.hid q6
          have Q3 := Lib.hid q3
          have Q2 := Lib.hid q2
          clear hb ha hr he hs hu hV hov hlen q6 q3 q2
          go_wp2_with fail
          go_roundw
          case rel =>
            refine ⟨j + 1, by omega, by go_num, ?_, (Below.heap_setCell _ _ _ _ (by show w.heap.size + 1 ≠ g6; omega)).trans Q3.out, (Below.heap_setCell _ _ _ _ (by show w.heap.size ≠ g6; omega)).trans Q2.out, hB.setCell (p := ⟨g6, j, none⟩) (by show w.heap.size ≤ g6; omega) _⟩
            rw [setc_rowT Q6.out, dgA_set, HS.out]
          case measure => simp [intOf]; omega
        · obtain rfl : j = 32 := by omega
          rw [dgQ_all DG hDGl] at q6
          have Q6 := Lib.hid q6
          have Q2 := Lib.hid q2
          have hD0s : D0.size = 32 := by rw [← HD0.out]; rfl
          have HDl := Lib.hid hDGl
          clear q6 q3 q2
          go_wp2_with (first
            | (refine dig_load rfl _ rfl g6 rfl DG 67 Q6.out HDl.out ?_)
            | (refine dig_store rfl _ _ rfl w.heap.size rfl DG D0 rfl 67 Q2.out HDl.out hD0s ?_))
          refine bodyPost_ret (results_cell_row Try.results39 _ _ w.heap.size 67 (dgA DG) (0, 0) _ rfl (setRow_heap _ _ _ (dgA DG) _ _ Q2.out) Try.underlying67 rfl (infoD DG HDl.out)) rfl ?_
          exact ⟨rfl, below_setRow hB (Nat.le_refl _) _⟩
set_option maxRecDepth 100000 in
theorem refLink_any (D : List UInt8) (hD : D.length = 32) (A : Option Addr) (n c : Nat) (xs : List UInt8) (w : World) (hr : RdB w A n c xs) (hn : n ≤ 999000) : Calls Try.prog 91 #[.agg (dgA D), .slice A n c] w (RetDg w (shLink D xs)) := by
  obtain ⟨D0, hD0⟩ : ∃ D0 : Array Value, #[.int .u8 0, .int .u8 0, .int .u8 0, .int .u8 0, .int .u8 0, .int .u8 0, .int .u8 0, .int .u8 0, .int .u8 0, .int .u8 0, .int .u8 0, .int .u8 0, .int .u8 0, .int .u8 0, .int .u8 0, .int .u8 0, .int .u8 0, .int .u8 0, .int .u8 0, .int .u8 0, .int .u8 0, .int .u8 0, .int .u8 0, .int .u8 0, .int .u8 0, .int .u8 0, .int .u8 0, .int .u8 0, .int .u8 0, .int .u8 0, .int .u8 0, .int .u8 0] = D0 := ⟨#[.int .u8 0, .int .u8 0, .int .u8 0, .int .u8 0, .int .u8 0, .int .u8 0, .int .u8 0, .int .u8 0, .int .u8 0, .int .u8 0, .int .u8 0, .int .u8 0, .int .u8 0, .int .u8 0, .int .u8 0, .int .u8 0, .int .u8 0, .int .u8 0, .int .u8 0, .int .u8 0, .int .u8 0, .int .u8 0, .int .u8 0, .int .u8 0, .int .u8 0, .int .u8 0, .int .u8 0, .int .u8 0, .int .u8 0, .int .u8 0, .int .u8 0, .int .u8 0], rfl⟩
  have HD0 := Lib.hid hD0
  have hsz : (dgA D).size = 32 := by rw [dgA_size, hD]
  clear hD0
  go_enter Try.func91, Try.ntmps91
  have b1 := ((below_self w).alloc (Nat.le_refl _) (.cells (dgA D) 67)).alloc (by simp) (.cells #[.int .u8 0, .int .u8 0, .int .u8 0, .int .u8 0, .int .u8 0, .int .u8 0, .int .u8 0, .int .u8 0, .int .u8 0, .int .u8 0, .int .u8 0, .int .u8 0, .int .u8 0, .int .u8 0, .int .u8 0, .int .u8 0, .int .u8 0, .int .u8 0, .int .u8 0, .int .u8 0, .int .u8 0, .int .u8 0, .int .u8 0, .int .u8 0, .int .u8 0, .int .u8 0, .int .u8 0, .int .u8 0, .int .u8 0, .int .u8 0, .int .u8 0, .int .u8 0] 67)
  have D1 := Lib.hid (rdAt (row2a w (dgA D) #[.int .u8 0, .int .u8 0, .int .u8 0, .int .u8 0, .int .u8 0, .int .u8 0, .int .u8 0, .int .u8 0, .int .u8 0, .int .u8 0, .int .u8 0, .int .u8 0, .int .u8 0, .int .u8 0, .int .u8 0, .int .u8 0, .int .u8 0, .int .u8 0, .int .u8 0, .int .u8 0, .int .u8 0, .int .u8 0, .int .u8 0, .int .u8 0, .int .u8 0, .int .u8 0, .int .u8 0, .int .u8 0, .int .u8 0, .int .u8 0, .int .u8 0, .int .u8 0] 67 67) D 32 (by simp [dgA]) hD (by simp [maxLen]))
  have R1 := Lib.hid (row2b w (dgA D) #[.int .u8 0, .int .u8 0, .int .u8 0, .int .u8 0, .int .u8 0, .int .u8 0, .int .u8 0, .int .u8 0, .int .u8 0, .int .u8 0, .int .u8 0, .int .u8 0, .int .u8 0, .int .u8 0, .int .u8 0, .int .u8 0, .int .u8 0, .int .u8 0, .int .u8 0, .int .u8 0, .int .u8 0, .int .u8 0, .int .u8 0, .int .u8 0, .int .u8 0, .int .u8 0, .int .u8 0, .int .u8 0, .int .u8 0, .int .u8 0, .int .u8 0, .int .u8 0] 67 67)
  have HB1 := Lib.hid b1
  clear b1
  go_wp2_with (first
    | (at_builtin; refine wp_appB rfl _ _ rfl hb3 (Nat.le_refl _) hb3.size A3 32 c3 D rfl ho3 A n c xs rfl ((hr.below HB1.out).below hb3) (by omega) (32 + n) (D ++ xs) rfl rfl ?_; intro A4 c4 w4 ho4 hb4 hg4)
    | (at_builtin; refine wp_appB rfl _ _ rfl ((below_self _).alloc (Nat.le_refl _) _) (Nat.le_refl _) (by simp) _ _ _ _ rfl (own0' (k := w.heap.size + 1 + 1) (by simp)) _ 32 32 D rfl (D1.out.alloc _) (by omega) 32 D (by omega) (by simp) ?_; intro A3 c3 w3 ho3 hb3 hg3))
  refine (refShaOf_any A4 (32 + n) c4 (D ++ xs) w4 ho4.rd (by omega)).mono ?_
  rintro e w5 ⟨rfl, hb5⟩
  obtain ⟨DG, hDG⟩ : ∃ DG, shLink D xs = DG := ⟨shLink D xs, rfl⟩
  rw [show shOf (D ++ xs) = DG from hDG, hDG]
  have HDG := Lib.hid hDG
  have hDl : DG.length = 32 := by rw [← hDG]; exact shLink_len D xs
  have R5 := Lib.hid (show w5.heap[w.heap.size + 1]? = some (.cells D0 67 (0, 0)) from (hb5.block _ (by have := hb4.size; simp at this; omega)).trans ((hb4.block _ (by simp)).trans (by rw [← HD0.out]; exact R1.out)))
  have B5 : Below w.heap.size w w5 := below_then HB1.out (hb4.trans (hb5.mono hb4.size))
  have hD0s : D0.size = 32 := by rw [← HD0.out]; rfl
  clear hDG hb3 hg3 ho3 hb4 hg4 ho4
  go_wp2_with (refine dig_store rfl _ _ rfl (w.heap.size + 1) rfl DG D0 rfl 67 R5.out hDl hD0s ?_)
  refine bodyPost_ret (results_cell_row Try.results91 _ _ (w.heap.size + 1) 67 (dgA DG) (0, 0) _ rfl (setRow_heap _ _ _ (dgA DG) _ _ R5.out) Try.underlying67 rfl (infoD DG hDl)) rfl ?_
  exact ⟨by rw [HDG.out], below_setRow B5 (by omega) _⟩
end Go.Proofs.Ytnfepikgbdeomaa
