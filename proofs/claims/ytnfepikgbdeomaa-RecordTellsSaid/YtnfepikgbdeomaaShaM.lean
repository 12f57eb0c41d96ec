/-
  Layer 3: a block's words (the document).
-/
import Derived.Test.YtnfepikgbdeomaaShaC
import Derived.Test.YtnfepikgbdeomaaNumC
namespace Go.Proofs.Ytnfepikgbdeomaa
set_option maxRecDepth 20000
open Go.RowKit
set_option linter.unusedVariables false
set_option linter.unusedSimpArgs false
set_option maxHeartbeats 8000000

theorem refWords_short (A : Option Addr) (n c : Nat) (xs : List UInt8) (w : World) (hr : RdB w A n c xs) (h : n ≠ 64) :
    Calls Try.prog 127 #[.slice A n c] w (RetW w (shWords xs)) := by
  have hn := hr.n63
  have e : shWords xs = z64 := by unfold shWords; rw [if_neg (by rw [hr.2.1]; exact h)]; rfl
  rw [e]
  have d1 : ((n : Int) != 64) = true := by rw [bne_iff_ne]; omega
  have H0 := Lib.hid (show ((w.alloc (.cells #[.int .u32 0, .int .u32 0, .int .u32 0, .int .u32 0, .int .u32 0, .int .u32 0, .int .u32 0, .int .u32 0, .int .u32 0, .int .u32 0, .int .u32 0, .int .u32 0, .int .u32 0, .int .u32 0, .int .u32 0, .int .u32 0, .int .u32 0, .int .u32 0, .int .u32 0, .int .u32 0, .int .u32 0, .int .u32 0, .int .u32 0, .int .u32 0, .int .u32 0, .int .u32 0, .int .u32 0, .int .u32 0, .int .u32 0, .int .u32 0, .int .u32 0, .int .u32 0, .int .u32 0, .int .u32 0, .int .u32 0, .int .u32 0, .int .u32 0, .int .u32 0, .int .u32 0, .int .u32 0, .int .u32 0, .int .u32 0, .int .u32 0, .int .u32 0, .int .u32 0, .int .u32 0, .int .u32 0, .int .u32 0, .int .u32 0, .int .u32 0, .int .u32 0, .int .u32 0, .int .u32 0, .int .u32 0, .int .u32 0, .int .u32 0, .int .u32 0, .int .u32 0, .int .u32 0, .int .u32 0, .int .u32 0, .int .u32 0, .int .u32 0, .int .u32 0] 162)).alloc (.cells #[.int .u32 0, .int .u32 0, .int .u32 0, .int .u32 0, .int .u32 0, .int .u32 0, .int .u32 0, .int .u32 0, .int .u32 0, .int .u32 0, .int .u32 0, .int .u32 0, .int .u32 0, .int .u32 0, .int .u32 0, .int .u32 0, .int .u32 0, .int .u32 0, .int .u32 0, .int .u32 0, .int .u32 0, .int .u32 0, .int .u32 0, .int .u32 0, .int .u32 0, .int .u32 0, .int .u32 0, .int .u32 0, .int .u32 0, .int .u32 0, .int .u32 0, .int .u32 0, .int .u32 0, .int .u32 0, .int .u32 0, .int .u32 0, .int .u32 0, .int .u32 0, .int .u32 0, .int .u32 0, .int .u32 0, .int .u32 0, .int .u32 0, .int .u32 0, .int .u32 0, .int .u32 0, .int .u32 0, .int .u32 0, .int .u32 0, .int .u32 0, .int .u32 0, .int .u32 0, .int .u32 0, .int .u32 0, .int .u32 0, .int .u32 0, .int .u32 0, .int .u32 0, .int .u32 0, .int .u32 0, .int .u32 0, .int .u32 0, .int .u32 0, .int .u32 0] 162)).heap[w.heap.size]? = some (.cells (wsV z64) 162 (0, 0)) by rw [z64_V]; exact row2a ..)
  have H1 := Lib.hid (show ((w.alloc (.cells #[.int .u32 0, .int .u32 0, .int .u32 0, .int .u32 0, .int .u32 0, .int .u32 0, .int .u32 0, .int .u32 0, .int .u32 0, .int .u32 0, .int .u32 0, .int .u32 0, .int .u32 0, .int .u32 0, .int .u32 0, .int .u32 0, .int .u32 0, .int .u32 0, .int .u32 0, .int .u32 0, .int .u32 0, .int .u32 0, .int .u32 0, .int .u32 0, .int .u32 0, .int .u32 0, .int .u32 0, .int .u32 0, .int .u32 0, .int .u32 0, .int .u32 0, .int .u32 0, .int .u32 0, .int .u32 0, .int .u32 0, .int .u32 0, .int .u32 0, .int .u32 0, .int .u32 0, .int .u32 0, .int .u32 0, .int .u32 0, .int .u32 0, .int .u32 0, .int .u32 0, .int .u32 0, .int .u32 0, .int .u32 0, .int .u32 0, .int .u32 0, .int .u32 0, .int .u32 0, .int .u32 0, .int .u32 0, .int .u32 0, .int .u32 0, .int .u32 0, .int .u32 0, .int .u32 0, .int .u32 0, .int .u32 0, .int .u32 0, .int .u32 0, .int .u32 0] 162)).alloc (.cells #[.int .u32 0, .int .u32 0, .int .u32 0, .int .u32 0, .int .u32 0, .int .u32 0, .int .u32 0, .int .u32 0, .int .u32 0, .int .u32 0, .int .u32 0, .int .u32 0, .int .u32 0, .int .u32 0, .int .u32 0, .int .u32 0, .int .u32 0, .int .u32 0, .int .u32 0, .int .u32 0, .int .u32 0, .int .u32 0, .int .u32 0, .int .u32 0, .int .u32 0, .int .u32 0, .int .u32 0, .int .u32 0, .int .u32 0, .int .u32 0, .int .u32 0, .int .u32 0, .int .u32 0, .int .u32 0, .int .u32 0, .int .u32 0, .int .u32 0, .int .u32 0, .int .u32 0, .int .u32 0, .int .u32 0, .int .u32 0, .int .u32 0, .int .u32 0, .int .u32 0, .int .u32 0, .int .u32 0, .int .u32 0, .int .u32 0, .int .u32 0, .int .u32 0, .int .u32 0, .int .u32 0, .int .u32 0, .int .u32 0, .int .u32 0, .int .u32 0, .int .u32 0, .int .u32 0, .int .u32 0, .int .u32 0, .int .u32 0, .int .u32 0, .int .u32 0] 162)).heap[w.heap.size + 1]? = some (.cells (wsV z64) 162 (0, 0)) by rw [z64_V]; exact row2b ..)
  clear h e
  go_enter Try.func127, Try.ntmps127
  go_wp2_with (first
    | (refine w64_load rfl _ rfl (w.heap.size + 1) rfl z64 162 H1.out rfl ?_)
    | (refine w64_store rfl _ _ rfl w.heap.size rfl z64 z64 rfl 162 H0.out rfl rfl ?_))
  refine bodyPost_ret (results_cell_row Try.results127 _ _ w.heap.size 162 (wsV z64) (0, 0) _ rfl (setRow_heap _ _ _ (wsV z64) _ _ H0.out) Try.underlying162 rfl (info64 z64 rfl)) rfl ?_
  exact ⟨rfl, below_setRow (((below_self w).alloc (Nat.le_refl _) _).alloc (by simp) _) (Nat.le_refl _) _⟩
set_option maxRecDepth 100000 in
theorem refWords_long (A : Option Addr) (c : Nat) (xs : List UInt8) (w : World) (hr : RdB w A 64 c xs) :
    Calls Try.prog 127 #[.slice A 64 c] w (RetW w (shWords xs)) := by
  have hl := hr.2.1
  have hc := hr.2.2.1
  have hc63 := hr.c63
  have e : shWords xs = shWs xs 64 := by unfold shWords; rw [if_pos hl]
  rw [e]
  have d1 : ((64 : Int) != 64) = false := by decide
  obtain ⟨b, o, u, rfl, hbl, _⟩ := hr.at_ 0 (by omega)
  have HL := Lib.hid hl
  clear hl e
  go_enter Try.func127, Try.ntmps127
  go_wp2_with fail
  obtain ⟨W, hW⟩ : ∃ W, W = (w.alloc (.cells #[.int .u32 0, .int .u32 0, .int .u32 0, .int .u32 0, .int .u32 0, .int .u32 0, .int .u32 0, .int .u32 0, .int .u32 0, .int .u32 0, .int .u32 0, .int .u32 0, .int .u32 0, .int .u32 0, .int .u32 0, .int .u32 0, .int .u32 0, .int .u32 0, .int .u32 0, .int .u32 0, .int .u32 0, .int .u32 0, .int .u32 0, .int .u32 0, .int .u32 0, .int .u32 0, .int .u32 0, .int .u32 0, .int .u32 0, .int .u32 0, .int .u32 0, .int .u32 0, .int .u32 0, .int .u32 0, .int .u32 0, .int .u32 0, .int .u32 0, .int .u32 0, .int .u32 0, .int .u32 0, .int .u32 0, .int .u32 0, .int .u32 0, .int .u32 0, .int .u32 0, .int .u32 0, .int .u32 0, .int .u32 0, .int .u32 0, .int .u32 0, .int .u32 0, .int .u32 0, .int .u32 0, .int .u32 0, .int .u32 0, .int .u32 0, .int .u32 0, .int .u32 0, .int .u32 0, .int .u32 0, .int .u32 0, .int .u32 0, .int .u32 0, .int .u32 0] 162)).alloc (.cells #[.int .u32 0, .int .u32 0, .int .u32 0, .int .u32 0, .int .u32 0, .int .u32 0, .int .u32 0, .int .u32 0, .int .u32 0, .int .u32 0, .int .u32 0, .int .u32 0, .int .u32 0, .int .u32 0, .int .u32 0, .int .u32 0, .int .u32 0, .int .u32 0, .int .u32 0, .int .u32 0, .int .u32 0, .int .u32 0, .int .u32 0, .int .u32 0, .int .u32 0, .int .u32 0, .int .u32 0, .int .u32 0, .int .u32 0, .int .u32 0, .int .u32 0, .int .u32 0, .int .u32 0, .int .u32 0, .int .u32 0, .int .u32 0, .int .u32 0, .int .u32 0, .int .u32 0, .int .u32 0, .int .u32 0, .int .u32 0, .int .u32 0, .int .u32 0, .int .u32 0, .int .u32 0, .int .u32 0, .int .u32 0, .int .u32 0, .int .u32 0, .int .u32 0, .int .u32 0, .int .u32 0, .int .u32 0, .int .u32 0, .int .u32 0, .int .u32 0, .int .u32 0, .int .u32 0, .int .u32 0, .int .u32 0, .int .u32 0, .int .u32 0, .int .u32 0] 162) := ⟨_, rfl⟩
  have bW : Below w.heap.size w W := by rw [hW]; exact ((below_self w).alloc (Nat.le_refl _) _).alloc (by simp) _
  have h0 : W.heap[w.heap.size]? = some (.cells (wsV z64) 162 (0, 0)) := by rw [hW, z64_V]; exact row2a ..
  have h1 : W.heap[w.heap.size + 1]? = some (.cells (wsV z64) 162 (0, 0)) := by rw [hW, z64_V]; exact row2b ..
  have zW : w.heap.size + 1 < W.heap.size := by rw [hW]; simp
  rw [← hW]
  clear hW
  go_loopw [4] (fun v wr => WrI w xs v wr ∧ intOf v ≤ 16) (fun i _ => 16 - (intOf i).toNat)
  case atStart => exact ⟨⟨0, by omega, rfl, by rw [wsP_zero]; exact h1, h0, bW, zW⟩, by simp [intOf]⟩
  case round =>
    obtain ⟨⟨k, hk, rfl, r3, r2, HB, hz⟩, hk16⟩ := hrel
    simp only [intOf] at hk16
    clear h0 h1 zW bW
    by_cases h16 : k < 16
    · have hlt : k < 64 := by omega
      have R3 := Lib.hid r3
      have R2 := Lib.hid r2
      have hset := wsP_set xs k hlt
      have HS := Lib.hid hset
      have old := (cell_of_row wr _ k _ _ _ r3).trans (wsV_get _ k (by rw [wsP_len _ _ (by omega)]; exact hlt))
      have frz : wr.frozen? ⟨w.heap.size + 1, k, none⟩ = false := frozen_of_row _ _ _ _ _ r3
      have HOLD := Lib.hid old
      clear r3 r2 hset old
      obtain ⟨p, hp⟩ : ∃ p, p = 4 * k := ⟨_, rfl⟩
      have rc := ((hr.below HB).cutS p (64 - p) (by omega) (by omega)).take 4 (by omega)
      have hF : fromBe ((xs.drop p).take 4) = shWord xs (shWs xs k) k := by
        unfold fromBe shWord; rw [if_pos h16, List.take_take, hp]; rfl
      have hF2 : shWord xs (shWs xs k) k < 4294967296 := shWord_lt _ _ _
      generalize shWord xs (shWs xs k) k = M at *
      have HF := Lib.hid hF
      have wM : IntKind.u32.wrap (M : Int) = M := by rw [IntKind.wrap_u32]; omega
      have oo := HOLD.out
      obtain ⟨u9, hu9⟩ : ∃ u : Nat, (wsP xs k).getD k 0 = u := ⟨_, rfl⟩
      rw [hu9] at oo
      obtain ⟨q, hq⟩ : ∃ q, q = p + 4 := ⟨_, rfl⟩
      have a1 : (4 : Int) * (k : Int) = (p : Int) := by omega
      have a2 : (p : Int) + 4 = (q : Int) := by omega
      have a3 : (q : Int) ≤ (c : Int) := by omega
      have a4 : ¬ (c = p) := by omega
      have a5 : q - p = 4 := by omega
      have a6 : (p : Int) ≤ (q : Int) := by omega
      clear hF hu9 hp hq
      go_wp2_with fail
      refine (refFromBe_any _ _ _ _ _ rc).mono ?_
      rintro e w1 ⟨rfl, rfl⟩
      rw [HF.out]
      go_wp2_with fail
      go_roundw
      case rel => exact ⟨⟨k + 1, by omega, by go_num, by rw [setc_rowT R3.out, wsV_set, HS.out], (Below.heap_setCell _ _ _ _ (by simp)).trans R2.out, HB.setCell (p := ⟨w.heap.size + 1, k, none⟩) (by simp) _, by simp [World.setCell]; omega⟩, by simp [intOf]; omega⟩
      case measure => simp [intOf]; omega
    · obtain rfl : k = 16 := by omega
      rw [show ((16 : Nat) : Int) = 16 from rfl]
      go_wp2_with fail
      go_loopw [5, 6, 7] (fun v _ _ w2 => WrI w xs v w2 ∧ 16 ≤ intOf v) (fun i _ _ _ => 64 - (intOf i).toNat)
      case atStart => exact ⟨⟨16, by omega, rfl, r3, r2, HB, hz⟩, by simp [intOf]⟩
      case round =>
        clear r3 r2 HB hz hk hk16
        obtain ⟨⟨k, hk, rfl, r3, r2, HB, hz⟩, hk16⟩ := hrel
        simp only [intOf] at hk16
        by_cases hlt : k < 64
        · have R3 := Lib.hid r3
          have R2 := Lib.hid r2
          have hset := wsP_set xs k hlt
          have HS := Lib.hid hset
          have old := (cell_of_row wr _ k _ _ _ r3).trans (wsV_get _ k (by rw [wsP_len _ _ (by omega)]; exact hlt))
          have frz : wr.frozen? ⟨w.heap.size + 1, k, none⟩ = false := frozen_of_row _ _ _ _ _ r3
          have cell : ∀ j, j < k → wr.cell? ⟨w.heap.size + 1, j, none⟩ = some (.int .u32 (((shWs xs k).getD j 0 : Nat) : Int)) := fun j hj => by
            rw [← wsP_get xs k j hj]
            exact (cell_of_row wr _ j _ _ _ R3.out).trans (wsV_get _ j (by rw [wsP_len _ _ (by omega)]; omega))
          have hword : shWord xs (shWs xs k) k = shSig (shWs xs k) k := by unfold shWord; rw [if_neg (by omega)]
          have l15 := ws_lt xs k (k - 15)
          have l2 := ws_lt xs k (k - 2)
          have l7 := ws_lt xs k (k - 7)
          have l16 := ws_lt xs k (k - 16)
          have c15 := cell (k - 15) (by omega)
          have c2 := cell (k - 2) (by omega)
          have c7 := cell (k - 7) (by omega)
          have c16 := cell (k - 16) (by omega)
          have hsig : shSig (shWs xs k) k = ((shMix ((shWs xs k).getD (k - 2) 0) [17, 19] ^^^ (shWs xs k).getD (k - 2) 0 / 1024) + ((shWs xs k).getD (k - 7) 0 + (shWs xs k).getD (k - 16) 0 + (shMix ((shWs xs k).getD (k - 15) 0) [7, 18] ^^^ (shWs xs k).getD (k - 15) 0 / 8))) % 4294967296 := rfl
          rw [shMix2, shMix2] at hsig
          rw [hword, hsig] at HS
          obtain ⟨u9, hu9⟩ : ∃ u : Nat, (wsP xs k).getD k 0 = u := ⟨_, rfl⟩
          rw [hu9] at old
          generalize (shWs xs k).getD (k - 15) 0 = far at *
          generalize (shWs xs k).getD (k - 2) 0 = near at *
          generalize (shWs xs k).getD (k - 7) 0 = s7 at *
          generalize (shWs xs k).getD (k - 16) 0 = s16 at *
          obtain ⟨j15, e15⟩ : ∃ j, j = k - 15 := ⟨_, rfl⟩
          obtain ⟨j2, e2⟩ : ∃ j, j = k - 2 := ⟨_, rfl⟩
          obtain ⟨j7, e7⟩ : ∃ j, j = k - 7 := ⟨_, rfl⟩
          obtain ⟨j16, e16⟩ : ∃ j, j = k - 16 := ⟨_, rfl⟩
          rw [← e15] at c15
          rw [← e2] at c2
          rw [← e7] at c7
          rw [← e16] at c16
          have m15 : (k : Int) - 15 = (j15 : Int) := by omega
          have m2 : (k : Int) - 2 = (j2 : Int) := by omega
          have m7 : (k : Int) - 7 = (j7 : Int) := by omega
          have m16 : (k : Int) - 16 = (j16 : Int) := by omega
          have b15 : j15 < 64 := by omega
          have b2 : j2 < 64 := by omega
          have b7 : j7 < 64 := by omega
          have b16 : j16 < 64 := by omega
          have b15i : (j15 : Int) < 64 := by omega
          have b2i : (j2 : Int) < 64 := by omega
          have b7i : (j7 : Int) < 64 := by omega
          have b16i : (j16 : Int) < 64 := by omega
          have bki : (k : Int) < 64 := by omega
          have w15 := wi64n (k := j15) (by omega)
          have w2 := wi64n (k := j2) (by omega)
          have w7 := wi64n (k := j7) (by omega)
          have w16 := wi64n (k := j16) (by omega)
          obtain ⟨n10, hn10⟩ : ∃ n, near / 1024 = n := ⟨_, rfl⟩
          obtain ⟨f3, hf3⟩ : ∃ n, far / 8 = n := ⟨_, rfl⟩
          have q10 : (near : Int) / 1024 = (n10 : Int) := by omega
          have q3 : (far : Int) / 8 = (f3 : Int) := by omega
          rw [hn10, hf3] at HS
          have t7 := ror_lt 7 l15
          have t18 := ror_lt 18 l15
          have t17 := ror_lt 17 l2
          have t19 := ror_lt 19 l2
          have x1 := u32_xor_nat (ror far 7) (ror far 18) t7 t18
          have x1l := xor_lt32 t7 t18
          have x2 := u32_xor_nat (ror near 17) (ror near 19) t17 t19
          have x2l := xor_lt32 t17 t19
          have K7 := Lib.hid (fun W => refRot_any far 7 W l15 (by omega) (by omega))
          have K18 := Lib.hid (fun W => refRot_any far 18 W l15 (by omega) (by omega))
          have K17 := Lib.hid (fun W => refRot_any near 17 W l2 (by omega) (by omega))
          have K19 := Lib.hid (fun W => refRot_any near 19 W l2 (by omega) (by omega))
          generalize ror far 7 ^^^ ror far 18 = X1 at *
          generalize ror near 17 ^^^ ror near 19 = X2 at *
          generalize ror far 7 = r7 at *
          generalize ror far 18 = r18 at *
          generalize ror near 17 = r17 at *
          generalize ror near 19 = r19 at *
          have y1 := u32_xor_nat X1 f3 x1l (by omega)
          have y1l := xor_lt32 x1l (show f3 < 4294967296 by omega)
          have y2 := u32_xor_nat X2 n10 x2l (by omega)
          have y2l := xor_lt32 x2l (show n10 < 4294967296 by omega)
          generalize X1 ^^^ f3 = Y1 at *
          generalize X2 ^^^ n10 = Y2 at *
          obtain ⟨p1, hp1⟩ : ∃ p, p = (s16 + Y1) % 4294967296 := ⟨_, rfl⟩
          obtain ⟨p2, hp2⟩ : ∃ p, p = (p1 + s7) % 4294967296 := ⟨_, rfl⟩
          obtain ⟨P, hP⟩ : ∃ p, p = (p2 + Y2) % 4294967296 := ⟨_, rfl⟩
          have v1 : IntKind.u32.wrap ((s16 : Int) + (Y1 : Int)) = (p1 : Int) := by rw [IntKind.wrap_u32]; omega
          have v2 : IntKind.u32.wrap ((p1 : Int) + (s7 : Int)) = (p2 : Int) := by rw [IntKind.wrap_u32]; omega
          have v3 : IntKind.u32.wrap ((p2 : Int) + (Y2 : Int)) = (P : Int) := by rw [IntKind.wrap_u32]; omega
          rw [show (Y2 + (s7 + s16 + Y1)) % 4294967296 = P by omega] at HS
          have HSS := Lib.hid HS.out
          have hg3 : w.heap.size + 1 < wr.heap.size := hz
          clear r3 r2 hset cell hword hsig hu9 e15 e2 e7 e16 hn10 hf3 l15 l2 l7 l16 HS t7 t18 t17 t19 x1l x2l y1l y2l hp1 hp2 hP
          go_wp2_with fail
          refine wp_region_plan (S := fun w' => Below wr.heap.size wr w') [(0, true), (1, true), (2, true), (3, true), (4, true), (5, true), (6, true), (7, true), (8, true), (9, true)] (by kernel_rfl) (by kernel_rfl) (fun _ _ d _ _ h => by cases d <;> exact h) ((Below.refl _ wr).drew) ?_
          iterate 10 (refine plan_take (v := ?_) rfl (Or.inl ⟨by rfl, ?_⟩) ?_; rotate_left; (focus (intro w' hw'; have jj := (hw'.cell (p := ⟨w.heap.size + 1, j15, none⟩) hg3).trans c15; have jk := (hw'.cell (p := ⟨w.heap.size + 1, j2, none⟩) hg3).trans c2; go_simp <;> with_reducible rfl)); try simp only [Act.put, List.setIfInBounds_toArray, List.set_cons_zero, List.set_cons_succ])
          refine plan_done ?_
          go_wp2_with fail
          obtain ⟨V, hV⟩ : ∃ V, V = wr.drew := ⟨_, rfl⟩
          rw [← hV]
          have bV : Below wr.heap.size wr V := by rw [hV]; exact (Below.refl _ _).drew
          have zV : w.heap.size + 1 < V.heap.size := Nat.lt_of_lt_of_le hg3 bV.size
          have oV := (bV.cell (p := ⟨w.heap.size + 1, k, none⟩) hg3).trans old
          have fV := (bV.frozen (p := ⟨w.heap.size + 1, k, none⟩) hg3).trans frz
          have c7V := (bV.cell (p := ⟨w.heap.size + 1, j7, none⟩) hg3).trans c7
          have c16V := (bV.cell (p := ⟨w.heap.size + 1, j16, none⟩) hg3).trans c16
          have R3V := Lib.hid ((bV.block _ hg3).trans R3.out)
          have R2V := Lib.hid ((bV.block _ (by omega)).trans R2.out)
          have HBV := HB.trans (bV.mono HB.size)
          clear hV c15 c2 c7 c16 old frz
          refine wp_region_last (S := fun w' => Below V.heap.size V w') 29 #[true, true, true, true, true, true, true, true, true, true, true, true, true, true, true, true, true, true, true, true, true, true, true, true, true, true, true, true, true, false] [(0, true), (1, true), (2, true), (3, true), (4, true), (5, true), (7, true), (10, true), (11, true), (14, true), (15, true), (16, true), (17, true), (19, true), (21, true), (24, true), (25, true), (6, false), (8, false), (9, true), (12, true), (13, true), (18, true), (20, false), (22, false), (23, true), (26, true), (27, true), (28, true)] (by kernel_rfl) (by kernel_rfl) (fun _ _ d _ _ h => by cases d <;> exact h) ((Below.refl _ V).drew) ?_
          iterate 17 (refine seg_take (v := ?_) rfl (Or.inl ⟨by rfl, ?_⟩) ?_; rotate_left; (focus (intro w' hw'; have jk := (hw'.cell (p := ⟨w.heap.size + 1, j7, none⟩) zV).trans c7V; have jl := (hw'.cell (p := ⟨w.heap.size + 1, j16, none⟩) zV).trans c16V; go_simp <;> with_reducible rfl)); try simp only [Act.put, List.setIfInBounds_toArray, List.set_cons_zero, List.set_cons_succ])
          refine seg_run rfl (fun K hK => ?_)
          go_simp
          refine (K7.out _).mono ?_
          rintro e v1 ⟨rfl, rfl⟩
          have HB1 := (Below.refl V.heap.size V).drew
          refine hK.out _ _ (HB1) ?_
          clear hK
          try simp only [Act.put, List.setIfInBounds_toArray, List.set_cons_zero, List.set_cons_succ]
          refine seg_run rfl (fun K hK => ?_)
          go_simp
          refine (K18.out _).mono ?_
          rintro e v1 ⟨rfl, rfl⟩
          refine hK.out _ _ (HB1) ?_
          clear hK
          try simp only [Act.put, List.setIfInBounds_toArray, List.set_cons_zero, List.set_cons_succ]
          iterate 4 (refine seg_take (v := ?_) rfl (Or.inl ⟨by rfl, ?_⟩) ?_; rotate_left; (focus (intro w' hw'; have jk := (hw'.cell (p := ⟨w.heap.size + 1, j7, none⟩) zV).trans c7V; have jl := (hw'.cell (p := ⟨w.heap.size + 1, j16, none⟩) zV).trans c16V; go_simp <;> with_reducible rfl)); try simp only [Act.put, List.setIfInBounds_toArray, List.set_cons_zero, List.set_cons_succ])
          refine seg_run rfl (fun K hK => ?_)
          go_simp
          refine (K17.out _).mono ?_
          rintro e v1 ⟨rfl, rfl⟩
          refine hK.out _ _ (HB1) ?_
          clear hK
          try simp only [Act.put, List.setIfInBounds_toArray, List.set_cons_zero, List.set_cons_succ]
          refine seg_run rfl (fun K hK => ?_)
          go_simp
          refine (K19.out _).mono ?_
          rintro e v1 ⟨rfl, rfl⟩
          refine hK.out _ _ (HB1) ?_
          clear hK
          try simp only [Act.put, List.setIfInBounds_toArray, List.set_cons_zero, List.set_cons_succ]
          iterate 4 (refine seg_take (v := ?_) rfl (Or.inl ⟨by rfl, ?_⟩) ?_; rotate_left; (focus (intro w' hw'; have jk := (hw'.cell (p := ⟨w.heap.size + 1, j7, none⟩) zV).trans c7V; have jl := (hw'.cell (p := ⟨w.heap.size + 1, j16, none⟩) zV).trans c16V; go_simp <;> with_reducible rfl)); try simp only [Act.put, List.setIfInBounds_toArray, List.set_cons_zero, List.set_cons_succ])
          refine seg_done ?_
          refine last_run rfl (fun K hK => ?_)
          go_simp
          have o5 := (HB1.cell (p := ⟨w.heap.size + 1, k, none⟩) zV).trans oV
          have f5 := (HB1.frozen (p := ⟨w.heap.size + 1, k, none⟩) zV).trans fV
          go_simp
          refine hK.out _ _ ?_
          clear hK
          try simp only [Act.put, List.setIfInBounds_toArray, List.set_cons_zero, List.set_cons_succ]
          have z5 := HB1.size
          have R35 := Lib.hid ((HB1.block _ zV).trans R3V.out)
          have R25 := Lib.hid ((HB1.block _ (by omega)).trans R2V.out)
          clear o5 f5
          go_wp2_with fail
          go_roundw
          case rel =>
            refine ⟨⟨k + 1, by omega, by go_num, ?_, ?_, (HBV.setCell (p := ⟨w.heap.size + 1, k, none⟩) (by simp) _).drew, by simp [World.setCell, World.drew]; omega⟩, by simp [intOf]; omega⟩
            · show (V.setCell ⟨w.heap.size + 1, k, none⟩ _).heap[w.heap.size + 1]? = _
              rw [setc_rowT R3V.out, wsV_set, HSS.out]
            · show (V.setCell ⟨w.heap.size + 1, k, none⟩ _).heap[w.heap.size]? = _
              exact (Below.heap_setCell _ _ _ _ (by simp)).trans R2V.out
          case measure => simp [intOf]; omega
        · obtain rfl : k = 64 := by omega
          rw [wsP_all] at r3
          have R3 := Lib.hid r3
          have R2 := Lib.hid r2
          have hl := Lib.hid (shWs_len xs 64)
          clear r3 r2
          go_wp2_with (first
            | (refine w64_load rfl _ rfl (w.heap.size + 1) rfl (shWs xs 64) 162 R3.out hl.out ?_)
            | (refine w64_store rfl _ _ rfl w.heap.size rfl (shWs xs 64) z64 rfl 162 R2.out hl.out rfl ?_))
          refine bodyPost_ret (results_cell_row Try.results127 _ _ w.heap.size 162 (wsV (shWs xs 64)) (0, 0) _ rfl (setRow_heap _ _ _ (wsV (shWs xs 64)) _ _ R2.out) Try.underlying162 rfl (info64 _ hl.out)) rfl ?_
          exact ⟨rfl, below_setRow HB (Nat.le_refl _) _⟩
theorem refWords_any (A : Option Addr) (n c : Nat) (xs : List UInt8) (w : World) (hr : RdB w A n c xs) : Calls Try.prog 127 #[.slice A n c] w (RetW w (shWords xs)) := by
  by_cases h : n = 64
  · subst h; exact refWords_long A c xs w hr
  · exact refWords_short A n c xs w hr h
end Go.Proofs.Ytnfepikgbdeomaa
