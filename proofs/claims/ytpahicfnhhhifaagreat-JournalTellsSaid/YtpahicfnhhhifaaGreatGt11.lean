/-
 Proved here, for the statement JournalTells:
 Layer 3: words turned.
 Layer 3: the numbers; a block's words (package).
-/
import Derived.Test.YtpahicfnhhhifaaGreatGt03
import Derived.Test.YtpahicfnhhhifaaGreatGt05
set_option linter.unusedVariables false
set_option linter.unusedSimpArgs false
namespace Go.Proofs.YtpahicfnhhhifaaGreat
set_option maxRecDepth 20000
open Go.RowKit
set_option maxHeartbeats 8000000
def vI (k : Nat) : Value := .int .i64 (k : Int)
theorem u32w (k : Nat) : IntKind.u32.wrap (k : Int) = ((k % 4294967296 : Nat) : Int) := by rw [IntKind.wrap_u32]; omega
theorem ror_val (x n : Nat) (hx : x < 4294967296) : bits .or .u32 ((x : Int) / 2 ^ n) (IntKind.u32.wrap ((x : Int) * 2 ^ (32 - n))) = ((ror x n : Nat) : Int) := by
 have e1 : (x : Int) / 2 ^ n = ((x / 2 ^ n : Nat) : Int) := by push_cast; rfl
 have e2 : (x : Int) * 2 ^ (32 - n) = ((x * 2 ^ (32 - n) : Nat) : Int) := by push_cast; rfl
 rw [e1, e2, u32w, u32_or_nat _ _ (Nat.lt_of_le_of_lt (Nat.div_le_self _ _) hx) (Nat.mod_lt _ (by omega))]
 rfl
theorem shaRight_any (x n : Nat) (w : World) (hx : x < 4294967296) (h1 : 1 ≤ n) (h2 : n ≤ 31) : Calls Tryz.prog 155 #[.int .u32 x, .int .i64 n] w (RetV w (.int .u32 (ror x n : Nat))) := by
 have k1 := ror_val x n hx
 have k3 : (32 : Int) - (n : Int) = ((32 - n : Nat) : Int) := by omega
 have k4 := wi64n (k := 32 - n) (by omega)
 have k5 : ((32 - n : Nat) : Int) ≤ 32 := by omega
 go_enter Tryz.func155, Tryz.ntmps155
 go_wp2_with fail
 refine wp_region_plan (S := fun w' => Below w.heap.size w w') [(0, true), (1, true), (2, true), (3, true), (4, true), (5, true), (6, true), (7, true), (8, true)] (by kernel_rfl) (by kernel_rfl) (fun _ _ d _ _ h => by cases d <;> exact h) ((Below.refl _ w).drew) ?_
 iterate 9 (refine plan_take (v := ?_) rfl (Or.inl ⟨by rfl, ?_⟩) ?_; rotate_left; (focus (intro w' hw'; go_simp <;> with_reducible rfl)); try simp only [Act.put, pst3])
 refine plan_done ?_
 go_wp2
 go_ret
 exact ⟨by rw [← k1]; rfl, (Below.refl _ _).drew⟩
theorem refRot_any (x n : Nat) (w : World) (hx : x < 4294967296) (h1 : 1 ≤ n) (h2 : n ≤ 31) : Calls Tryz.prog 125 #[.int .u32 x, .int .u64 n] w fun e w' => e = .returned (.int .u32 (ror x n : Nat)) ∧ w = w' := by
 have k1 := ror_val x n hx
 have k3 : (32 : Int) - (n : Int) = ((32 - n : Nat) : Int) := by omega
 go_enter Tryz.func125, Tryz.ntmps125
 go_wp2
 go_ret
 exact ⟨by rw [← k1, IntKind.wrap_u32]; rfl, rfl⟩
def MixI (w : World) (x n : Nat) (ts : List Nat) (v5 v10 : Value) (wr : World) : Prop := ∃ k : Nat, k ≤ n ∧ v10 = .int .i64 k ∧ v5 = .int .u32 (shMix x (ts.take k) : Nat) ∧ Below w.heap.size w wr
theorem mixed_any (x : Nat) (A : Option Addr) (n c : Nat) (ts : List Nat) (w : World) (hx : x < 4294967296) (hr : Rd w A (ts.map vI)) (hn : ts.length = n) (hs : n ≤ 100) (ht : ∀ t ∈ ts, 1 ≤ t ∧ t ≤ 31) :
  Calls Tryz.prog 140 #[.int .u32 x, .slice A n c] w (RetV w (.int .u32 (shMix x ts : Nat))) := by
 have HN := Lib.hid hn
 have HT := Lib.hid ht
 clear hn ht
 go_enter Tryz.func140, Tryz.ntmps140
 go_wp2_with fail
 go_loopw [5, 10] (MixI w x n ts) (fun _ i _ => n - (intOf i).toNat)
 case atStart => exact ⟨0, Nat.zero_le _, rfl, rfl, Below.refl _ _⟩
 case round =>
  obtain ⟨k, hk, rfl, rfl, hb⟩ := hrel
  by_cases hlt : k < n
  ·have hkl : k < ts.length := by rw [HN.out]; exact hlt
   obtain ⟨b, o, rfl, hbl, hc⟩ := (hr.below hb).at_ k (by simpa using hkl)
   obtain ⟨t, het⟩ : ∃ t, ts[k] = t := ⟨_, rfl⟩
   have ht := HT.out t (by rw [← het]; exact List.getElem_mem hkl)
   have hc' : wr.cell? ⟨b, o + k, none⟩ = some (.int .i64 (t : Int)) := by rw [hc]; simp [vI, het]
   have hsn : ts.take (k + 1) = ts.take k ++ [t] := by rw [take_snoc ts k hkl, het]
   have hm := shMix_lt hx (ts.take k)
   have hsm := shMix_snoc x (ts.take k) t
   have hxr := u32_xor_nat (shMix x (ts.take k)) (ror x t) hm (ror_lt t hx)
   have HS := Lib.hid (show ((shMix x (ts.take (k + 1)) : Nat) : Int) = bits .xor .u32 ((shMix x (ts.take k) : Nat) : Int) ((ror x t : Nat) : Int) by rw [hsn, hsm, hxr])
   generalize shMix x (ts.take k) = S at *
   clear hsn hsm hxr hc het hkl
   go_wp2_with fail
   refine (shaRight_any x t wr hx ht.1 ht.2).mono ?_
   rintro e w2 ⟨rfl, hb2⟩
   go_wp2
   go_roundw
   case rel => exact ⟨k + 1, by omega, by go_num, by rw [HS.out], below_then hb hb2⟩
   case measure => simp [intOf]; omega
  ·obtain rfl : k = n := by omega
   have ha : ts.take k = ts := by rw [← HN.out, List.take_length]
   rw [ha]
   clear ha
   go_wp2
   go_ret
   exact ⟨rfl, hb⟩
set_option maxHeartbeats 8000000
def vW (k : Nat) : Value := .int .u32 (k : Int)
def wsV (ws : List Nat) : Array Value := (ws.map vW).toArray
theorem wsV_size (ws : List Nat) : (wsV ws).size = ws.length := by simp [wsV]
theorem wsV_one (ws : List Nat) : (wsV ws).all (·.oneCell') = true := by simp [wsV, vW, Value.oneCell']
theorem wsV_get (ws : List Nat) (k : Nat) (h : k < ws.length) : (wsV ws)[k]? = some (.int .u32 ((ws.getD k 0 : Nat) : Int)) := by simp [wsV, vW, List.getD, h]
def z64 : List Nat := List.replicate 64 0
theorem z64_V : wsV z64 = #[.int .u32 0, .int .u32 0, .int .u32 0, .int .u32 0, .int .u32 0, .int .u32 0, .int .u32 0, .int .u32 0, .int .u32 0, .int .u32 0, .int .u32 0, .int .u32 0, .int .u32 0, .int .u32 0, .int .u32 0, .int .u32 0, .int .u32 0, .int .u32 0, .int .u32 0, .int .u32 0, .int .u32 0, .int .u32 0, .int .u32 0, .int .u32 0, .int .u32 0, .int .u32 0, .int .u32 0, .int .u32 0, .int .u32 0, .int .u32 0, .int .u32 0, .int .u32 0, .int .u32 0, .int .u32 0, .int .u32 0, .int .u32 0, .int .u32 0, .int .u32 0, .int .u32 0, .int .u32 0, .int .u32 0, .int .u32 0, .int .u32 0, .int .u32 0, .int .u32 0, .int .u32 0, .int .u32 0, .int .u32 0, .int .u32 0, .int .u32 0, .int .u32 0, .int .u32 0, .int .u32 0, .int .u32 0, .int .u32 0, .int .u32 0, .int .u32 0, .int .u32 0, .int .u32 0, .int .u32 0, .int .u32 0, .int .u32 0, .int .u32 0, .int .u32 0] := by rfl
theorem info64 (ws : List Nat) (h : ws.length = 64) : (Tryz.prog.info? 166).map (·.size) = some (wsV ws).size := by rw [wsV_size, h]; kernel_rfl
def RetW (w : World) (ws : List Nat) (e : Ending) (w' : World) : Prop := e = .returned (.agg (wsV ws)) ∧ Below w.heap.size w w'
section
variable {ops : Array Oper} {rest : List Oper} {o : Oper} {a : Act} {w : World} {Q : Exit → Act → World → Prop}
theorem w64_load (hgd : o.guard = none) (x : Operand) (ho : o.op = .load 166 x) (h : Nat) (hx : a.eval x = .pointer (some ⟨h, 0, none⟩)) (y : List Nat) (T : TypeId) (hrow : w.heap[h]? = some (.cells (wsV y) T (0, 0))) (hl : y.length = 64)
  (hK : wpList Tryz.prog ops Q rest (a.put o.dst (.agg (wsV y))) w) : wpList Tryz.prog ops Q (o :: rest) a w :=
 wpList_load_row hgd 166 x ho h hx T (wsV y) (0, 0) _ hrow Tryz.underlying166 rfl (info64 y hl) hK
theorem w64_store (hgd : o.guard = none) (x z : Operand) (ho : o.op = .store 166 x z) (h : Nat) (hx : a.eval x = .pointer (some ⟨h, 0, none⟩)) (y old : List Nat) (hz : a.eval z = .agg (wsV y)) (T : TypeId) (hrow : w.heap[h]? = some (.cells (wsV old) T (0, 0))) (hl : y.length = 64) (ho2 : old.length = 64)
  (hK : wpList Tryz.prog ops Q rest (a.put o.dst undef) (w.setRow h (wsV y))) : wpList Tryz.prog ops Q (o :: rest) a w :=
 wpList_store_row hgd 166 x z ho h (wsV y) hx hz T (wsV old) hrow (info64 y hl) (by rw [wsV_size, wsV_size, hl, ho2]) (wsV_one y) hK
end
theorem shaConst_any (w : World) : Calls Tryz.prog 138 #[] w (RetW w shK) := by
 have H0 := Lib.hid (show (w.alloc (.cells zz2 166)).heap[w.heap.size]? = some (.cells (wsV z64) 166 (0, 0)) by rw [z64_V]; exact row1 ..)
 go_enter Tryz.func138, Tryz.ntmps138
 go_wp2_with (refine w64_store rfl _ _ rfl w.heap.size rfl shK z64 rfl 166 H0.out rfl rfl ?_)
 refine bodyPost_ret (results_cell_row Tryz.results138 _ _ w.heap.size 166 (wsV shK) (0, 0) _ rfl (setRow_heap _ _ _ (wsV shK) _ _ H0.out) Tryz.underlying166 rfl (info64 shK rfl)) rfl ?_
 exact ⟨rfl, below_setRow ((below_self w).alloc (Nat.le_refl _) _) (Nat.le_refl _) _⟩
theorem refK_any (w : World) : Calls Tryz.prog 124 #[] w (RetW w shK) := by
 have H0 := Lib.hid (show (w.alloc (.cells zz2 166)).heap[w.heap.size]? = some (.cells (wsV z64) 166 (0, 0)) by rw [z64_V]; exact row1 ..)
 go_enter Tryz.func124, Tryz.ntmps124
 go_wp2_with (refine w64_store rfl _ _ rfl w.heap.size rfl shK z64 rfl 166 H0.out rfl rfl ?_)
 refine bodyPost_ret (results_cell_row Tryz.results124 _ _ w.heap.size 166 (wsV shK) (0, 0) _ rfl (setRow_heap _ _ _ (wsV shK) _ _ H0.out) Tryz.underlying166 rfl (info64 shK rfl)) rfl ?_
 exact ⟨rfl, below_setRow ((below_self w).alloc (Nat.le_refl _) _) (Nat.le_refl _) _⟩
theorem shaBegin_any (w : World) : Calls Tryz.prog 103 #[] w (RetW w shBegin.l) := by
 go_enter Tryz.func103, Tryz.ntmps103
 go_wp2
 exact bodyPost_ret (v := .agg (wsV shBegin.l)) (by simp [results, Tryz.results103, go_sem, alloc_box, wsV, shBegin, H8.l, vW]) rfl ⟨rfl, (below_self w).alloc (Nat.le_refl _) _⟩
set_option maxHeartbeats 8000000
theorem alloc64 (w : World) : (w.alloc (.cells zz2 166)).heap[w.heap.size]? = some (.cells (wsV z64) 166 (0, 0)) := by rw [z64_V]; exact row1 ..
def wsP (b : List UInt8) (k : Nat) : List Nat := shWs b k ++ List.replicate (64 - k) 0
theorem wsP_len (b : List UInt8) (k : Nat) (h : k ≤ 64) : (wsP b k).length = 64 := by simp [wsP, shWs_len]; omega
theorem wsP_zero (b : List UInt8) : wsP b 0 = z64 := by simp [wsP, shWs, z64]
theorem wsP_all (b : List UInt8) : wsP b 64 = shWs b 64 := by simp [wsP]
theorem wsP_set (b : List UInt8) (k : Nat) (h : k < 64) : (wsP b k).set k (shWord b (shWs b k) k) = wsP b (k + 1) := by
 have hl := shWs_len b k
 unfold wsP
 rw [List.set_append_right _ _ (by omega), hl, Nat.sub_self, show 64 - k = (64 - (k + 1)) + 1 by omega, List.replicate_succ, List.set_cons_zero, shWs, List.append_assoc]
 rfl
theorem wsP_get (b : List UInt8) (k j : Nat) (h : j < k) : (wsP b k).getD j 0 = (shWs b k).getD j 0 := by
 have hl := shWs_len b k
 unfold wsP
 rw [List.getD, List.getElem?_append_left (by omega), ← List.getD]
theorem wsV_set (ws : List Nat) (k n : Nat) : (wsV ws).setIfInBounds k (.int .u32 (n : Int)) = wsV (ws.set k n) := by
 apply Array.ext'
 simp [wsV, vW, List.map_set]
theorem ws_lt (b : List UInt8) (k j : Nat) : (shWs b k).getD j 0 < 4294967296 := by
 by_cases h : j < (shWs b k).length
 ·rw [List.getD, List.getElem?_eq_getElem h]
  exact shWs_lt b k _ (List.getElem_mem h)
 ·rw [List.getD, List.getElem?_eq_none (by omega)]; simp
def WrI (w : World) (b : List UInt8) (v11 : Value) (wr : World) : Prop :=
 ∃ k : Nat, k ≤ 64 ∧ v11 = .int .i64 k ∧ wr.heap[w.heap.size + 1]? = some (.cells (wsV (wsP b k)) 166 (0, 0)) ∧ wr.heap[w.heap.size]? = some (.cells (wsV z64) 166 (0, 0)) ∧ Below w.heap.size w wr ∧ w.heap.size + 1 < wr.heap.size
theorem shaWords_short (A : Option Addr) (n c : Nat) (xs : List UInt8) (w : World) (hr : RdB w A n c xs) (h : n ≠ 64) :
  Calls Tryz.prog 139 #[.slice A n c] w (RetW w (shWords xs)) := by
 have hn := hr.n63
 have e : shWords xs = z64 := by unfold shWords; rw [if_neg (by rw [hr.2.1]; exact h)]; rfl
 rw [e]
 have d1 : ((n : Int) != 64) = true := by rw [bne_iff_ne]; omega
 have H0 := Lib.hid (show ((w.alloc (.cells zz2 166)).alloc (.cells zz2 166)).heap[w.heap.size]? = some (.cells (wsV z64) 166 (0, 0)) by rw [z64_V]; exact row2a ..)
 have H1 := Lib.hid (show ((w.alloc (.cells zz2 166)).alloc (.cells zz2 166)).heap[w.heap.size + 1]? = some (.cells (wsV z64) 166 (0, 0)) by rw [z64_V]; exact row2b ..)
 clear h e
 go_enter Tryz.func139, Tryz.ntmps139
 go_wp2_with (first
  | (refine w64_load rfl _ rfl (w.heap.size + 1) rfl z64 166 H1.out rfl ?_)
  | (refine w64_store rfl _ _ rfl w.heap.size rfl z64 z64 rfl 166 H0.out rfl rfl ?_))
 refine bodyPost_ret (results_cell_row Tryz.results139 _ _ w.heap.size 166 (wsV z64) (0, 0) _ rfl (setRow_heap _ _ _ (wsV z64) _ _ H0.out) Tryz.underlying166 rfl (info64 z64 rfl)) rfl ?_
 exact ⟨rfl, below_setRow (((below_self w).alloc (Nat.le_refl _) _).alloc (by simp) _) (Nat.le_refl _) _⟩
theorem shaWords_long (A : Option Addr) (c : Nat) (xs : List UInt8) (w : World) (hr : RdB w A 64 c xs) :
  Calls Tryz.prog 139 #[.slice A 64 c] w (RetW w (shWords xs)) := by
 have hl := hr.2.1
 have hc := hr.2.2.1
 have hc63 := hr.c63
 have e : shWords xs = shWs xs 64 := by unfold shWords; rw [if_pos hl]
 rw [e]
 have d1 : ((64 : Int) != 64) = false := by decide
 obtain ⟨b, o, u, rfl, hbl, _⟩ := hr.at_ 0 (by omega)
 have HL := Lib.hid hl
 clear hl e
 go_enter Tryz.func139, Tryz.ntmps139
 go_wp2_with fail
 obtain ⟨W, hW⟩ : ∃ W, W = (w.alloc (.cells zz2 166)).alloc (.cells zz2 166) := ⟨_, rfl⟩
 have bW : Below w.heap.size w W := by rw [hW]; exact ((below_self w).alloc (Nat.le_refl _) _).alloc (by simp) _
 have h0 : W.heap[w.heap.size]? = some (.cells (wsV z64) 166 (0, 0)) := by rw [hW, z64_V]; exact row2a ..
 have h1 : W.heap[w.heap.size + 1]? = some (.cells (wsV z64) 166 (0, 0)) := by rw [hW, z64_V]; exact row2b ..
 have zW : w.heap.size + 1 < W.heap.size := by rw [hW]; simp
 rw [← hW]
 clear hW
 go_loopw [11] (WrI w xs) (fun i _ => 64 - (intOf i).toNat)
 case atStart => exact ⟨0, by omega, rfl, by rw [wsP_zero]; exact h1, h0, bW, zW⟩
 case round =>
  obtain ⟨k, hk, rfl, r3, r2, HB, hz⟩ := hrel
  clear h0 h1 zW bW
  by_cases hlt : k < 64
  ·have R3 := Lib.hid r3
   have R2 := Lib.hid r2
   have hset := wsP_set xs k hlt
   have HS := Lib.hid hset
   have old := (cell_of_row wr _ k _ _ _ r3).trans (wsV_get _ k (by rw [wsP_len _ _ (by omega)]; exact hlt))
   have frz : wr.frozen? ⟨w.heap.size + 1, k, none⟩ = false := frozen_of_row _ _ _ _ _ r3
   have HOLD := Lib.hid old
   clear r3 r2 hset old
   by_cases h16 : k < 16
   ·obtain ⟨p, hp⟩ : ∃ p, p = 4 * k := ⟨_, rfl⟩
    have rc := ((hr.below HB).cutS p (64 - p) (by omega) (by omega)).take 4 (by omega)
    have hF : fromBe ((xs.drop p).take 4) = shWord xs (shWs xs k) k := by
     unfold fromBe shWord; rw [if_pos h16, List.take_take, hp]; rfl
    have hF2 : shWord xs (shWs xs k) k < 4294967296 := shWord_lt _ _ _
    generalize shWord xs (shWs xs k) k = M at *
    have HF := Lib.hid hF
    have wM : IntKind.u32.wrap (M : Int) = M := by rw [IntKind.wrap_u32]; omega
    have oo := HOLD.out
    obtain ⟨u9, hu9⟩ : ∃ u : Nat, (wsP xs k).getD k 0 = u := ⟨_, rfl⟩
    rw [hu9] at oo
    obtain ⟨q, hq⟩ : ∃ q, q = p + 4 := ⟨_, rfl⟩
    have a1 : (4 : Int) * (k : Int) = (p : Int) := by omega
    have a2 : (p : Int) + 4 = (q : Int) := by omega
    have a3 : (q : Int) ≤ (c : Int) := by omega
    have a4 : ¬ (c = p) := by omega
    have a5 : q - p = 4 := by omega
    have a6 : (p : Int) ≤ (q : Int) := by omega
    clear hF hu9 hp hq
    go_wp2_with fail
    refine (fromBe_any _ _ _ _ _ rc).mono ?_
    rintro e w1 ⟨rfl, rfl⟩
    rw [HF.out]
    go_wp2_with fail
    go_roundw
    case rel => exact ⟨k + 1, by omega, by go_num, by rw [setc_rowT R3.out, wsV_set, HS.out], (Below.heap_setCell _ _ _ _ (by simp)).trans R2.out, HB.setCell (p := ⟨w.heap.size + 1, k, none⟩) (by simp) _, by simp [World.setCell]; omega⟩
    case measure => simp [intOf]; omega
   ·have g15 := wsP_get xs k (k - 15) (by omega)
    have g2 := wsP_get xs k (k - 2) (by omega)
    have g7 := wsP_get xs k (k - 7) (by omega)
    have g16 := wsP_get xs k (k - 16) (by omega)
    have cell : ∀ j, j < k → wr.cell? ⟨w.heap.size + 1, j, none⟩ = some (.int .u32 (((shWs xs k).getD j 0 : Nat) : Int)) := fun j hj => by
     rw [← wsP_get xs k j hj]
     exact (cell_of_row wr _ j _ _ _ R3.out).trans (wsV_get _ j (by rw [wsP_len _ _ (by omega)]; omega))
    have hword : shWord xs (shWs xs k) k = shSig (shWs xs k) k := by unfold shWord; rw [if_neg h16]
    have l15 := ws_lt xs k (k - 15)
    have l2 := ws_lt xs k (k - 2)
    have l7 := ws_lt xs k (k - 7)
    have l16 := ws_lt xs k (k - 16)
    have c15 := cell (k - 15) (by omega)
    have c2 := cell (k - 2) (by omega)
    have c7 := cell (k - 7) (by omega)
    have c16 := cell (k - 16) (by omega)
    have hsig : shSig (shWs xs k) k = ((shMix ((shWs xs k).getD (k - 2) 0) [17, 19] ^^^ (shWs xs k).getD (k - 2) 0 / 1024) + ((shWs xs k).getD (k - 7) 0 + (shWs xs k).getD (k - 16) 0 + (shMix ((shWs xs k).getD (k - 15) 0) [7, 18] ^^^ (shWs xs k).getD (k - 15) 0 / 8))) % 4294967296 := rfl
    rw [hword, hsig] at HS
    have old := HOLD.out
    obtain ⟨u9, hu9⟩ : ∃ u : Nat, (wsP xs k).getD k 0 = u := ⟨_, rfl⟩
    rw [hu9] at old
    generalize (shWs xs k).getD (k - 15) 0 = far at *
    generalize (shWs xs k).getD (k - 2) 0 = near at *
    generalize (shWs xs k).getD (k - 7) 0 = s7 at *
    generalize (shWs xs k).getD (k - 16) 0 = s16 at *
    obtain ⟨j15, e15⟩ : ∃ j, j = k - 15 := ⟨_, rfl⟩
    obtain ⟨j2, e2⟩ : ∃ j, j = k - 2 := ⟨_, rfl⟩
    obtain ⟨j7, e7⟩ : ∃ j, j = k - 7 := ⟨_, rfl⟩
    obtain ⟨j16, e16⟩ : ∃ j, j = k - 16 := ⟨_, rfl⟩
    rw [← e15] at c15
    rw [← e2] at c2
    rw [← e7] at c7
    rw [← e16] at c16
    have m15 : (k : Int) - 15 = (j15 : Int) := by omega
    have m2 : (k : Int) - 2 = (j2 : Int) := by omega
    have m7 : (k : Int) - 7 = (j7 : Int) := by omega
    have m16 : (k : Int) - 16 = (j16 : Int) := by omega
    have b15 : j15 < 64 := by omega
    have b2 : j2 < 64 := by omega
    have b7 : j7 < 64 := by omega
    have b16 : j16 < 64 := by omega
    have b15i : (j15 : Int) < 64 := by omega
    have b2i : (j2 : Int) < 64 := by omega
    have b7i : (j7 : Int) < 64 := by omega
    have b16i : (j16 : Int) < 64 := by omega
    have bki : (k : Int) < 64 := by omega
    have w15 := wi64n (k := j15) (by omega)
    have w2 := wi64n (k := j2) (by omega)
    have w7 := wi64n (k := j7) (by omega)
    have w16 := wi64n (k := j16) (by omega)
    have hlt15 : decide ((k : Int) < 16) = false := decide_eq_false (by omega)
    have M1 : shMix near [17, 19] < 4294967296 := shMix_lt l2 _
    have M2 : shMix far [7, 18] < 4294967296 := shMix_lt l15 _
    obtain ⟨n10, hn10⟩ : ∃ n, near / 1024 = n := ⟨_, rfl⟩
    obtain ⟨f3, hf3⟩ : ∃ n, far / 8 = n := ⟨_, rfl⟩
    have q10 : (near : Int) / 1024 = (n10 : Int) := by omega
    have q3 : (far : Int) / 8 = (f3 : Int) := by omega
    rw [hn10, hf3] at HS
    have x1 := u32_xor_nat (shMix near [17, 19]) n10 M1 (by omega)
    have x2 := u32_xor_nat (shMix far [7, 18]) f3 M2 (by omega)
    have X1 := xor_lt32 M1 (show n10 < 4294967296 by omega)
    have hm1 := fun W r => mixed_any near (some ⟨wr.heap.size, 0, none⟩) 2 2 [17, 19] W l2 r rfl (by omega) (by decide)
    have hm2 := fun W A r => mixed_any far A 2 2 [7, 18] W l15 r rfl (by omega) (by decide)
    generalize shMix near [17, 19] = m1 at *
    generalize shMix far [7, 18] = m2 at *
    obtain ⟨T1, hT1⟩ : ∃ n, m1 ^^^ n10 = n := ⟨_, rfl⟩
    obtain ⟨T2, hT2⟩ : ∃ n, m2 ^^^ f3 = n := ⟨_, rfl⟩
    rw [hT1] at x1 X1 HS
    rw [hT2] at x2 HS
    have HM1 := Lib.hid hm1
    have HM2 := Lib.hid hm2
    have HSS := Lib.hid HS.out
    have hg3 : w.heap.size + 1 < wr.heap.size := hz
    clear hm1 hm2 g15 g2 g7 g16 cell hword hsig hu9 e15 e2 e7 e16 hn10 hf3 hT1 hT2 l15 l2 l7 l16 M1 M2 HS
    go_wp2_with fail
    refine wp_region_plan (S := fun w' => Below wr.heap.size wr w') [(0, true), (1, true), (2, true), (3, true), (4, true), (5, true), (6, true), (7, true), (8, true), (9, true)] (by kernel_rfl) (by kernel_rfl) (fun _ _ d _ _ h => by cases d <;> exact h) ((Below.refl _ wr).drew) ?_
    iterate 10 (refine plan_take (v := ?_) rfl (Or.inl ⟨by rfl, ?_⟩) ?_; rotate_left; (focus (intro w' hw'; have jj := (hw'.cell (p := ⟨w.heap.size + 1, j15, none⟩) hg3).trans c15; have jk := (hw'.cell (p := ⟨w.heap.size + 1, j2, none⟩) hg3).trans c2; go_simp <;> with_reducible rfl)); try simp only [Act.put, pst3])
    refine plan_done ?_
    go_wp2_with fail
    refine named ?_
    intro W1 hW1
    have bW1 : Below wr.heap.size wr W1 := by rw [hW1]; repeat' (first | exact Below.refl _ _ | (refine Below.alloc ?_ ?_ _; rotate_left; (simp <;> omega)) | refine Below.drew ?_)
    have zW1 := bW1.size
    have HW1 := Lib.hid hW1
    clear hW1
    have rI : Rd W1 (some ⟨wr.heap.size, 0, none⟩) ([17, 19].map vI) := by rw [HW1.out]; exact Rd.new wr.drew #[.int .i64 17, .int .i64 19] _
    refine (HM1.out W1 rI).mono ?_
    rintro e v2 ⟨rfl, hv2⟩
    have B2 := below_then bW1 hv2
    have o2 := (B2.cell (p := ⟨w.heap.size + 1, k, none⟩) hg3).trans old
    have f2 := (B2.frozen (p := ⟨w.heap.size + 1, k, none⟩) hg3).trans frz
    have R32 := Lib.hid ((B2.block _ hg3).trans R3.out)
    go_wp2_with fail
    obtain ⟨V, hV⟩ : ∃ V, V = v2.setCell ⟨w.heap.size + 1, k, none⟩ (.int .u32 (T1 : Int)) := ⟨_, rfl⟩
    rw [← hV]
    have oV : V.cell? ⟨w.heap.size + 1, k, none⟩ = some (.int .u32 (T1 : Int)) := by rw [hV]; exact World.cell?_setCell_same _ _ _ o2
    have fV : V.frozen? ⟨w.heap.size + 1, k, none⟩ = false := by rw [hV, World.frozen?_setCell]; exact f2
    have rowV : V.heap[w.heap.size + 1]? = some (.cells (wsV ((wsP xs k).set k T1)) 166 (0, 0)) := by rw [hV, setc_rowT R32.out, wsV_set]
    have row2V : V.heap[w.heap.size]? = some (.cells (wsV z64) 166 (0, 0)) := by rw [hV]; exact (Below.heap_setCell _ _ _ _ (by simp)).trans ((B2.block _ (by omega)).trans R2.out)
    have BV : Below w.heap.size w V := by rw [hV]; exact (HB.trans (B2.mono HB.size)).setCell (p := ⟨w.heap.size + 1, k, none⟩) (by simp) _
    have zV : w.heap.size + 1 < V.heap.size := by rw [hV]; have := B2.size; simp [World.setCell]; omega
    have c7V : V.cell? ⟨w.heap.size + 1, j7, none⟩ = some (.int .u32 (s7 : Int)) := by rw [hV]; exact scell_off (by omega) ((B2.cell (p := ⟨w.heap.size + 1, j7, none⟩) hg3).trans c7)
    have c16V : V.cell? ⟨w.heap.size + 1, j16, none⟩ = some (.int .u32 (s16 : Int)) := by rw [hV]; exact scell_off (by omega) ((B2.cell (p := ⟨w.heap.size + 1, j16, none⟩) hg3).trans c16)
    have ROWV := Lib.hid rowV
    have ROW2V := Lib.hid row2V
    clear hV rowV row2V o2 f2 c15 c2 c7 c16 old frz
    refine wp_region_last (S := fun w' => Below V.heap.size V w') 21 (brw9 22 2097151) [(0, true), (1, true), (2, true), (3, true), (4, true), (5, true), (6, true), (7, true), (8, true), (9, true), (10, true), (11, true), (12, true), (15, true), (16, true), (13, false), (14, false), (17, true), (18, true), (19, true), (20, true)] (by kernel_rfl) (by kernel_rfl) (fun _ _ d _ _ h => by cases d <;> exact h) ((Below.refl _ V).drew) ?_
    iterate 15 (refine seg_take (v := ?_) rfl (Or.inl ⟨by rfl, ?_⟩) ?_; rotate_left; (focus (intro w' hw'; have jj := (hw'.cell (p := ⟨w.heap.size + 1, k, none⟩) zV).trans oV; have jk := (hw'.cell (p := ⟨w.heap.size + 1, j7, none⟩) zV).trans c7V; have jl := (hw'.cell (p := ⟨w.heap.size + 1, j16, none⟩) zV).trans c16V; go_simp <;> with_reducible rfl)); try simp only [Act.put, pst3])
    refine seg_run rfl (fun K hK => ?_)
    rw [if_pos (by rfl)]
    have HB8 := (Below.refl V.heap.size V).drew
    refine op_lit #[.int .i64 7, .int .i64 18] 3 2 rfl (fun w => by go_simp) ?_
    intro gI wI eI hIrow HIb hIsz
    have HB9 := below_then HB8 HIb
    have rI := rdsAt hIrow
    refine hK.out _ _ (HB9) ?_
    clear hK
    try simp only [Act.put, pst3]
    refine seg_run rfl (fun K hK => ?_)
    go_simp
    refine (HM2.out wI _ rI).mono ?_
    rintro e v5 ⟨rfl, hv5⟩
    have HB7 := below_then HB9 hv5
    refine hK.out _ _ (HB7) ?_
    clear hK
    try simp only [Act.put, pst3]
    iterate 4 (refine seg_take (v := ?_) rfl (Or.inl ⟨by rfl, ?_⟩) ?_; rotate_left; (focus (intro w' hw'; have jj := (hw'.cell (p := ⟨w.heap.size + 1, k, none⟩) zV).trans oV; have jk := (hw'.cell (p := ⟨w.heap.size + 1, j7, none⟩) zV).trans c7V; have jl := (hw'.cell (p := ⟨w.heap.size + 1, j16, none⟩) zV).trans c16V; go_simp <;> with_reducible rfl)); try simp only [Act.put, pst3])
    refine seg_done ?_
    refine last_run rfl (fun K hK => ?_)
    go_simp
    have o5 := (HB7.cell (p := ⟨w.heap.size + 1, k, none⟩) zV).trans oV
    have f5 := (HB7.frozen (p := ⟨w.heap.size + 1, k, none⟩) zV).trans fV
    go_simp
    refine hK.out _ _ ?_
    clear hK
    try simp only [Act.put, pst3]
    have z5 := HB7.size
    have hraw : ((T1 : Int) + (((s7 : Int) + (s16 : Int)) % 4294967296 + (T2 : Int)) % 4294967296) % 4294967296 = (((T1 + (s7 + s16 + T2)) % 4294967296 : Nat) : Int) := by omega
    have HRAW := Lib.hid hraw
    have ROW5 := Lib.hid ((HB7.block _ zV).trans ROWV.out)
    have ROW25 := Lib.hid ((HB7.block _ (by omega)).trans ROW2V.out)
    clear hraw o5 f5
    go_wp2_with fail
    go_roundw
    case rel => exact ⟨k + 1, by omega, by go_num, by rw [setc_rowT ROW5.out, HRAW.out, wsV_set, List.set_set, HSS.out], (Below.heap_setCell _ _ _ _ (by simp)).trans ROW25.out, (BV.trans (HB7.mono BV.size)).setCell (p := ⟨w.heap.size + 1, k, none⟩) (by simp) _, by simp [World.setCell]; omega⟩
    case measure => simp [intOf]; omega
  ·obtain rfl : k = 64 := by omega
   rw [wsP_all] at r3
   have R3 := Lib.hid r3
   have R2 := Lib.hid r2
   have hl := Lib.hid (shWs_len xs 64)
   clear r3 r2
   go_wp2_with (first
    | (refine w64_load rfl _ rfl (w.heap.size + 1) rfl (shWs xs 64) 166 R3.out hl.out ?_)
    | (refine w64_store rfl _ _ rfl w.heap.size rfl (shWs xs 64) z64 rfl 166 R2.out hl.out rfl ?_))
   refine bodyPost_ret (results_cell_row Tryz.results139 _ _ w.heap.size 166 (wsV (shWs xs 64)) (0, 0) _ rfl (setRow_heap _ _ _ (wsV (shWs xs 64)) _ _ R2.out) Tryz.underlying166 rfl (info64 _ hl.out)) rfl ?_
   exact ⟨rfl, below_setRow HB (Nat.le_refl _) _⟩
theorem shaWords_any (A : Option Addr) (n c : Nat) (xs : List UInt8) (w : World) (hr : RdB w A n c xs) : Calls Tryz.prog 139 #[.slice A n c] w (RetW w (shWords xs)) := by
 by_cases h : n = 64
 ·subst h; exact shaWords_long A c xs w hr
 ·exact shaWords_short A n c xs w hr h
set_option maxHeartbeats 8000000
theorem info8 (ws : List Nat) (h : ws.length = 8) : (Tryz.prog.info? 137).map (·.size) = some (wsV ws).size := by rw [wsV_size, h]; kernel_rfl
def z8 : List Nat := [0, 0, 0, 0, 0, 0, 0, 0]
section
variable {ops : Array Oper} {rest : List Oper} {o : Oper} {a : Act} {w : World} {Q : Exit → Act → World → Prop}
theorem w8_load (hgd : o.guard = none) (x : Operand) (ho : o.op = .load 137 x) (h : Nat) (hx : a.eval x = .pointer (some ⟨h, 0, none⟩)) (y : List Nat) (T : TypeId) (hrow : w.heap[h]? = some (.cells (wsV y) T (0, 0))) (hl : y.length = 8)
  (hK : wpList Tryz.prog ops Q rest (a.put o.dst (.agg (wsV y))) w) : wpList Tryz.prog ops Q (o :: rest) a w :=
 wpList_load_row hgd 137 x ho h hx T (wsV y) (0, 0) _ hrow Tryz.underlying137 rfl (info8 y hl) hK
theorem w8_store (hgd : o.guard = none) (x z : Operand) (ho : o.op = .store 137 x z) (h : Nat) (hx : a.eval x = .pointer (some ⟨h, 0, none⟩)) (y old : List Nat) (hz : a.eval z = .agg (wsV y)) (T : TypeId) (hrow : w.heap[h]? = some (.cells (wsV old) T (0, 0))) (hl : y.length = 8) (ho2 : old.length = 8)
  (hK : wpList Tryz.prog ops Q rest (a.put o.dst undef) (w.setRow h (wsV y))) : wpList Tryz.prog ops Q (o :: rest) a w :=
 wpList_store_row hgd 137 x z ho h (wsV y) hx hz T (wsV old) hrow (info8 y hl) (by rw [wsV_size, wsV_size, hl, ho2]) (wsV_one y) hK
end
theorem H8.len (x : H8) : x.l.length = 8 := rfl
theorem index64 (ws : List Nat) (h : ws.length = 64) (k : Nat) (hk : k < 64) (W : World) : (Instr.index 166 (.agg (wsV ws)) (.int .i64 (k : Int))).run Tryz.prog W = .ok (.int .u32 ((ws.getD k 0 : Nat) : Int)) W := by
 have hs : ∃ i, Tryz.prog.info? 28 = some i ∧ i.size = 1 := by
  have : (Tryz.prog.info? 28).map (·.size) = some 1 := by kernel_rfl
  cases hq : Tryz.prog.info? 28 with
  | none => rw [hq] at this; cases this
  | some i => rw [hq] at this; exact ⟨i, rfl, by simpa using this⟩
 obtain ⟨i, hi, hsz⟩ := hs
 have hk2 : (k : Int) < 64 := by omega
 have hg := wsV_get ws k (by omega)
 have hagg : (isAgg 28).run Tryz.prog W = .ok false W := by
  unfold isAgg
  rw [Sem.run_bind, run_underlying Tryz.underlying28 W]
  rfl
 have hg2 : (wsV ws)[k]! = .int .u32 ((ws.getD k 0 : Nat) : Int) := by
  rw [getElem!_def, hg]
 simp [Instr.index, asIntOf, run_underlying Tryz.underlying166, hk2, sizeOf, typeInfo, hi, hsz, part, hagg, hg, hg2]
 intro h9
 omega
def adP (x y : H8) (k : Nat) : List Nat := (x.add y).l.take k ++ x.l.drop k
theorem adP_zero (x y : H8) : adP x y 0 = x.l := by simp [adP]
theorem adP_all (x y : H8) : adP x y 8 = (x.add y).l := by simp [adP, H8.l]
theorem adP_len (x y : H8) (k : Nat) (h : k ≤ 8) : (adP x y k).length = 8 := by simp [adP, H8.l]; omega
theorem adP_step (x y : H8) (k : Nat) (h : k < 8) : (adP x y k).getD k 0 = x.l.getD k 0 ∧ (adP x y k).set k ((x.l.getD k 0 + y.l.getD k 0) % 4294967296) = adP x y (k + 1) := by
 match k, h with
 | 0, _ | 1, _ | 2, _ | 3, _ | 4, _ | 5, _ | 6, _ | 7, _ => exact ⟨rfl, rfl⟩
theorem H8.l_lt {x : H8} (h : x.ok) (k : Nat) : x.l.getD k 0 < 4294967296 := by
 obtain ⟨h1, h2, h3, h4, h5, h6, h7, h8⟩ := h
 match k with
 | 0 => exact h1
 | 1 => exact h2
 | 2 => exact h3
 | 3 => exact h4
 | 4 => exact h5
 | 5 => exact h6
 | 6 => exact h7
 | 7 => exact h8
 | k + 8 => simp [H8.l, List.getD]
set_option maxHeartbeats 8000000
def TuR (w : World) (x : H8) (g5 g6 : Nat) (hs : List Nat) (ys : List Nat) (wr : World) : Prop :=
 wr.heap[w.heap.size]? = some (.cells (wsV hs) 137 (0, 0)) ∧ wr.heap[w.heap.size + 1]? = some (.cells (wsV z8) 137 (0, 0)) ∧ wr.heap[g5]? = some (.cells (wsV shK) 166 (0, 0)) ∧ wr.heap[g6]? = some (.cells (wsV ys) 137 (0, 0)) ∧ g6 < wr.heap.size
def TuI (w : World) (x : H8) (g5 g6 : Nat) (ws : List Nat) (v20 : Value) (wr : World) : Prop :=
 ∃ k : Nat, k ≤ 64 ∧ v20 = .int .i64 k ∧ TuR w x g5 g6 x.l (shRounds ws x k).l wr ∧ Below w.heap.size w wr
def TuJ (w : World) (x y : H8) (g5 g6 : Nat) (v81 : Value) (wr : World) : Prop :=
 ∃ k : Nat, k ≤ 8 ∧ v81 = .int .i64 k ∧ TuR w x g5 g6 (adP x y k) y.l wr ∧ Below w.heap.size w wr
theorem z8_V : wsV z8 = #[.int .u32 0, .int .u32 0, .int .u32 0, .int .u32 0, .int .u32 0, .int .u32 0, .int .u32 0, .int .u32 0] := by rfl
theorem shK_lt (k : Nat) : shK.getD k 0 < 4294967296 := by
 by_cases h : k < shK.length
 ·rw [List.getD, List.getElem?_eq_getElem h]
  exact (show ∀ n ∈ shK, n < 4294967296 by decide) _ (List.getElem_mem h)
 ·rw [List.getD, List.getElem?_eq_none (by omega)]; simp
theorem shaTurn_short (x : H8) (A : Option Addr) (n c : Nat) (xs : List UInt8) (w : World) (hr : RdB w A n c xs) (h : n ≠ 64) :
  Calls Tryz.prog 105 #[.agg (wsV x.l), .slice A n c] w (RetW w (shTurn x xs).l) := by
 have hn := hr.n63
 have e : shTurn x xs = x := by unfold shTurn; rw [if_neg (by rw [hr.2.1]; exact h)]
 rw [e]
 have d1 : ((n : Int) != 64) = true := by rw [bne_iff_ne]; omega
 have H0 := Lib.hid (show ((w.alloc (.cells (wsV x.l) 137)).alloc (.cells #[.int .u32 0, .int .u32 0, .int .u32 0, .int .u32 0, .int .u32 0, .int .u32 0, .int .u32 0, .int .u32 0] 137)).heap[w.heap.size]? = some (.cells (wsV x.l) 137 (0, 0)) by exact row2a ..)
 have H1 := Lib.hid (show ((w.alloc (.cells (wsV x.l) 137)).alloc (.cells #[.int .u32 0, .int .u32 0, .int .u32 0, .int .u32 0, .int .u32 0, .int .u32 0, .int .u32 0, .int .u32 0] 137)).heap[w.heap.size + 1]? = some (.cells (wsV z8) 137 (0, 0)) by rw [z8_V]; exact row2b ..)
 clear h e
 go_enter Tryz.func105, Tryz.ntmps105
 go_wp2_with (first
  | (refine w8_load rfl _ rfl w.heap.size rfl x.l 137 H0.out rfl ?_)
  | (refine w8_store rfl _ _ rfl (w.heap.size + 1) rfl x.l z8 rfl 137 H1.out rfl rfl ?_))
 refine bodyPost_ret (results_cell_row Tryz.results105 _ _ (w.heap.size + 1) 137 (wsV x.l) (0, 0) _ rfl (setRow_heap _ _ _ (wsV x.l) _ _ H1.out) Tryz.underlying137 rfl (info8 x.l rfl)) rfl ?_
 exact ⟨rfl, below_setRow (((below_self w).alloc (Nat.le_refl _) _).alloc (by simp) _) (by omega) _⟩
theorem shaTurn_long (x : H8) (A : Option Addr) (c : Nat) (xs : List UInt8) (w : World) (hx : x.ok) (hr : RdB w A 64 c xs) :
  Calls Tryz.prog 105 #[.agg (wsV x.l), .slice A 64 c] w (RetW w (shTurn x xs).l) := by
 have hl := hr.2.1
 have e : shTurn x xs = x.add (shRounds (shWs xs 64) x 64) := by unfold shTurn; rw [if_pos hl]
 have e2 : shWords xs = shWs xs 64 := by unfold shWords; rw [if_pos hl]
 rw [e]
 have d1 : ((64 : Int) != 64) = false := by decide
 have E2 := Lib.hid e2
 have HX := Lib.hid hx
 clear e e2 hl hx
 go_enter Tryz.func105, Tryz.ntmps105
 go_wp2_with fail
 obtain ⟨W, hW⟩ : ∃ W, W = (w.alloc (.cells (wsV x.l) 137)).alloc (.cells #[.int .u32 0, .int .u32 0, .int .u32 0, .int .u32 0, .int .u32 0, .int .u32 0, .int .u32 0, .int .u32 0] 137) := ⟨_, rfl⟩
 have bW : Below w.heap.size w W := by rw [hW]; exact ((below_self w).alloc (Nat.le_refl _) _).alloc (by simp) _
 have h0 : W.heap[w.heap.size]? = some (.cells (wsV x.l) 137 (0, 0)) := by rw [hW]; exact row2a ..
 have h1 : W.heap[w.heap.size + 1]? = some (.cells (wsV z8) 137 (0, 0)) := by rw [hW, z8_V]; exact row2b ..
 have zW : w.heap.size + 1 < W.heap.size := by rw [hW]; simp
 rw [← hW]
 have H0 := Lib.hid h0
 have H1 := Lib.hid h1
 clear hW h0 h1
 refine (shaConst_any W).mono ?_
 rintro e w1 ⟨rfl, hb1⟩
 have z1 := hb1.size
 have HA := Lib.hid (alloc64 w1)
 go_wp2_with (first
  | (refine w64_store rfl _ _ rfl w1.heap.size rfl shK z64 rfl 166 HA.out rfl rfl ?_; obtain ⟨V1, hV⟩ : ∃ V, V = (w1.alloc (.cells zz2 166)).setRow w1.heap.size (wsV shK) := ⟨_, rfl⟩; rw [← hV]; have bV1 : Below w1.heap.size w1 V1 := (by rw [hV]; exact below_setRow ((below_self w1).alloc (Nat.le_refl _) _) (Nat.le_refl _) _); have zV1 : w1.heap.size < V1.heap.size := (by rw [hV]; simp); have HK := Lib.hid (show V1.heap[w1.heap.size]? = some (.cells (wsV shK) 166 (0, 0)) by rw [hV]; exact setRow_heap _ _ _ (wsV shK) _ _ HA.out); have H01 := Lib.hid (((hb1.trans (bV1.mono z1)).block _ (by omega)).trans H0.out); have HZ := Lib.hid (show (V1.alloc (.cells #[.int .u32 0, .int .u32 0, .int .u32 0, .int .u32 0, .int .u32 0, .int .u32 0, .int .u32 0, .int .u32 0] 137)).heap[V1.heap.size]? = some (.cells (wsV z8) 137 (0, 0)) by rw [z8_V]; exact row1 ..); clear hV)
  | (refine w8_load rfl _ rfl w.heap.size rfl x.l 137 H01.out rfl ?_)
  | (refine w8_store rfl _ _ rfl V1.heap.size rfl x.l z8 rfl 137 HZ.out rfl rfl ?_; obtain ⟨V2, hV⟩ : ∃ V, V = (V1.alloc (.cells #[.int .u32 0, .int .u32 0, .int .u32 0, .int .u32 0, .int .u32 0, .int .u32 0, .int .u32 0, .int .u32 0] 137)).setRow V1.heap.size (wsV x.l) := ⟨_, rfl⟩; rw [← hV]; have bV2 : Below V1.heap.size V1 V2 := (by rw [hV]; exact below_setRow ((below_self V1).alloc (Nat.le_refl _) _) (Nat.le_refl _) _); have zV2 : V1.heap.size < V2.heap.size := (by rw [hV]; simp); have HY := Lib.hid (show V2.heap[V1.heap.size]? = some (.cells (wsV x.l) 137 (0, 0)) by rw [hV]; exact setRow_heap _ _ _ (wsV x.l) _ _ HZ.out); clear hV))
 have bW2 : Below W.heap.size W V2 := below_then hb1 (below_then bV1 bV2)
 have hh := shaWords_any A 64 c xs V2 (hr.below (below_then bW bW2))
 rw [E2.out] at hh
 refine hh.mono ?_
 clear hh
 rintro e w3 ⟨rfl, hb3⟩
 have z3 := hb3.size
 have B3 := below_then bW (below_then bW2 hb3)
 have bW3 := below_then bW2 hb3
 have R : TuR w x w1.heap.size V1.heap.size x.l x.l w3 := ⟨(bW3.block _ (by omega)).trans H0.out, (bW3.block _ (by omega)).trans H1.out, ((below_then bV2 hb3).block _ zV1).trans HK.out, (hb3.block _ zV2).trans HY.out, by omega⟩
 have hwl := shWs_len xs 64
 have hwt := shWs_lt xs 64
 generalize shWs xs 64 = ws at *
 have g5a : w.heap.size + 1 < w1.heap.size := by omega
 obtain ⟨g5, hg5⟩ : ∃ g, w1.heap.size = g := ⟨_, rfl⟩
 obtain ⟨g6, hg6⟩ : ∃ g, V1.heap.size = g := ⟨_, rfl⟩
 have hg56 : g5 < g6 := by omega
 rw [hg5] at R g5a
 rw [hg6] at R
 rw [hg5, hg6]
 have HWL := Lib.hid hwl
 have HWT := Lib.hid hwt
 clear HA HK H01 HZ HY H0 H1 bV1 bV2 hb3 hb1 bW2 bW3 zV1 zV2 z1 z3 zW bW hg5 hg6 E2 hwl hwt
 go_wp2_with fail
 go_loopw [20] (TuI w x g5 g6 ws) (fun i _ => 64 - (intOf i).toNat)
 case atStart => exact ⟨0, by omega, rfl, R, B3⟩
 case round =>
  obtain ⟨k, hk, rfl, ⟨q2, q4, q5, q6, qz⟩, BR⟩ := hrel
  clear R B3
  by_cases hlt : k < 64
  ·have hy := shRounds_ok ws HX.out k
   have hnx : shRounds ws x (k + 1) = shStep (shK.getD k 0) (ws.getD k 0) (shRounds ws x k) := rfl
   have ix := index64 ws HWL.out k hlt
   have cK := (cell_of_row wr _ k _ _ _ q5).trans (wsV_get shK k (show k < shK.length from hlt))
   have hkk : shK.getD k 0 < 4294967296 := shK_lt k
   have hwk : ws.getD k 0 < 4294967296 := by
    have hl := HWL.out
    rw [List.getD, List.getElem?_eq_getElem (by omega)]
    exact HWT.out _ (List.getElem_mem (by omega))
   generalize shRounds ws x k = y at *
   generalize ws.getD k 0 = wk at *
   generalize shK.getD k 0 = kk at *
   obtain ⟨a, b, c9, d, e, f, g, h⟩ := y
   obtain ⟨ha, hb, hc9, hd, he, hf, hg, hh⟩ := hy
   simp only at ha hb hc9 hd he hf hg hh
   have ca := (cell_of_row wr _ 0 _ _ _ q6).trans (show (wsV (H8.l ⟨a, b, c9, d, e, f, g, h⟩))[0]? = some (.int .u32 (a : Int)) from rfl)
   have cb := (cell_of_row wr _ 1 _ _ _ q6).trans (show (wsV (H8.l ⟨a, b, c9, d, e, f, g, h⟩))[1]? = some (.int .u32 (b : Int)) from rfl)
   have cc := (cell_of_row wr _ 2 _ _ _ q6).trans (show (wsV (H8.l ⟨a, b, c9, d, e, f, g, h⟩))[2]? = some (.int .u32 (c9 : Int)) from rfl)
   have cd := (cell_of_row wr _ 3 _ _ _ q6).trans (show (wsV (H8.l ⟨a, b, c9, d, e, f, g, h⟩))[3]? = some (.int .u32 (d : Int)) from rfl)
   have ce := (cell_of_row wr _ 4 _ _ _ q6).trans (show (wsV (H8.l ⟨a, b, c9, d, e, f, g, h⟩))[4]? = some (.int .u32 (e : Int)) from rfl)
   have cf := (cell_of_row wr _ 5 _ _ _ q6).trans (show (wsV (H8.l ⟨a, b, c9, d, e, f, g, h⟩))[5]? = some (.int .u32 (f : Int)) from rfl)
   have cg := (cell_of_row wr _ 6 _ _ _ q6).trans (show (wsV (H8.l ⟨a, b, c9, d, e, f, g, h⟩))[6]? = some (.int .u32 (g : Int)) from rfl)
   have ch := (cell_of_row wr _ 7 _ _ _ q6).trans (show (wsV (H8.l ⟨a, b, c9, d, e, f, g, h⟩))[7]? = some (.int .u32 (h : Int)) from rfl)
   have M1 : shMix e [6, 11, 25] < 4294967296 := shMix_lt he _
   have M2 : shMix a [2, 13, 22] < 4294967296 := shMix_lt ha _
   have HM1 := Lib.hid (fun W A r => mixed_any e A 3 3 [6, 11, 25] W he r rfl (by omega) (by decide))
   have HM2 := Lib.hid (fun W A r => mixed_any a A 3 3 [2, 13, 22] W ha r rfl (by omega) (by decide))
   have s1 := u32_xor_nat f g hf hg
   have s2 := u32_and_nat e (f ^^^ g) he (xor_lt32 hf hg)
   have s3 := u32_xor_nat g (e &&& (f ^^^ g)) hg (and_lt32 he)
   have s4 := u32_and_nat a b ha hb
   have s5 := u32_or_nat a b ha hb
   have s6 := u32_and_nat c9 (a ||| b) hc9 (or_lt32 ha hb)
   have s7 := u32_or_nat (a &&& b) (c9 &&& (a ||| b)) (and_lt32 ha) (and_lt32 hc9)
   have hst : shStep kk wk ⟨a, b, c9, d, e, f, g, h⟩ = ⟨((h + shMix e [6, 11, 25] + (g ^^^ (e &&& (f ^^^ g))) + kk + wk) % 4294967296 + (shMix a [2, 13, 22] + ((a &&& b) ||| (c9 &&& (a ||| b)))) % 4294967296) % 4294967296, a, b, c9, (d + (h + shMix e [6, 11, 25] + (g ^^^ (e &&& (f ^^^ g))) + kk + wk) % 4294967296) % 4294967296, e, f, g⟩ := rfl
   have hchl := xor_lt32 hg (and_lt32 (b := f ^^^ g) he)
   have hmjl := or_lt32 (and_lt32 (b := b) ha) (and_lt32 (b := a ||| b) hc9)
   generalize shMix e [6, 11, 25] = m1 at *
   generalize shMix a [2, 13, 22] = m2 at *
   generalize g ^^^ (e &&& (f ^^^ g)) = chv at *
   generalize e &&& (f ^^^ g) = efg at *
   generalize f ^^^ g = fg at *
   generalize (a &&& b) ||| (c9 &&& (a ||| b)) = mj at *
   generalize c9 &&& (a ||| b) = coab at *
   generalize a ||| b = oab at *
   generalize a &&& b = ab at *
   obtain ⟨T, hT⟩ : ∃ T, (h + m1 + chv + kk + wk) % 4294967296 = T := ⟨_, rfl⟩
   obtain ⟨U, hU⟩ : ∃ T, (m2 + mj) % 4294967296 = T := ⟨_, rfl⟩
   rw [hT, hU] at hst
   obtain ⟨p1, hp1⟩ : ∃ p, p = (h + m1) % 4294967296 := ⟨_, rfl⟩
   obtain ⟨p2, hp2⟩ : ∃ p, p = (p1 + chv) % 4294967296 := ⟨_, rfl⟩
   obtain ⟨p3, hp3⟩ : ∃ p, p = (p2 + kk) % 4294967296 := ⟨_, rfl⟩
   have v1 : IntKind.u32.wrap ((h : Int) + (m1 : Int)) = (p1 : Int) := by rw [IntKind.wrap_u32]; omega
   have v2 : IntKind.u32.wrap ((p1 : Int) + (chv : Int)) = (p2 : Int) := by rw [IntKind.wrap_u32]; omega
   have v3 : IntKind.u32.wrap ((p2 : Int) + (kk : Int)) = (p3 : Int) := by rw [IntKind.wrap_u32]; omega
   have v4 : IntKind.u32.wrap ((p3 : Int) + (wk : Int)) = (T : Int) := by rw [IntKind.wrap_u32]; omega
   have v5 : IntKind.u32.wrap ((m2 : Int) + (mj : Int)) = (U : Int) := by rw [IntKind.wrap_u32]; omega
   rw [hst] at hnx
   have HN := Lib.hid hnx
   have Q2 := Lib.hid q2
   have Q4 := Lib.hid q4
   have Q5 := Lib.hid q5
   have Q6 := Lib.hid q6
   have xr : g6 < wr.heap.size := qz
   have xr5 : g5 < wr.heap.size := by omega
   have hk64 : (k : Int) < 64 := by omega
   clear hst hnx q2 q4 q5 q6 hp1 hp2 hp3 hT hU M1 M2 hchl hmjl hkk hwk ha hb hc9 hd he hf hg hh
   go_wp2_with fail
   refine wp_region_seg (S := fun w' => Below wr.heap.size wr w') 0 (brw9 26 67108863) [(0, true), (1, true), (2, true), (3, true), (7, true), (8, true), (9, true), (10, true), (11, true), (12, true), (13, true), (14, true), (15, true), (16, true), (17, true), (19, true), (20, true), (21, true), (23, true), (4, false), (5, false), (6, true), (18, true), (22, true), (24, true), (25, true)] (by kernel_rfl) (by kernel_rfl) (fun _ _ d _ _ h => by first | (cases d <;> exact h) | cases h.1) ((Below.refl wr.heap.size wr).drew) ?_
   have HB := (Below.refl wr.heap.size wr).drew
   iterate 19 (refine seg_take (v := ?_) rfl (Or.inl ⟨by rfl, ?_⟩) ?_; rotate_left; (focus (intro w' hw'; have ja := (hw'.cell (p := ⟨g6, 0, none⟩) xr).trans ca; have jb := (hw'.cell (p := ⟨g6, 1, none⟩) xr).trans cb; have jc := (hw'.cell (p := ⟨g6, 2, none⟩) xr).trans cc; have jd := (hw'.cell (p := ⟨g6, 3, none⟩) xr).trans cd; have je := (hw'.cell (p := ⟨g6, 4, none⟩) xr).trans ce; have jf := (hw'.cell (p := ⟨g6, 5, none⟩) xr).trans cf; have jg := (hw'.cell (p := ⟨g6, 6, none⟩) xr).trans cg; have jh := (hw'.cell (p := ⟨g6, 7, none⟩) xr).trans ch; have jK := (hw'.cell (p := ⟨g5, k, none⟩) xr5).trans cK; go_simp <;> with_reducible rfl)); try simp only [Act.put, pst3])
   refine seg_run rfl (fun K hK => ?_)
   rw [if_pos (by rfl)]
   refine op_lit #[.int .i64 6, .int .i64 11, .int .i64 25] 3 3 rfl (fun w => by go_simp) ?_
   intro gI wI eI hIrow HIb hIsz
   have HB := below_then HB HIb
   have rI := rdsAt hIrow
   refine hK.out _ _ (HB) ?_
   clear hK
   try simp only [Act.put, pst3]
   refine seg_run rfl (fun K hK => ?_)
   go_simp
   refine (HM1.out wI _ rI).mono ?_
   rintro e_ w8 ⟨rfl, hb8⟩
   have HB := below_then HB hb8
   refine hK.out _ _ (HB) ?_
   clear hK
   try simp only [Act.put, pst3]
   iterate 5 (refine seg_take (v := ?_) rfl (Or.inl ⟨by rfl, ?_⟩) ?_; rotate_left; (focus (intro w' hw'; have ja := (hw'.cell (p := ⟨g6, 0, none⟩) xr).trans ca; have jb := (hw'.cell (p := ⟨g6, 1, none⟩) xr).trans cb; have jc := (hw'.cell (p := ⟨g6, 2, none⟩) xr).trans cc; have jd := (hw'.cell (p := ⟨g6, 3, none⟩) xr).trans cd; have je := (hw'.cell (p := ⟨g6, 4, none⟩) xr).trans ce; have jf := (hw'.cell (p := ⟨g6, 5, none⟩) xr).trans cf; have jg := (hw'.cell (p := ⟨g6, 6, none⟩) xr).trans cg; have jh := (hw'.cell (p := ⟨g6, 7, none⟩) xr).trans ch; have jK := (hw'.cell (p := ⟨g5, k, none⟩) xr5).trans cK; go_simp <;> with_reducible rfl)); try simp only [Act.put, pst3])
   refine seg_done (fun _ => ?_)
   refine wpAnyH_done (by kernel_rfl) ?_ _
   obtain ⟨H8b, _⟩ : ∃ h : Below wr.heap.size wr w8, True := ⟨HB, trivial⟩
   have xr8 : g6 < w8.heap.size := Nat.lt_of_lt_of_le xr H8b.size
   have ca8 := (H8b.cell (p := ⟨g6, 0, none⟩) xr).trans ca
   have cb8 := (H8b.cell (p := ⟨g6, 1, none⟩) xr).trans cb
   have cc8 := (H8b.cell (p := ⟨g6, 2, none⟩) xr).trans cc
   have cd8 := (H8b.cell (p := ⟨g6, 3, none⟩) xr).trans cd
   have ce8 := (H8b.cell (p := ⟨g6, 4, none⟩) xr).trans ce
   have cf8 := (H8b.cell (p := ⟨g6, 5, none⟩) xr).trans cf
   have cg8 := (H8b.cell (p := ⟨g6, 6, none⟩) xr).trans cg
   have ch8 := (H8b.cell (p := ⟨g6, 7, none⟩) xr).trans ch
   go_wp2_with fail
   refine wp_region_seg (S := fun w' => Below w8.heap.size w8 w') 0 (brw9 20 1048575) [(0, true), (1, true), (4, true), (5, true), (6, true), (7, true), (8, true), (9, true), (10, true), (11, true), (12, true), (13, true), (14, true), (15, true), (16, true), (17, true), (2, false), (3, false), (18, true), (19, true)] (by kernel_rfl) (by kernel_rfl) (fun _ _ d _ _ h => by first | (cases d <;> exact h) | cases h.1) ((Below.refl w8.heap.size w8).drew) ?_
   have HB := (Below.refl w8.heap.size w8).drew
   iterate 16 (refine seg_take (v := ?_) rfl (Or.inl ⟨by rfl, ?_⟩) ?_; rotate_left; (focus (intro w' hw'; have ja := (hw'.cell (p := ⟨g6, 0, none⟩) xr8).trans ca8; have jb := (hw'.cell (p := ⟨g6, 1, none⟩) xr8).trans cb8; have jc := (hw'.cell (p := ⟨g6, 2, none⟩) xr8).trans cc8; have jd := (hw'.cell (p := ⟨g6, 3, none⟩) xr8).trans cd8; have je := (hw'.cell (p := ⟨g6, 4, none⟩) xr8).trans ce8; have jf := (hw'.cell (p := ⟨g6, 5, none⟩) xr8).trans cf8; have jg := (hw'.cell (p := ⟨g6, 6, none⟩) xr8).trans cg8; have jh := (hw'.cell (p := ⟨g6, 7, none⟩) xr8).trans ch8; go_simp <;> with_reducible rfl)); try simp only [Act.put, pst3])
   refine seg_run rfl (fun K hK => ?_)
   rw [if_pos (by rfl)]
   refine op_lit #[.int .i64 2, .int .i64 13, .int .i64 22] 3 3 rfl (fun w => by go_simp) ?_
   intro gJ wJ eJ hJrow HJb hJsz
   have HB := below_then HB HJb
   have rJ := rdsAt hJrow
   refine hK.out _ _ (HB) ?_
   clear hK
   try simp only [Act.put, pst3]
   refine seg_run rfl (fun K hK => ?_)
   go_simp
   refine (HM2.out wJ _ rJ).mono ?_
   rintro e_ w9 ⟨rfl, hb9⟩
   have HB := below_then HB hb9
   refine hK.out _ _ (HB) ?_
   clear hK
   try simp only [Act.put, pst3]
   iterate 2 (refine seg_take (v := ?_) rfl (Or.inl ⟨by rfl, ?_⟩) ?_; rotate_left; (focus (intro w' hw'; have ja := (hw'.cell (p := ⟨g6, 0, none⟩) xr8).trans ca8; have jb := (hw'.cell (p := ⟨g6, 1, none⟩) xr8).trans cb8; have jc := (hw'.cell (p := ⟨g6, 2, none⟩) xr8).trans cc8; have jd := (hw'.cell (p := ⟨g6, 3, none⟩) xr8).trans cd8; have je := (hw'.cell (p := ⟨g6, 4, none⟩) xr8).trans ce8; have jf := (hw'.cell (p := ⟨g6, 5, none⟩) xr8).trans cf8; have jg := (hw'.cell (p := ⟨g6, 6, none⟩) xr8).trans cg8; have jh := (hw'.cell (p := ⟨g6, 7, none⟩) xr8).trans ch8; go_simp <;> with_reducible rfl)); try simp only [Act.put, pst3])
   refine seg_done (fun _ => ?_)
   refine wpAnyH_done (by kernel_rfl) ?_ _
   have H9 := below_then H8b HB
   have R69 := (H9.block g6 xr).trans Q6.out
   have srcs : ∀ (j : Nat) v, ([vW a, vW b, vW c9, vW d, vW e, vW f, vW g] : List Value)[j]? = some v → w9.drew.cell? ((⟨g6, 0, none⟩ : Addr).add j) = some v := fun j v hv => by
    rw [Addr.add_lit, Nat.zero_add]
    refine (cell_of_row w9 g6 j _ _ _ R69).trans ?_
    match j, hv with
    | 0, hv | 1, hv | 2, hv | 3, hv | 4, hv | 5, hv | 6, hv => exact hv
   have SRC := Lib.hid srcs
   have R69H := Lib.hid R69
   have ls8 : Below w.heap.size w w9 := below_then BR H9
   clear srcs R69 ix s1 s2 s3 s4 s5 s6 s7 v1 v2 v3 v4 v5 ca cb cc cd ce cf cg ch ca8 cb8 cc8 cd8 ce8 cf8 cg8 ch8 cK
   go_wp2_with fail
   refine wp_region_last (S := fun w' => Below (g6) w9 w') 2 #[true, true, false] [(0, true), (1, true)] (by kernel_rfl) (by kernel_rfl) (fun _ _ d _ _ h => by cases d <;> exact h) ((Below.refl _ w9).drew) ?_
   iterate 2 (refine seg_take (v := ?_) rfl (Or.inl ⟨by rfl, ?_⟩) ?_; rotate_left; (focus (intro w' hw'; go_simp <;> with_reducible rfl)); try simp only [Act.put, pst3])
   refine seg_done ?_
   refine last_run rfl (fun K hK => ?_)
   refine step_copy_splice rfl _ _ 177 177 rfl 28 Tryz.underlying177 (by kernel_rfl) (some ⟨g6, 1, none⟩) (some ⟨g6, 0, none⟩) 7 7 7 8 rfl rfl g6 1 [vW a, vW b, vW c9, vW d, vW e, vW f, vW g, vW h] 137 R69H.out [vW a, vW b, vW c9, vW d, vW e, vW f, vW g] rfl (fun _ => ⟨rfl, _, rfl, SRC.out⟩) (by simp) (by simp [vW, Value.oneCell']) g6 w9 (Below.refl g6 w9).drew (Nat.le_refl _) ?_
   intro w10 hr10 hb10
   refine hK.out _ _ ?_
   clear hK
   try simp only [Act.put, pst3]
   have r10 : w10.heap[g6]? = some (.cells (wsV [a, a, b, c9, d, e, f, g]) 137 (0, 0)) := hr10.out
   have R10 := Lib.hid r10
   have k4 := (cell_of_row w10 _ 4 _ _ _ r10).trans (show (wsV [a, a, b, c9, d, e, f, g])[4]? = some (.int .u32 (d : Int)) from rfl)
   have k0 := (cell_of_row w10 _ 0 _ _ _ r10).trans (show (wsV [a, a, b, c9, d, e, f, g])[0]? = some (.int .u32 (a : Int)) from rfl)
   have f4 : w10.frozen? ⟨g6, 4, none⟩ = false := frozen_of_row _ _ _ _ _ r10
   have f0 : w10.frozen? ⟨g6, 0, none⟩ = false := frozen_of_row _ _ _ _ _ r10
   have k0' : ∀ v, (w10.setCell ⟨g6, 4, none⟩ v).cell? ⟨g6, 0, none⟩ = some (.int .u32 (a : Int)) := fun v => scell_off (by decide) k0
   clear r10 hr10
   have e4 : ((d : Int) + (T : Int)) % 4294967296 = (((d + T) % 4294967296 : Nat) : Int) := by omega
   have e0 : ((T : Int) + (U : Int)) % 4294967296 = (((T + U) % 4294967296 : Nat) : Int) := by omega
   have E4 := Lib.hid e4
   have E0 := Lib.hid e0
   have z9 := H9.size
   have z10 := hb10.size
   have b10 : Below w.heap.size w w10 := ls8.trans (hb10.mono (by omega))
   have b910 : ∀ j, j < g6 → w10.heap[j]? = wr.heap[j]? := fun j hj => (hb10.block j hj).trans (H9.block j (by omega))
   have T2 := Lib.hid ((b910 w.heap.size (by omega)).trans Q2.out)
   have T4 := Lib.hid ((b910 (w.heap.size + 1) (by omega)).trans Q4.out)
   have T5 := Lib.hid ((b910 g5 hg56).trans Q5.out)
   have B910 := Lib.hid b910
   clear e4 e0 b910
   go_wp2_with fail
   go_roundw
   case rel =>
    refine ⟨k + 1, by omega, by go_num, ⟨?_, ?_, ?_, ?_, ?_⟩, (b10.setCell (p := ⟨g6, 4, none⟩) (by show w.heap.size ≤ g6; omega) _).setCell (p := ⟨g6, 0, none⟩) (by show w.heap.size ≤ g6; omega) _⟩
    ·rw [Below.heap_setCell _ _ _ _ (by show w.heap.size ≠ g6; omega), Below.heap_setCell _ _ _ _ (by show w.heap.size ≠ g6; omega)]; exact T2.out
    ·rw [Below.heap_setCell _ _ _ _ (by show w.heap.size + 1 ≠ g6; omega), Below.heap_setCell _ _ _ _ (by show w.heap.size + 1 ≠ g6; omega)]; exact T4.out
    ·rw [Below.heap_setCell _ _ _ _ (by show g5 ≠ g6; omega), Below.heap_setCell _ _ _ _ (by show g5 ≠ g6; omega)]; exact T5.out
    ·rw [setc_rowT (setc_rowT R10.out), E4.out, E0.out, wsV_set, wsV_set, HN.out]; rfl
    ·simp [World.setCell]; omega
   case measure => simp [intOf]; omega
  ·obtain rfl : k = 64 := by omega
   rw [show ((64 : Nat) : Int) = 64 from rfl]
   have hy := shRounds_ok ws HX.out 64
   generalize shRounds ws x 64 = y at *
   have hxo := HX.out
   have HYO := Lib.hid hy
   clear hy
   go_wp2_with fail
   go_loopw [81] (TuJ w x y g5 g6) (fun i _ => 8 - (intOf i).toNat)
   case atStart => exact ⟨0, by omega, rfl, ⟨by rw [adP_zero]; exact q2, q4, q5, q6, qz⟩, BR⟩
   case round =>
    clear q2 q4 q5 q6 qz BR
    obtain ⟨k, hk, rfl, ⟨q2, q4, q5, q6, qz⟩, BR⟩ := hrel
    by_cases hlt : k < 8
    ·obtain ⟨s1, s2⟩ := adP_step x y k hlt
     have c2 := (cell_of_row wr _ k _ _ _ q2).trans (wsV_get _ k (by rw [adP_len _ _ _ (by omega)]; exact hlt))
     have c6 := (cell_of_row wr _ k _ _ _ q6).trans (wsV_get _ k hlt)
     have lx := H8.l_lt hxo k
     have ly := H8.l_lt HYO.out k
     rw [s1] at c2
     generalize x.l.getD k 0 = xk at *
     generalize y.l.getD k 0 = yk at *
     have fz : wr.frozen? ⟨w.heap.size, k, none⟩ = false := frozen_of_row _ _ _ _ _ q2
     have S2 := Lib.hid s2
     have Q2 := Lib.hid q2
     have Q4 := Lib.hid q4
     have Q5 := Lib.hid q5
     have Q6 := Lib.hid q6
     have k8 : (k : Int) < 8 := by omega
     obtain ⟨V, hV⟩ : ∃ V, V = (xk + yk) % 4294967296 := ⟨_, rfl⟩
     have v1 : IntKind.u32.wrap ((xk : Int) + (yk : Int)) = (V : Int) := by rw [IntKind.wrap_u32]; omega
     rw [← hV] at S2
     have zr : w.heap.size < wr.heap.size := by omega
     clear s1 s2 q2 q4 q5 q6 hV hxo
     go_wp2_with fail
     refine wp_region_last (S := fun w' => Below wr.heap.size wr w') 8 (brw9 9 255) [(0, true), (1, true), (2, true), (3, true), (4, true), (5, true), (6, true), (7, true)] (by kernel_rfl) (by kernel_rfl) (fun _ _ d _ _ h => by cases d <;> exact h) ((Below.refl _ wr).drew) ?_
     iterate 8 (refine seg_take (v := ?_) rfl (Or.inl ⟨by rfl, ?_⟩) ?_; rotate_left; (focus (intro w' hw'; have j2 := (hw'.cell (p := ⟨w.heap.size, k, none⟩) zr).trans c2; have j6 := (hw'.cell (p := ⟨g6, k, none⟩) qz).trans c6; go_simp <;> with_reducible rfl)); try simp only [Act.put, pst3])
     refine seg_done ?_
     refine last_run rfl (fun K hK => ?_)
     go_simp
     go_simp
     refine hK.out _ _ ?_
     clear hK
     try simp only [Act.put, pst3]
     go_wp2_with fail
     go_roundw
     case rel =>
      refine ⟨k + 1, by omega, by go_num, ⟨?_, ?_, ?_, ?_, by simp [World.setCell]; omega⟩, (BR.setCell (p := ⟨w.heap.size, k, none⟩) (Nat.le_refl _) _).drew⟩
      ·show (wr.setCell ⟨w.heap.size, k, none⟩ _).heap[w.heap.size]? = _
       rw [setc_rowT Q2.out, wsV_set, S2.out]
      ·show (wr.setCell ⟨w.heap.size, k, none⟩ _).heap[w.heap.size + 1]? = _
       rw [Below.heap_setCell _ _ _ _ (by show w.heap.size + 1 ≠ w.heap.size; omega)]; exact Q4.out
      ·show (wr.setCell ⟨w.heap.size, k, none⟩ _).heap[g5]? = _
       rw [Below.heap_setCell _ _ _ _ (by show g5 ≠ w.heap.size; omega)]; exact Q5.out
      ·show (wr.setCell ⟨w.heap.size, k, none⟩ _).heap[g6]? = _
       rw [Below.heap_setCell _ _ _ _ (by show g6 ≠ w.heap.size; omega)]; exact Q6.out
     case measure => simp [intOf]; omega
    ·obtain rfl : k = 8 := by omega
     rw [adP_all] at q2
     have Q2 := Lib.hid q2
     have Q4 := Lib.hid q4
     clear q2 q4 q5 q6
     go_wp2_with (first
      | (refine w8_load rfl _ rfl w.heap.size rfl (x.add y).l 137 Q2.out rfl ?_)
      | (refine w8_store rfl _ _ rfl (w.heap.size + 1) rfl (x.add y).l z8 rfl 137 Q4.out rfl rfl ?_))
     refine bodyPost_ret (results_cell_row Tryz.results105 _ _ (w.heap.size + 1) 137 (wsV (x.add y).l) (0, 0) _ rfl (setRow_heap _ _ _ (wsV (x.add y).l) _ _ Q4.out) Tryz.underlying137 rfl (info8 (x.add y).l rfl)) rfl ?_
     exact ⟨rfl, below_setRow BR (by omega) _⟩
theorem shaTurn_any (x : H8) (A : Option Addr) (n c : Nat) (xs : List UInt8) (w : World) (hx : x.ok) (hr : RdB w A n c xs) :
  Calls Tryz.prog 105 #[.agg (wsV x.l), .slice A n c] w (RetW w (shTurn x xs).l) := by
 by_cases h : n = 64
 ·subst h; exact shaTurn_long x A c xs w hx hr
 ·exact shaTurn_short x A n c xs w hr h
end Go.Proofs.YtpahicfnhhhifaaGreat
