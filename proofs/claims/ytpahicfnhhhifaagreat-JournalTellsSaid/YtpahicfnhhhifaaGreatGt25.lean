/-
 Proved here, for the statement JournalTells:
 Layer 3: a block taken in (the document).
 Layer 3: digests (the document): Of, Link.
-/
import Derived.Test.YtpahicfnhhhifaaGreatGt24
set_option linter.unusedVariables false
set_option linter.unusedSimpArgs false
namespace Go.Proofs.YtpahicfnhhhifaaGreat
set_option maxRecDepth 20000
open Go.RowKit
set_option maxHeartbeats 8000000
theorem refTurn_short (x : H8) (A : Option Addr) (n c : Nat) (xs : List UInt8) (w : World) (hr : RdB w A n c xs) (h : n ≠ 64) :
  Calls Tryz.prog 86 #[.agg (wsV x.l), .slice A n c] w (RetW w (shTurn x xs).l) := by
 have hn := hr.n63
 have e : shTurn x xs = x := by unfold shTurn; rw [if_neg (by rw [hr.2.1]; exact h)]
 rw [e]
 have d1 : ((n : Int) != 64) = true := by rw [bne_iff_ne]; omega
 have H0 := Lib.hid (show ((w.alloc (.cells (wsV x.l) 137)).alloc (.cells #[.int .u32 0, .int .u32 0, .int .u32 0, .int .u32 0, .int .u32 0, .int .u32 0, .int .u32 0, .int .u32 0] 137)).heap[w.heap.size]? = some (.cells (wsV x.l) 137 (0, 0)) by exact row2a ..)
 have H1 := Lib.hid (show ((w.alloc (.cells (wsV x.l) 137)).alloc (.cells #[.int .u32 0, .int .u32 0, .int .u32 0, .int .u32 0, .int .u32 0, .int .u32 0, .int .u32 0, .int .u32 0] 137)).heap[w.heap.size + 1]? = some (.cells (wsV z8) 137 (0, 0)) by rw [z8_V]; exact row2b ..)
 clear h e
 go_enter Tryz.func86, Tryz.ntmps86
 go_wp2_with (first
  | (refine w8_load rfl _ rfl w.heap.size rfl x.l 137 H0.out rfl ?_)
  | (refine w8_store rfl _ _ rfl (w.heap.size + 1) rfl x.l z8 rfl 137 H1.out rfl rfl ?_))
 refine bodyPost_ret (results_cell_row Tryz.results86 _ _ (w.heap.size + 1) 137 (wsV x.l) (0, 0) _ rfl (setRow_heap _ _ _ (wsV x.l) _ _ H1.out) Tryz.underlying137 rfl (info8 x.l rfl)) rfl ?_
 exact ⟨rfl, below_setRow (((below_self w).alloc (Nat.le_refl _) _).alloc (by simp) _) (by omega) _⟩
def tuF (x : H8) (A : Option Addr) (c g : Nat) (v5 v6 v7 v19 v20 : Value) : Act := { tmps := #[.agg (wsV x.l), .slice A 64 c, .pointer (some ⟨g, 0, none⟩), undef, .pointer (some ⟨g + 1, 0, none⟩), v5, v6, v7, undef, undef, undef, undef, undef, undef, .slice A 64 c, .int .i64 64, .bool false, undef, .slice A 64 c, v19, v20, .agg (wsV x.l), undef, undef, undef, undef, undef, undef, undef, undef, undef, undef, undef, undef, undef, undef, undef, undef, undef, undef, undef, undef, undef, undef, undef, undef, undef, undef, undef, undef, undef, undef, undef, undef, undef, undef, undef, undef, undef, undef, undef, undef, undef, undef, undef, undef, undef, undef, undef, undef, undef, undef, undef, undef, undef, undef, undef, undef, undef, undef, undef, undef, undef, undef, undef, undef, undef, undef, undef, undef, undef, undef, undef, undef, undef, undef, undef, undef, undef, undef, undef, undef, undef, undef, undef, undef, undef, undef, undef, undef, undef, undef, undef, undef, undef, undef, undef, undef, undef, undef, undef, undef, undef, undef, undef, undef], defers := [] }
inductive C3 | k0 | k1 | k2
def C3.p1 : C3 → Bool | .k0 => false | _ => true
def C3.p2 : C3 → Bool | .k2 => true | _ => false
def TuJ3 : Type := C3 × Bool × Bool × Bool
def tuLst : TuJ3 → Array Bool | (c, b5, b6, b7) => #[true, c.p1, c.p2, true, b5, b6, b7, false, false, false]
def tuC : C3 → Nat | .k0 => 2 | .k1 => 1 | .k2 => 0
def tuB : Bool → Nat | true => 0 | false => 1
def tuMu : TuJ3 → Nat | (c, b5, b6, b7) => tuC c + (tuB b5 + (tuB b6 + tuB b7))
def tuN : C3 → Bool → Bool → Bool → List (Nat × TuJ3)
 | .k0, b5, b6, b7 => [(1, (.k1, b5, b6, b7))]
 | .k1, b5, b6, b7 => [(2, (.k2, b5, b6, b7))]
 | .k2, _, _, _ => []
def tuO (b : Bool) (k : Nat) (y : TuJ3) : List (Nat × TuJ3) := match b with | true => [] | false => [(k, y)]
def tuCand : TuJ3 → List (Nat × TuJ3) | (c, b5, b6, b7) => tuN c b5 b6 b7 ++ (tuO b5 4 (c, true, b6, b7) ++ (tuO b6 5 (c, b5, true, b7) ++ tuO b7 6 (c, b5, b6, true)))
def vIf (b : Bool) (v : Value) : Value := match b with | true => v | false => undef
def ptrV (g : Nat) : Value := .pointer (some ⟨g, 0, none⟩)
def TuD (W : World) (b5 b6 b7 : Bool) (g5 g6 g7 : Nat) (wr : World) : Prop :=
 (b5 = true → wr.heap[g5]? = some (.cells (wsV z64) 166 (0, 0)) ∧ W.heap.size ≤ g5 ∧ g5 < wr.heap.size) ∧ (b6 = true → wr.heap[g6]? = some (.cells (wsV z64) 166 (0, 0)) ∧ W.heap.size ≤ g6 ∧ g6 < wr.heap.size) ∧
 (b7 = true → wr.heap[g7]? = some (.cells (wsV z8) 137 (0, 0)) ∧ W.heap.size ≤ g7 ∧ g7 < wr.heap.size) ∧ (b5 = true → b6 = true → g5 ≠ g6) ∧ (b5 = true → b7 = true → g5 ≠ g7) ∧ (b6 = true → b7 = true → g6 ≠ g7)
theorem TuD.below {W : World} {b5 b6 b7 : Bool} {g5 g6 g7 : Nat} {w1 w2 : World} (h : TuD W b5 b6 b7 g5 g6 g7 w1) (hb : Below w1.heap.size w1 w2) : TuD W b5 b6 b7 g5 g6 g7 w2 := by
 obtain ⟨h5, h6, h7, d⟩ := h
 have := hb.size
 refine ⟨fun e => ?_, fun e => ?_, fun e => ?_, d⟩
 ·obtain ⟨r, l, u⟩ := h5 e; exact ⟨(hb.block _ u).trans r, l, by omega⟩
 ·obtain ⟨r, l, u⟩ := h6 e; exact ⟨(hb.block _ u).trans r, l, by omega⟩
 ·obtain ⟨r, l, u⟩ := h7 e; exact ⟨(hb.block _ u).trans r, l, by omega⟩
theorem TuD.new5 {W : World} {b6 b7 : Bool} {g5 g6 g7 g : Nat} {w1 w2 : World} (h : TuD W false b6 b7 g5 g6 g7 w1) (hb : Below w1.heap.size w1 w2) (hs : Below W.heap.size W w1) (hg : w1.heap.size = g) (hr : w2.heap[g]? = some (.cells (wsV z64) 166 (0, 0))) (hz : w2.heap.size = g + 1) : TuD W true b6 b7 g g6 g7 w2 := by
 obtain ⟨-, h6, h7, -, -, d67⟩ := TuD.below h hb
 obtain ⟨-, k6, k7, -⟩ := h
 have := hs.size
 refine ⟨fun _ => ⟨hr, by omega, by omega⟩, h6, h7, fun _ e => ?_, fun _ e => ?_, d67⟩
 ·have := (k6 e).2.2; omega
 ·have := (k7 e).2.2; omega
theorem TuD.new6 {W : World} {b5 b7 : Bool} {g5 g6 g7 g : Nat} {w1 w2 : World} (h : TuD W b5 false b7 g5 g6 g7 w1) (hb : Below w1.heap.size w1 w2) (hs : Below W.heap.size W w1) (hg : w1.heap.size = g) (hr : w2.heap[g]? = some (.cells (wsV z64) 166 (0, 0))) (hz : w2.heap.size = g + 1) : TuD W b5 true b7 g5 g g7 w2 := by
 obtain ⟨h5, -, h7, -, d57, -⟩ := TuD.below h hb
 obtain ⟨k5, -, k7, -⟩ := h
 have := hs.size
 refine ⟨h5, fun _ => ⟨hr, by omega, by omega⟩, h7, fun e _ => ?_, d57, fun _ e => ?_⟩
 ·have := (k5 e).2.2; omega
 ·have := (k7 e).2.2; omega
theorem TuD.new7 {W : World} {b5 b6 : Bool} {g5 g6 g7 g : Nat} {w1 w2 : World} (h : TuD W b5 b6 false g5 g6 g7 w1) (hb : Below w1.heap.size w1 w2) (hs : Below W.heap.size W w1) (hg : w1.heap.size = g) (hr : w2.heap[g]? = some (.cells (wsV z8) 137 (0, 0))) (hz : w2.heap.size = g + 1) : TuD W b5 b6 true g5 g6 g w2 := by
 obtain ⟨h5, h6, -, d56, -, -⟩ := TuD.below h hb
 obtain ⟨k5, k6, -⟩ := h
 have := hs.size
 refine ⟨h5, h6, fun _ => ⟨hr, by omega, by omega⟩, d56, fun e _ => ?_, fun e _ => ?_⟩
 ·have := (k5 e).2.2; omega
 ·have := (k6 e).2.2; omega
def TuS (x : H8) (A : Option Addr) (c : Nat) (ws : List Nat) (g : Nat) (W : World) : TuJ3 → Act → World → Prop
 | (k, b5, b6, b7), a, w' => ∃ g5 g6 g7, a = tuF x A c g (vIf b5 (ptrV g5)) (vIf b6 (ptrV g6)) (vIf b7 (ptrV g7)) (vIf k.p1 (.agg (wsV ws))) (vIf k.p2 (.agg (wsV shK))) ∧ TuD W b5 b6 b7 g5 g6 g7 w'
def TuQ (x : H8) (A : Option Addr) (c : Nat) (ws : List Nat) (g : Nat) (W : World) (e : Exit) (a : Act) (w' : World) : Prop :=
 e = .normal ∧ ∃ g5 g6 g7, a = tuF x A c g (ptrV g5) (ptrV g6) (ptrV g7) (.agg (wsV ws)) (.agg (wsV shK)) ∧ w'.heap[g5]? = some (.cells (wsV ws) 166 (0, 0)) ∧ w'.heap[g6]? = some (.cells (wsV shK) 166 (0, 0)) ∧ w'.heap[g7]? = some (.cells (wsV x.l) 137 (0, 0)) ∧
 W.heap.size ≤ g5 ∧ W.heap.size ≤ g6 ∧ W.heap.size ≤ g7 ∧ g5 ≠ g7 ∧ g6 ≠ g7 ∧ g7 < w'.heap.size ∧ Below W.heap.size W w'
theorem load8 {w : World} {g : Nat} {ys : List Nat} (h : w.heap[g]? = some (.cells (wsV ys) 137 (0, 0))) (hl : ys.length = 8) : (loadVar 137 ⟨g, 0, none⟩).run Tryz.prog w = .ok (.agg (wsV ys)) w :=
 run_loadVar_row w g _ _ _ _ _ h Tryz.underlying137 rfl (info8 ys hl)
theorem H8.add_comm (x y : H8) : x.add y = y.add x := by simp [H8.add, Nat.add_comm]
def RuR (w : World) (g5 g6 g7 : Nat) (ws : List Nat) (hs ys : List Nat) (wr : World) : Prop :=
 wr.heap[w.heap.size]? = some (.cells (wsV hs) 137 (0, 0)) ∧ wr.heap[w.heap.size + 1]? = some (.cells (wsV z8) 137 (0, 0)) ∧ wr.heap[g5]? = some (.cells (wsV ws) 166 (0, 0)) ∧ wr.heap[g6]? = some (.cells (wsV shK) 166 (0, 0)) ∧ wr.heap[g7]? = some (.cells (wsV ys) 137 (0, 0)) ∧ g7 < wr.heap.size
def RuI (w : World) (x : H8) (g5 g6 g7 : Nat) (ws : List Nat) (v8 : Value) (wr : World) : Prop :=
 ∃ k : Nat, k ≤ 64 ∧ v8 = .int .i64 k ∧ RuR w g5 g6 g7 ws x.l (shRounds ws x k).l wr ∧ Below w.heap.size w wr
def RuK (w : World) (x y : H8) (g5 g6 g7 : Nat) (ws : List Nat) (v13 : Value) (wr : World) : Prop :=
 ∃ k : Nat, k ≤ 8 ∧ v13 = .int .i64 k ∧ RuR w g5 g6 g7 ws x.l (adP y x k) wr ∧ Below w.heap.size w wr
set_option maxRecDepth 100000 in
theorem refTurn_long (x : H8) (A : Option Addr) (c : Nat) (xs : List UInt8) (w : World) (hx : x.ok) (hr : RdB w A 64 c xs) :
  Calls Tryz.prog 86 #[.agg (wsV x.l), .slice A 64 c] w (RetW w (shTurn x xs).l) := by
 have hl := hr.2.1
 have e : shTurn x xs = x.add (shRounds (shWs xs 64) x 64) := by unfold shTurn; rw [if_pos hl]
 have e2 : shWords xs = shWs xs 64 := by unfold shWords; rw [if_pos hl]
 rw [e]
 have d1 : ((64 : Int) != 64) = false := by decide
 obtain ⟨ws, hws⟩ : ∃ ws, shWs xs 64 = ws := ⟨shWs xs 64, rfl⟩
 have hwl : ws.length = 64 := by rw [← hws]; exact shWs_len xs 64
 have hwt : ∀ n ∈ ws, n < 4294967296 := by rw [← hws]; exact shWs_lt xs 64
 rw [hws] at e2 ⊢
 have E2 := Lib.hid e2
 have HX := Lib.hid hx
 have HWL := Lib.hid hwl
 have HWT := Lib.hid hwt
 clear hws hwl hwt
 clear e e2 hl hx
 go_enter Tryz.func86, Tryz.ntmps86
 go_wp2_with fail
 obtain ⟨W, hW⟩ : ∃ W, W = (w.alloc (.cells (wsV x.l) 137)).alloc (.cells #[.int .u32 0, .int .u32 0, .int .u32 0, .int .u32 0, .int .u32 0, .int .u32 0, .int .u32 0, .int .u32 0] 137) := ⟨_, rfl⟩
 have bW : Below w.heap.size w W := by rw [hW]; exact ((below_self w).alloc (Nat.le_refl _) _).alloc (by simp) _
 have h0 : W.heap[w.heap.size]? = some (.cells (wsV x.l) 137 (0, 0)) := by rw [hW]; exact row2a ..
 have h1 : W.heap[w.heap.size + 1]? = some (.cells (wsV z8) 137 (0, 0)) := by rw [hW, z8_V]; exact row2b ..
 have zW : w.heap.size + 1 < W.heap.size := by rw [hW]; simp
 rw [← hW]
 have H0 := Lib.hid h0
 have H1 := Lib.hid h1
 clear hW h0 h1
 have hrW := hr.below bW
 have HCW := Lib.hid (fun W' (hb : Below W.heap.size W W') => E2.out ▸ refWords_any A 64 c xs W' (hrW.below hb))
 refine wp_mono (?_ : Code.wp _ _ (TuQ x A c ws w.heap.size W) _ _) ?_
 ·refine wp_region_seg (S := fun w' => Below W.heap.size W w') 8 (brw9 10 9) [(0, true), (3, true)] (by kernel_rfl) (by kernel_rfl) (fun _ _ _ _ _ h => by cases h.1) ((Below.refl W.heap.size W).drew) ?_
  refine seg_take (v := .slice A 64 c) rfl (Or.inl ⟨by rfl, fun w' hw' => by go_simp⟩) ?_
  try simp only [Act.put, pst3]
  refine seg_take (v := .agg (wsV x.l)) rfl (Or.inl ⟨by rfl, fun w' hw' => ex_loadP rfl rfl (load8 ((hw'.block _ (by omega)).trans H0.out) rfl)⟩) ?_
  try simp only [Act.put, pst3]
  refine seg_done (fun hS0 => ?_)
  refine wpAnyH_dp tuLst tuCand tuMu 3 (TuS x A c ws w.heap.size W) ?hB ?hstep ?hfin ?h0 5 (.k0, false, false, false) _ _ rfl ⟨0, 0, 0, rfl, fun e => (by cases e), fun e => (by cases e), fun e => (by cases e), fun e => (by cases e), fun e => (by cases e), fun e => (by cases e)⟩ hS0
  case hB =>
   rintro ⟨k, b5, b6, b7⟩
   cases k <;> cases b5 <;> cases b6 <;> cases b7 <;> first | exact Or.inl rfl | exact Or.inr (by kernel_rfl)
  case h0 =>
   rintro ⟨k, b5, b6, b7⟩ h
   cases k <;> cases b5 <;> cases b6 <;> cases b7 <;> first | rfl | cases h
  case hfin =>
   rintro ⟨k, b5, b6, b7⟩ a w' hc ⟨g5, g6, g7, rfl, hD⟩ hS
   obtain ⟨rfl, rfl, rfl, rfl⟩ : k = .k2 ∧ b5 = true ∧ b6 = true ∧ b7 = true := by
    cases k <;> cases b5 <;> cases b6 <;> cases b7 <;> first | exact ⟨rfl, rfl, rfl, rfl⟩ | cases hc
   obtain ⟨h5, h6, h7, d56, d57, d67⟩ := hD
   obtain ⟨r5, l5, u5⟩ := h5 rfl
   obtain ⟨r6, l6, u6⟩ := h6 rfl
   obtain ⟨r7, l7, u7⟩ := h7 rfl
   have d56 := d56 rfl rfl
   have d57 := d57 rfl rfl
   have d67 := d67 rfl rfl
   have b5w : Below W.heap.size W (w'.setRow g5 (wsV ws)) := below_setRow hS l5 _
   have r6w : (w'.setRow g5 (wsV ws)).heap[g6]? = some (.cells (wsV z64) 166 (0, 0)) := (setRow_other _ _ _ _ (Ne.symm d56)).trans r6
   have r7w : (w'.setRow g5 (wsV ws)).heap[g7]? = some (.cells (wsV z8) 137 (0, 0)) := (setRow_other _ _ _ _ (Ne.symm d57)).trans r7
   have r5w : (w'.setRow g5 (wsV ws)).heap[g5]? = some (.cells (wsV ws) 166 (0, 0)) := setRow_heap _ _ _ (wsV ws) _ _ r5
   generalize hV1 : w'.setRow g5 (wsV ws) = V1 at *
   have zV1 : V1.heap.size = w'.heap.size := by rw [← hV1]; simp
   have b6w : Below W.heap.size W (V1.setRow g6 (wsV shK)) := below_setRow b5w l6 _
   have r7x : (V1.setRow g6 (wsV shK)).heap[g7]? = some (.cells (wsV z8) 137 (0, 0)) := (setRow_other _ _ _ _ (Ne.symm d67)).trans r7w
   have r5x : (V1.setRow g6 (wsV shK)).heap[g5]? = some (.cells (wsV ws) 166 (0, 0)) := (setRow_other _ _ _ _ d56).trans r5w
   have r6x : (V1.setRow g6 (wsV shK)).heap[g6]? = some (.cells (wsV shK) 166 (0, 0)) := setRow_heap _ _ _ (wsV shK) _ _ r6w
   generalize hV2 : V1.setRow g6 (wsV shK) = V2 at *
   have zV2 : V2.heap.size = V1.heap.size := by rw [← hV2]; simp
   have b7w : Below W.heap.size W (V2.setRow g7 (wsV x.l)) := below_setRow b6w l7 _
   refine wpAnyH_seg (by kernel_rfl) (fun _ _ _ _ _ h => by cases h.1) 0 (brw9 10 1023) [(7, false), (8, false), (9, false)] _ _ _ (by kernel_rfl) hS ?_
   refine seg_run rfl (fun K hK => ?_)
   rw [if_pos (by rfl)]
   refine wp_store_row 166 _ _ rfl g5 (wsV ws) rfl rfl 166 (wsV z64) r5 (info64 ws HWL.out) (by rw [wsV_size, wsV_size, HWL.out]; rfl) (wsV_one ws) ?_
   rw [hV1]
   refine hK.out _ _ b5w ?_
   refine seg_run rfl (fun K hK => ?_)
   rw [if_pos (by rfl)]
   refine wp_store_row 166 _ _ rfl g6 (wsV shK) rfl rfl 166 (wsV z64) r6w (info64 shK rfl) (by rw [wsV_size, wsV_size]; rfl) (wsV_one shK) ?_
   rw [hV2]
   refine hK.out _ _ b6w ?_
   refine seg_run rfl (fun K hK => ?_)
   rw [if_pos (by rfl)]
   refine wp_store_row 137 _ _ rfl g7 (wsV x.l) rfl rfl 137 (wsV z8) r7x (info8 x.l rfl) (by rw [wsV_size, wsV_size]; rfl) (wsV_one x.l) ?_
   refine hK.out _ _ b7w ?_
   refine seg_done (fun _ => ?_)
   refine wpAnyH_done (by kernel_rfl) ?_ _
   exact ⟨rfl, g5, g6, g7, rfl, (setRow_other _ _ _ _ d57).trans r5x, (setRow_other _ _ _ _ d67).trans r6x, setRow_heap _ _ _ (wsV x.l) _ _ r7x, l5, l6, l7, d57, d67, by simp; omega, b7w⟩
  case hstep =>
   rintro ⟨k, b5, b6, b7⟩ a w' ⟨g5, g6, g7, rfl, hD⟩ hS p hp
   simp only [tuCand, List.mem_append] at hp
   rcases hp with hp | hp | hp | hp
   ·cases k with
    | k0 =>
     obtain rfl := List.mem_singleton.1 hp
     refine op_run rfl (fun K hK => ?_)
     rw [if_pos (by rfl)]
     go_simp
     refine (HCW.out w' hS).mono ?_
     rintro e w2 ⟨rfl, hb2⟩
     refine hK.out _ _ (below_then hS hb2) ⟨g5, g6, g7, rfl, hD.below hb2⟩
    | k1 =>
     obtain rfl := List.mem_singleton.1 hp
     refine op_run rfl (fun K hK => ?_)
     rw [if_pos (by rfl)]
     go_simp
     refine (refK_any w').mono ?_
     rintro e w2 ⟨rfl, hb2⟩
     refine hK.out _ _ (below_then hS hb2) ⟨g5, g6, g7, rfl, hD.below hb2⟩
    | k2 => cases hp
   ·cases b5 with
    | true => cases hp
    | false =>
     obtain rfl := List.mem_singleton.1 hp
     refine op_run rfl (fun K hK => ?_)
     rw [if_pos (by rfl)]
     refine op_new #[.int .u32 0, .int .u32 0, .int .u32 0, .int .u32 0, .int .u32 0, .int .u32 0, .int .u32 0, .int .u32 0, .int .u32 0, .int .u32 0, .int .u32 0, .int .u32 0, .int .u32 0, .int .u32 0, .int .u32 0, .int .u32 0, .int .u32 0, .int .u32 0, .int .u32 0, .int .u32 0, .int .u32 0, .int .u32 0, .int .u32 0, .int .u32 0, .int .u32 0, .int .u32 0, .int .u32 0, .int .u32 0, .int .u32 0, .int .u32 0, .int .u32 0, .int .u32 0, .int .u32 0, .int .u32 0, .int .u32 0, .int .u32 0, .int .u32 0, .int .u32 0, .int .u32 0, .int .u32 0, .int .u32 0, .int .u32 0, .int .u32 0, .int .u32 0, .int .u32 0, .int .u32 0, .int .u32 0, .int .u32 0, .int .u32 0, .int .u32 0, .int .u32 0, .int .u32 0, .int .u32 0, .int .u32 0, .int .u32 0, .int .u32 0, .int .u32 0, .int .u32 0, .int .u32 0, .int .u32 0, .int .u32 0, .int .u32 0, .int .u32 0, .int .u32 0] 166 (fun w => by go_simp) ?_
     intro g w2 eg hr2 hb2 hz2
     refine hK.out _ _ (below_then hS hb2) ⟨g, g6, g7, rfl, hD.new5 hb2 hS eg (by rw [z64_V]; exact hr2) hz2⟩
   ·cases b6 with
    | true => cases hp
    | false =>
     obtain rfl := List.mem_singleton.1 hp
     refine op_run rfl (fun K hK => ?_)
     rw [if_pos (by rfl)]
     refine op_new #[.int .u32 0, .int .u32 0, .int .u32 0, .int .u32 0, .int .u32 0, .int .u32 0, .int .u32 0, .int .u32 0, .int .u32 0, .int .u32 0, .int .u32 0, .int .u32 0, .int .u32 0, .int .u32 0, .int .u32 0, .int .u32 0, .int .u32 0, .int .u32 0, .int .u32 0, .int .u32 0, .int .u32 0, .int .u32 0, .int .u32 0, .int .u32 0, .int .u32 0, .int .u32 0, .int .u32 0, .int .u32 0, .int .u32 0, .int .u32 0, .int .u32 0, .int .u32 0, .int .u32 0, .int .u32 0, .int .u32 0, .int .u32 0, .int .u32 0, .int .u32 0, .int .u32 0, .int .u32 0, .int .u32 0, .int .u32 0, .int .u32 0, .int .u32 0, .int .u32 0, .int .u32 0, .int .u32 0, .int .u32 0, .int .u32 0, .int .u32 0, .int .u32 0, .int .u32 0, .int .u32 0, .int .u32 0, .int .u32 0, .int .u32 0, .int .u32 0, .int .u32 0, .int .u32 0, .int .u32 0, .int .u32 0, .int .u32 0, .int .u32 0, .int .u32 0] 166 (fun w => by go_simp) ?_
     intro g w2 eg hr2 hb2 hz2
     refine hK.out _ _ (below_then hS hb2) ⟨g5, g, g7, rfl, hD.new6 hb2 hS eg (by rw [z64_V]; exact hr2) hz2⟩
   ·cases b7 with
    | true => cases hp
    | false =>
     obtain rfl := List.mem_singleton.1 hp
     refine op_run rfl (fun K hK => ?_)
     rw [if_pos (by rfl)]
     refine op_new #[.int .u32 0, .int .u32 0, .int .u32 0, .int .u32 0, .int .u32 0, .int .u32 0, .int .u32 0, .int .u32 0] 137 (fun w => by go_simp) ?_
     intro g w2 eg hr2 hb2 hz2
     refine hK.out _ _ (below_then hS hb2) ⟨g5, g6, g, rfl, hD.new7 hb2 hS eg (by rw [z8_V]; exact hr2) hz2⟩
 rintro _ _ w1 ⟨rfl, g5, g6, g7, rfl, q5, q6, q7, l5, l6, l7, d57, d67, u7, bw1⟩
 dsimp only [tuF, ptrV]
 have BW1 : Below w.heap.size w w1 := below_then bW bw1
 have q0 := (bw1.block w.heap.size (by omega)).trans H0.out
 have q1 := (bw1.block (w.heap.size + 1) (by omega)).trans H1.out
 have hg5 : w.heap.size + 1 < g5 := by omega
 have hg6 : w.heap.size + 1 < g6 := by omega
 have hg7 : w.heap.size + 1 < g7 := by omega
 clear l5 l6 l7 HCW hrW H0 H1 bw1 E2
 go_wp2_with fail
 go_loopw [8, 9, 10, 11, 12] (fun v _ _ _ _ wr => RuI w x g5 g6 g7 ws v wr) (fun i _ _ _ _ _ => 64 - (intOf i).toNat)
 case atStart => exact ⟨0, by omega, rfl, ⟨q0, q1, q5, q6, q7, u7⟩, BW1⟩
 case round =>
  clear q0 q1 q5 q6 q7 u7 BW1
  obtain ⟨k, hk, rfl, ⟨q0, q1, q5, q6, q7, u7⟩, BR⟩ := hrel
  by_cases hlt : k < 64
  ·have hnx : shRounds ws x (k + 1) = shStep (shK.getD k 0) (ws.getD k 0) (shRounds ws x k) := rfl
   have hy := shRounds_ok ws HX.out k
   have cW := (cell_of_row wr _ k _ _ _ q5).trans (wsV_get ws k (by rw [HWL.out]; exact hlt))
   have cK := (cell_of_row wr _ k _ _ _ q6).trans (wsV_get shK k (show k < shK.length from hlt))
   have hkk : shK.getD k 0 < 4294967296 := shK_lt k
   have hwk : ws.getD k 0 < 4294967296 := by
    have hl := HWL.out
    rw [List.getD, List.getElem?_eq_getElem (by omega)]
    exact HWT.out _ (List.getElem_mem (by omega))
   generalize shRounds ws x k = y at *
   generalize ws.getD k 0 = wk at *
   generalize shK.getD k 0 = kk at *
   obtain ⟨a, b, c9, d, e, f, g, h⟩ := y
   obtain ⟨ha, hb, hc9, hd, he, hf, hg, hh⟩ := hy
   simp only at ha hb hc9 hd he hf hg hh
   have ca := (cell_of_row wr _ 0 _ _ _ q7).trans (show (wsV (H8.l ⟨a, b, c9, d, e, f, g, h⟩))[0]? = some (.int .u32 (a : Int)) from rfl)
   have cb := (cell_of_row wr _ 1 _ _ _ q7).trans (show (wsV (H8.l ⟨a, b, c9, d, e, f, g, h⟩))[1]? = some (.int .u32 (b : Int)) from rfl)
   have cc := (cell_of_row wr _ 2 _ _ _ q7).trans (show (wsV (H8.l ⟨a, b, c9, d, e, f, g, h⟩))[2]? = some (.int .u32 (c9 : Int)) from rfl)
   have cd := (cell_of_row wr _ 3 _ _ _ q7).trans (show (wsV (H8.l ⟨a, b, c9, d, e, f, g, h⟩))[3]? = some (.int .u32 (d : Int)) from rfl)
   have ce := (cell_of_row wr _ 4 _ _ _ q7).trans (show (wsV (H8.l ⟨a, b, c9, d, e, f, g, h⟩))[4]? = some (.int .u32 (e : Int)) from rfl)
   have cf := (cell_of_row wr _ 5 _ _ _ q7).trans (show (wsV (H8.l ⟨a, b, c9, d, e, f, g, h⟩))[5]? = some (.int .u32 (f : Int)) from rfl)
   have cg := (cell_of_row wr _ 6 _ _ _ q7).trans (show (wsV (H8.l ⟨a, b, c9, d, e, f, g, h⟩))[6]? = some (.int .u32 (g : Int)) from rfl)
   have ch := (cell_of_row wr _ 7 _ _ _ q7).trans (show (wsV (H8.l ⟨a, b, c9, d, e, f, g, h⟩))[7]? = some (.int .u32 (h : Int)) from rfl)
   have hst : shStep kk wk ⟨a, b, c9, d, e, f, g, h⟩ = ⟨((h + shMix e [6, 11, 25] + shCh e f g + kk + wk) % 4294967296 + (shMix a [2, 13, 22] + shMaj a b c9) % 4294967296) % 4294967296, a, b, c9, (d + (h + shMix e [6, 11, 25] + shCh e f g + kk + wk) % 4294967296) % 4294967296, e, f, g⟩ := rfl
   rw [shMix3, shMix3, ← ch_ref he hg, ← maj_ref] at hst
   have t1 := ror_lt 6 he
   have t2 := ror_lt 11 he
   have t3 := ror_lt 25 he
   have t4 := ror_lt 2 ha
   have t5 := ror_lt 13 ha
   have t6 := ror_lt 22 ha
   have K1 := Lib.hid (fun W => refRot_any e 6 W he (by omega) (by omega))
   have K2 := Lib.hid (fun W => refRot_any e 11 W he (by omega) (by omega))
   have K3 := Lib.hid (fun W => refRot_any e 25 W he (by omega) (by omega))
   have K4 := Lib.hid (fun W => refRot_any a 2 W ha (by omega) (by omega))
   have K5 := Lib.hid (fun W => refRot_any a 13 W ha (by omega) (by omega))
   have K6 := Lib.hid (fun W => refRot_any a 22 W ha (by omega) (by omega))
   generalize ror e 6 = e6 at *
   generalize ror e 11 = e11 at *
   generalize ror e 25 = e25 at *
   generalize ror a 2 = a2 at *
   generalize ror a 13 = a13 at *
   generalize ror a 22 = a22 at *
   have x1 := u32_xor_nat e6 e11 t1 t2
   have x1l := xor_lt32 t1 t2
   generalize e6 ^^^ e11 = e611 at *
   have x2 := u32_xor_nat e611 e25 x1l t3
   have x2l := xor_lt32 x1l t3
   generalize e611 ^^^ e25 = m1 at *
   have x3 := u32_xor_nat a2 a13 t4 t5
   have x3l := xor_lt32 t4 t5
   generalize a2 ^^^ a13 = a213 at *
   have x4 := u32_xor_nat a213 a22 x3l t6
   have x4l := xor_lt32 x3l t6
   generalize a213 ^^^ a22 = m2 at *
   obtain ⟨ne, hne⟩ : ∃ n, n = 4294967295 - e := ⟨_, rfl⟩
   have hnel : ne < 4294967296 := by omega
   have hneI : bits .xor .u32 IntKind.u32.max (e : Int) = (ne : Int) := by
    have := u32_xor_nat 4294967295 e (by omega) he
    rw [Nat.xor_comm, ← not_xor he, ← hne] at this
    exact this
   rw [← hne] at hst
   have y1 := u32_and_nat e f he hf
   have y1l := and_lt32 (b := f) he
   have y2 := u32_and_nat ne g hnel hg
   have y2l := and_lt32 (b := g) hnel
   generalize e &&& f = ef at *
   generalize ne &&& g = eg at *
   have y3 := u32_xor_nat ef eg y1l y2l
   have y3l := xor_lt32 y1l y2l
   generalize ef ^^^ eg = chv at *
   have z1 := u32_and_nat a b ha hb
   have z1l := and_lt32 (b := b) ha
   have z2 := u32_and_nat a c9 ha hc9
   have z2l := and_lt32 (b := c9) ha
   have z3 := u32_and_nat b c9 hb hc9
   have z3l := and_lt32 (b := c9) hb
   generalize a &&& b = ab at *
   generalize a &&& c9 = ac at *
   generalize b &&& c9 = bc at *
   have z4 := u32_xor_nat ab ac z1l z2l
   have z4l := xor_lt32 z1l z2l
   generalize ab ^^^ ac = abc at *
   have z5 := u32_xor_nat abc bc z4l z3l
   have z5l := xor_lt32 z4l z3l
   generalize abc ^^^ bc = mj at *
   obtain ⟨T, hT⟩ : ∃ T, (h + m1 + chv + kk + wk) % 4294967296 = T := ⟨_, rfl⟩
   obtain ⟨U, hU⟩ : ∃ T, (m2 + mj) % 4294967296 = T := ⟨_, rfl⟩
   rw [hT, hU] at hst
   obtain ⟨p1, hp1⟩ : ∃ p, p = (h + m1) % 4294967296 := ⟨_, rfl⟩
   obtain ⟨p2, hp2⟩ : ∃ p, p = (p1 + chv) % 4294967296 := ⟨_, rfl⟩
   obtain ⟨p3, hp3⟩ : ∃ p, p = (p2 + kk) % 4294967296 := ⟨_, rfl⟩
   obtain ⟨TU, hTU⟩ : ∃ p, (T + U) % 4294967296 = p := ⟨_, rfl⟩
   obtain ⟨dT, hdT⟩ : ∃ p, (d + T) % 4294967296 = p := ⟨_, rfl⟩
   rw [hTU, hdT] at hst
   have v1 : IntKind.u32.wrap ((h : Int) + (m1 : Int)) = (p1 : Int) := by rw [IntKind.wrap_u32]; omega
   have v2 : IntKind.u32.wrap ((p1 : Int) + (chv : Int)) = (p2 : Int) := by rw [IntKind.wrap_u32]; omega
   have v3 : IntKind.u32.wrap ((p2 : Int) + (kk : Int)) = (p3 : Int) := by rw [IntKind.wrap_u32]; omega
   have v4 : IntKind.u32.wrap ((p3 : Int) + (wk : Int)) = (T : Int) := by rw [IntKind.wrap_u32]; omega
   have v5 : IntKind.u32.wrap ((m2 : Int) + (mj : Int)) = (U : Int) := by rw [IntKind.wrap_u32]; omega
   have v6 : IntKind.u32.wrap ((T : Int) + (U : Int)) = (TU : Int) := by rw [IntKind.wrap_u32]; omega
   have v7 : IntKind.u32.wrap ((d : Int) + (T : Int)) = (dT : Int) := by rw [IntKind.wrap_u32]; omega
   rw [hst] at hnx
   have HN := Lib.hid hnx
   have Q0 := Lib.hid q0
   have Q1 := Lib.hid q1
   have Q5 := Lib.hid q5
   have Q6 := Lib.hid q6
   have Q7 := Lib.hid q7
   have hk64 : (k : Int) < 64 := by omega
   have xr5 : g5 < wr.heap.size := (Array.getElem?_eq_some_iff.1 q5).1
   have xr6 : g6 < wr.heap.size := (Array.getElem?_eq_some_iff.1 q6).1
   clear hst hnx q0 q1 q5 q6 q7 hp1 hp2 hp3 hT hU hTU hdT t1 t2 t3 t4 t5 t6 x1l x2l x3l x4l y1l y2l y3l z1l z2l z3l z4l z5l hne hnel hkk hwk ha hb hc9 hd he hf hg hh
   go_wp2_with fail
   have HB := (Below.refl wr.heap.size wr).drew
   refine wp_region_plan (S := fun w' => Below wr.heap.size wr w') [(0, true), (1, true), (3, true), (4, true), (7, true), (8, true), (2, false), (5, false), (6, true), (9, false), (10, true), (11, true)] (by kernel_rfl) (by kernel_rfl) (fun _ _ d _ _ h => by cases d <;> exact h) ((Below.refl _ wr).drew) ?_
   iterate 6 (refine plan_take (v := ?_) rfl (Or.inl ⟨by rfl, ?_⟩) ?_; rotate_left; (focus (intro w' hw'; have je := (hw'.cell (p := ⟨g7, 4, none⟩) u7).trans ce; go_simp <;> with_reducible rfl)); try simp only [Act.put, pst3])
   refine plan_run rfl (fun K hK => ?_)
   go_simp
   refine (K1.out _).mono ?_
   rintro e_ w2 ⟨rfl, rfl⟩
   refine hK.out _ _ (HB) ?_
   clear hK
   try simp only [Act.put, pst3]
   refine plan_run rfl (fun K hK => ?_)
   go_simp
   refine (K2.out _).mono ?_
   rintro e_ w2 ⟨rfl, rfl⟩
   refine hK.out _ _ (HB) ?_
   clear hK
   try simp only [Act.put, pst3]
   iterate 1 (refine plan_take (v := ?_) rfl (Or.inl ⟨by rfl, ?_⟩) ?_; rotate_left; (focus (intro w' hw'; have je := (hw'.cell (p := ⟨g7, 4, none⟩) u7).trans ce; go_simp <;> with_reducible rfl)); try simp only [Act.put, pst3])
   refine plan_run rfl (fun K hK => ?_)
   go_simp
   refine (K3.out _).mono ?_
   rintro e_ w2 ⟨rfl, rfl⟩
   refine hK.out _ _ (HB) ?_
   clear hK
   try simp only [Act.put, pst3]
   iterate 2 (refine plan_take (v := ?_) rfl (Or.inl ⟨by rfl, ?_⟩) ?_; rotate_left; (focus (intro w' hw'; have je := (hw'.cell (p := ⟨g7, 4, none⟩) u7).trans ce; go_simp <;> with_reducible rfl)); try simp only [Act.put, pst3])
   refine plan_done ?_
   go_wp2_with fail
   refine wp_region_plan (S := fun w' => Below wr.heap.size wr w') [(0, true), (1, true), (2, true), (3, true), (4, true), (5, true), (6, true), (7, true), (8, true), (9, true), (10, true), (11, true), (12, true), (13, true), (14, true), (15, true), (16, true), (17, true), (18, true), (19, true), (20, true), (21, true), (22, true), (23, true), (24, true), (25, true)] (by kernel_rfl) (by kernel_rfl) (fun _ _ d _ _ h => by cases d <;> exact h) (HB.drew) ?_
   iterate 26 (refine plan_take (v := ?_) rfl (Or.inl ⟨by rfl, ?_⟩) ?_; rotate_left; (focus (intro w' hw'; have je := (hw'.cell (p := ⟨g7, 4, none⟩) u7).trans ce; have jf := (hw'.cell (p := ⟨g7, 5, none⟩) u7).trans cf; have jg := (hw'.cell (p := ⟨g7, 6, none⟩) u7).trans cg; have jh := (hw'.cell (p := ⟨g7, 7, none⟩) u7).trans ch; have jK := (hw'.cell (p := ⟨g6, k, none⟩) xr6).trans cK; have jW := (hw'.cell (p := ⟨g5, k, none⟩) xr5).trans cW; go_simp <;> with_reducible rfl)); try simp only [Act.put, pst3])
   refine plan_done ?_
   go_wp2_with fail
   have HB := HB.drew
   refine wp_region_plan (S := fun w' => Below wr.heap.size wr w') [(0, true), (1, true), (3, true), (4, true), (7, true), (8, true), (2, false), (5, false), (6, true), (9, false), (10, true), (11, true)] (by kernel_rfl) (by kernel_rfl) (fun _ _ d _ _ h => by cases d <;> exact h) (HB.drew) ?_
   iterate 6 (refine plan_take (v := ?_) rfl (Or.inl ⟨by rfl, ?_⟩) ?_; rotate_left; (focus (intro w' hw'; have ja := (hw'.cell (p := ⟨g7, 0, none⟩) u7).trans ca; go_simp <;> with_reducible rfl)); try simp only [Act.put, pst3])
   refine plan_run rfl (fun K hK => ?_)
   go_simp
   refine (K4.out _).mono ?_
   rintro e_ w2 ⟨rfl, rfl⟩
   refine hK.out _ _ (HB.drew) ?_
   clear hK
   try simp only [Act.put, pst3]
   refine plan_run rfl (fun K hK => ?_)
   go_simp
   refine (K5.out _).mono ?_
   rintro e_ w2 ⟨rfl, rfl⟩
   refine hK.out _ _ (HB.drew) ?_
   clear hK
   try simp only [Act.put, pst3]
   iterate 1 (refine plan_take (v := ?_) rfl (Or.inl ⟨by rfl, ?_⟩) ?_; rotate_left; (focus (intro w' hw'; have ja := (hw'.cell (p := ⟨g7, 0, none⟩) u7).trans ca; go_simp <;> with_reducible rfl)); try simp only [Act.put, pst3])
   refine plan_run rfl (fun K hK => ?_)
   go_simp
   refine (K6.out _).mono ?_
   rintro e_ w2 ⟨rfl, rfl⟩
   refine hK.out _ _ (HB.drew) ?_
   clear hK
   try simp only [Act.put, pst3]
   iterate 2 (refine plan_take (v := ?_) rfl (Or.inl ⟨by rfl, ?_⟩) ?_; rotate_left; (focus (intro w' hw'; have ja := (hw'.cell (p := ⟨g7, 0, none⟩) u7).trans ca; go_simp <;> with_reducible rfl)); try simp only [Act.put, pst3])
   refine plan_done ?_
   obtain ⟨V, hV⟩ : ∃ V, V = wr.drew.drew.drew := ⟨_, rfl⟩
   have bV : Below wr.heap.size wr V := by rw [hV]; exact HB.drew
   rw [← hV]
   have zV : g7 < V.heap.size := Nat.lt_of_lt_of_le u7 bV.size
   have ja := (bV.cell (p := ⟨g7, 0, none⟩) u7).trans ca
   have jb := (bV.cell (p := ⟨g7, 1, none⟩) u7).trans cb
   have jc := (bV.cell (p := ⟨g7, 2, none⟩) u7).trans cc
   have jd := (bV.cell (p := ⟨g7, 3, none⟩) u7).trans cd
   have je := (bV.cell (p := ⟨g7, 4, none⟩) u7).trans ce
   have jf := (bV.cell (p := ⟨g7, 5, none⟩) u7).trans cf
   have jg := (bV.cell (p := ⟨g7, 6, none⟩) u7).trans cg
   have Q0V := Lib.hid ((bV.block _ (by omega)).trans Q0.out)
   have Q1V := Lib.hid ((bV.block _ (by omega)).trans Q1.out)
   have Q5V := Lib.hid ((bV.block _ xr5).trans Q5.out)
   have Q6V := Lib.hid ((bV.block _ xr6).trans Q6.out)
   have Q7V := Lib.hid ((bV.block _ u7).trans Q7.out)
   have BV := BR.trans (bV.mono BR.size)
   clear hV ca cb cc cd ce cf cg ch cK cW HB Q0 Q1 Q5 Q6 Q7
   go_wp2_with (refine w8_store rfl _ _ rfl g7 rfl [TU, a, b, c9, dT, e, f, g] _ rfl 137 Q7V.out rfl rfl ?_)
   go_roundw
   case rel =>
    refine ⟨k + 1, by omega, by go_num, ⟨(setRow_other _ _ _ _ (by omega)).trans Q0V.out, (setRow_other _ _ _ _ (by omega)).trans Q1V.out, (setRow_other _ _ _ _ d57).trans Q5V.out, (setRow_other _ _ _ _ d67).trans Q6V.out, ?_, by simp; exact zV⟩, below_setRow BV (by omega) _⟩
    rw [HN.out]
    exact setRow_heap _ _ _ (wsV [TU, a, b, c9, dT, e, f, g]) _ _ Q7V.out
   case measure => simp [intOf]; omega
  ·obtain rfl : k = 64 := by omega
   rw [show ((64 : Nat) : Int) = 64 from rfl]
   have hy := shRounds_ok ws HX.out 64
   generalize shRounds ws x 64 = y at *
   have hxo := HX.out
   have HYO := Lib.hid hy
   clear hy
   go_wp2_with fail
   go_loopw [13] (fun v wr => RuK w x y g5 g6 g7 ws v wr) (fun i _ => 8 - (intOf i).toNat)
   case atStart => exact ⟨0, by omega, rfl, ⟨q0, q1, q5, q6, by rw [adP_zero]; exact q7, u7⟩, BR⟩
   case round =>
    clear q0 q1 q5 q6 q7 u7 BR
    obtain ⟨k, hk, rfl, ⟨q0, q1, q5, q6, q7, u7⟩, BR⟩ := hrel
    by_cases hlt : k < 8
    ·obtain ⟨s1, s2⟩ := adP_step y x k hlt
     have c7 := (cell_of_row wr _ k _ _ _ q7).trans (wsV_get _ k (by rw [adP_len _ _ _ (by omega)]; exact hlt))
     have c0 := (cell_of_row wr _ k _ _ _ q0).trans (wsV_get _ k hlt)
     have lx := H8.l_lt hxo k
     have ly := H8.l_lt HYO.out k
     rw [s1] at c7
     generalize x.l.getD k 0 = xk at *
     generalize y.l.getD k 0 = yk at *
     have fz : wr.frozen? ⟨g7, k, none⟩ = false := frozen_of_row _ _ _ _ _ q7
     have S2 := Lib.hid s2
     have Q0 := Lib.hid q0
     have Q1 := Lib.hid q1
     have Q5 := Lib.hid q5
     have Q6 := Lib.hid q6
     have Q7 := Lib.hid q7
     have k8 : (k : Int) < 8 := by omega
     obtain ⟨V, hV⟩ : ∃ V, V = (yk + xk) % 4294967296 := ⟨_, rfl⟩
     have v1 : IntKind.u32.wrap ((yk : Int) + (xk : Int)) = (V : Int) := by rw [IntKind.wrap_u32]; omega
     rw [← hV] at S2
     have zr : w.heap.size < wr.heap.size := by omega
     clear s1 s2 q0 q1 q5 q6 q7 hV hxo
     go_wp2_with fail
     refine wp_region_last (S := fun w' => Below wr.heap.size wr w') 9 (brw9 10 511) [(0, true), (1, true), (2, true), (3, true), (4, true), (5, true), (6, true), (7, true), (8, true)] (by kernel_rfl) (by kernel_rfl) (fun _ _ d _ _ h => by cases d <;> exact h) ((Below.refl _ wr).drew) ?_
     iterate 9 (refine seg_take (v := ?_) rfl (Or.inl ⟨by rfl, ?_⟩) ?_; rotate_left; (focus (intro w' hw'; have j2 := (hw'.cell (p := ⟨w.heap.size, k, none⟩) zr).trans c0; have j6 := (hw'.cell (p := ⟨g7, k, none⟩) u7).trans c7; go_simp <;> with_reducible rfl)); try simp only [Act.put, pst3])
     refine seg_done ?_
     refine last_run rfl (fun K hK => ?_)
     go_simp
     go_simp
     refine hK.out _ _ ?_
     clear hK
     try simp only [Act.put, pst3]
     go_wp2_with fail
     go_roundw
     case rel =>
      refine ⟨k + 1, by omega, by go_num, ⟨?_, ?_, ?_, ?_, ?_, by simp [World.setCell]; exact u7⟩, (BR.setCell (p := ⟨g7, k, none⟩) (by show w.heap.size ≤ g7; omega) _).drew⟩
      ·show (wr.setCell ⟨g7, k, none⟩ _).heap[w.heap.size]? = _
       rw [Below.heap_setCell _ _ _ _ (by show w.heap.size ≠ g7; omega)]; exact Q0.out
      ·show (wr.setCell ⟨g7, k, none⟩ _).heap[w.heap.size + 1]? = _
       rw [Below.heap_setCell _ _ _ _ (by show w.heap.size + 1 ≠ g7; omega)]; exact Q1.out
      ·show (wr.setCell ⟨g7, k, none⟩ _).heap[g5]? = _
       rw [Below.heap_setCell _ _ _ _ d57]; exact Q5.out
      ·show (wr.setCell ⟨g7, k, none⟩ _).heap[g6]? = _
       rw [Below.heap_setCell _ _ _ _ d67]; exact Q6.out
      ·show (wr.setCell ⟨g7, k, none⟩ _).heap[g7]? = _
       rw [setc_rowT Q7.out, wsV_set, S2.out]
     case measure => simp [intOf]; omega
    ·obtain rfl : k = 8 := by omega
     rw [adP_all, H8.add_comm] at q7
     have Q7 := Lib.hid q7
     have Q1 := Lib.hid q1
     clear q0 q1 q5 q6 q7
     go_wp2_with (first
      | (refine w8_load rfl _ rfl g7 rfl (x.add y).l 137 Q7.out rfl ?_)
      | (refine w8_store rfl _ _ rfl (w.heap.size + 1) rfl (x.add y).l z8 rfl 137 Q1.out rfl rfl ?_))
     refine bodyPost_ret (results_cell_row Tryz.results86 _ _ (w.heap.size + 1) 137 (wsV (x.add y).l) (0, 0) _ rfl (setRow_heap _ _ _ (wsV (x.add y).l) _ _ Q1.out) Tryz.underlying137 rfl (info8 (x.add y).l rfl)) rfl ?_
     exact ⟨rfl, below_setRow BR (by omega) _⟩
theorem refTurn_any (x : H8) (A : Option Addr) (n c : Nat) (xs : List UInt8) (w : World) (hx : x.ok) (hr : RdB w A n c xs) :
  Calls Tryz.prog 86 #[.agg (wsV x.l), .slice A n c] w (RetW w (shTurn x xs).l) := by
 by_cases h : n = 64
 ·subst h; exact refTurn_long x A c xs w hx hr
 ·exact refTurn_short x A n c xs w hr h
end Go.Proofs.YtpahicfnhhhifaaGreat
namespace Go.Proofs.YtpahicfnhhhifaaGreat
set_option maxRecDepth 20000
open Go.RowKit Go.Shelf
set_option maxHeartbeats 8000000
attribute [local go_sem] Oper.semAt_some
def RoI (w W : World) (g3 : Nat) (X : H8) (AL : List UInt8) (M : Nat) (i : Value) (wr : World) : Prop :=
 ∃ k : Nat, k ≤ M ∧ i = .int .i64 k ∧ wr.heap[g3]? = some (.cells (wsV (shFold X AL k).l) 137 (0, 0)) ∧ KpX W.heap.size g3 W wr ∧ Below w.heap.size w wr
def dgQ (D : List UInt8) (k : Nat) : List UInt8 := D.take k ++ List.replicate (32 - k) 0
theorem dgQ_zero (D : List UInt8) : dgQ D 0 = List.replicate 32 0 := by simp [dgQ]
theorem dgQ_all (D : List UInt8) (h : D.length = 32) : dgQ D 32 = D := by unfold dgQ; rw [List.take_of_length_le (by omega)]; simp
theorem dgQ_set (D : List UInt8) (k : Nat) (h : D.length = 32) (hk : k < 32) : (dgQ D k).set k (D.getD k 0) = dgQ D (k + 1) := by
 unfold dgQ
 have e : (D.take k).length = k := by rw [List.length_take]; omega
 rw [List.set_append_right _ _ (by omega), e, Nat.sub_self, show 32 - k = (32 - (k + 1)) + 1 by omega, List.replicate_succ, List.set_cons_zero]
 have e3 : D.take (k + 1) = D.take k ++ [D.getD k 0] := by
  rw [List.take_add_one, List.getElem?_eq_getElem (by omega)]
  simp [List.getD, List.getElem?_eq_getElem (show k < D.length by omega)]
 rw [e3, List.append_assoc]; rfl
theorem dgA_set (D : List UInt8) (k : Nat) (u : UInt8) : (dgA D).setIfInBounds k (.int .u8 (u.toNat : Int)) = dgA (D.set k u) := by
 apply Array.ext'
 simp [dgA, vB, List.map_set]
theorem shDig_byte (y : H8) (k : Nat) (h : k < 32) : (((shDig y).getD k 0).toNat : Nat) = y.l.getD (k / 4) 0 / 2 ^ (24 - 8 * (k % 4)) % 256 := by
 have b4 : ∀ n : Nat, beB n 4 = [UInt8.ofNat (n / 256 ^ 3), UInt8.ofNat (n / 256 ^ 2), UInt8.ofNat (n / 256 ^ 1), UInt8.ofNat (n / 256 ^ 0)] := fun n => rfl
 match k, h with
 | 0, _ | 1, _ | 2, _ | 3, _ | 4, _ | 5, _ | 6, _ | 7, _ | 8, _ | 9, _ | 10, _ | 11, _ | 12, _ | 13, _ | 14, _ | 15, _ | 16, _ | 17, _ | 18, _ | 19, _ | 20, _ | 21, _ | 22, _ | 23, _ | 24, _ | 25, _ | 26, _ | 27, _ | 28, _ | 29, _ | 30, _ | 31, _ => simp [shDig, H8.l, b4]
 | k + 32, h => omega
set_option maxRecDepth 100000 in
theorem refShaOf_any (A : Option Addr) (n c : Nat) (xs : List UInt8) (w : World) (hr : RdB w A n c xs) (hn : n ≤ 1000000) : Calls Tryz.prog 44 #[.slice A n c] w (RetDg w (shOf xs)) := by
 obtain ⟨X, hX⟩ : ∃ X, shBegin = X := ⟨shBegin, rfl⟩
 have hXo : X.ok := hX ▸ shBegin_ok
 obtain ⟨AL, hAL⟩ : ∃ AL, shAll xs = AL := ⟨shAll xs, rfl⟩
 obtain ⟨PD, hPD⟩ : ∃ PD, shPad n = PD := ⟨shPad n, rfl⟩
 have hPl : PD.length = 9 + (119 - n % 64) % 64 := by rw [← hPD, shPad_len]
 have hPl2 : PD.length ≤ 100 := by omega
 have hall : AL = xs ++ PD := by rw [← hAL, shAll, hr.2.1, hPD]
 obtain ⟨M, hM⟩ : ∃ M, M = AL.length / 64 := ⟨_, rfl⟩
 have hL4 : AL.length = 64 * M := by rw [hM, ← hAL, shAll_len]; omega
 have hM1 : 1 ≤ M := by rw [hM, ← hAL, shAll_len]; omega
 have hMb : M ≤ 20000 := by have h1 : AL.length = n + PD.length := (by rw [hall, List.length_append, hr.2.1]); omega
 obtain ⟨DG, hDG⟩ : ∃ DG, shOf xs = DG := ⟨shOf xs, rfl⟩
 have hDGl : DG.length = 32 := by rw [← hDG]; exact shOf_len xs
 have hDGe : shDig (shFold X AL M) = DG := by rw [← hDG, ← hX, hM, ← hAL]; rfl
 have hgb : ∀ k, k < 32 → (DG.getD k 0).toNat = (shFold X AL M).l.getD (k / 4) 0 / 2 ^ (24 - 8 * (k % 4)) % 256 := fun k hk => by rw [← hDGe]; exact shDig_byte _ k hk
 rw [hDG]
 have HPD := Lib.hid hPD
 have HALL := Lib.hid hall
 have HL4 := Lib.hid hL4
 have HX0 : Hid (shBegin = X) := Lib.hid hX
 have HGB := Lib.hid hgb
 have HXF := Lib.hid (fun k => shFold_ok hXo AL k)
 clear hX hXo hAL hPD hPl hall hM hL4 hDG hDGe hgb
 obtain ⟨D0, hD0⟩ : ∃ D0 : Array Value, #[.int .u8 0, .int .u8 0, .int .u8 0, .int .u8 0, .int .u8 0, .int .u8 0, .int .u8 0, .int .u8 0, .int .u8 0, .int .u8 0, .int .u8 0, .int .u8 0, .int .u8 0, .int .u8 0, .int .u8 0, .int .u8 0, .int .u8 0, .int .u8 0, .int .u8 0, .int .u8 0, .int .u8 0, .int .u8 0, .int .u8 0, .int .u8 0, .int .u8 0, .int .u8 0, .int .u8 0, .int .u8 0, .int .u8 0, .int .u8 0, .int .u8 0, .int .u8 0] = D0 := ⟨#[.int .u8 0, .int .u8 0, .int .u8 0, .int .u8 0, .int .u8 0, .int .u8 0, .int .u8 0, .int .u8 0, .int .u8 0, .int .u8 0, .int .u8 0, .int .u8 0, .int .u8 0, .int .u8 0, .int .u8 0, .int .u8 0, .int .u8 0, .int .u8 0, .int .u8 0, .int .u8 0, .int .u8 0, .int .u8 0, .int .u8 0, .int .u8 0, .int .u8 0, .int .u8 0, .int .u8 0, .int .u8 0, .int .u8 0, .int .u8 0, .int .u8 0, .int .u8 0], rfl⟩
 have HD0 := Lib.hid hD0
 have H1 := Lib.hid (show ((w.alloc (.cells zz4 30)).alloc (.cells #[.int .u32 0, .int .u32 0, .int .u32 0, .int .u32 0, .int .u32 0, .int .u32 0, .int .u32 0, .int .u32 0] 137)).heap[w.heap.size + 1]? = some (.cells (wsV z8) 137 (0, 0)) by rw [z8_V]; exact row2b ..)
 have H0 := Lib.hid (show ((w.alloc (.cells zz4 30)).alloc (.cells #[.int .u32 0, .int .u32 0, .int .u32 0, .int .u32 0, .int .u32 0, .int .u32 0, .int .u32 0, .int .u32 0] 137)).heap[w.heap.size]? = some (.cells zz4 30 (0, 0)) by exact row2a ..)
 clear hD0
 go_enter Tryz.func44, Tryz.ntmps44
 go_wp2_with (first
  | (at_builtin; go_loud (refine wp_appB rfl _ _ rfl ((below_self V1).alloc (Nat.le_refl _) _) (Nat.le_refl _) (by simp) _ _ _ _ rfl (own0 V1) A n c xs rfl ((hr.below bV1).alloc _) (by omega) n xs (by omega) (by simp) ?_); intro A3 c3 w3 ho3 hb3 hg3)
  | (refine w8_store rfl _ _ rfl (w.heap.size + 1) rfl shBegin.l z8 rfl 137 H1.out rfl rfl ?_; obtain ⟨V1, hV⟩ : ∃ V, V = (((w.alloc (.cells zz4 30)).alloc (.cells #[.int .u32 0, .int .u32 0, .int .u32 0, .int .u32 0, .int .u32 0, .int .u32 0, .int .u32 0, .int .u32 0] 137)).setRow (w.heap.size + 1) (wsV shBegin.l)) := ⟨_, rfl⟩; rw [← hV]; have bV1 : Below w.heap.size w V1 := (by rw [hV]; exact below_setRow (((below_self w).alloc (Nat.le_refl _) _).alloc (by simp) _) (by omega) _); have zV1 : w.heap.size + 1 < V1.heap.size := (by rw [hV]; simp); have K1 := Lib.hid (show V1.heap[w.heap.size + 1]? = some (.cells (wsV X.l) 137 (0, 0)) by rw [hV, ← HX0.out]; exact setRow_heap _ _ _ (wsV shBegin.l) _ _ H1.out); have K0 := Lib.hid (show V1.heap[w.heap.size]? = some (.cells D0 30 (0, 0)) by rw [hV, ← HD0.out]; exact (setRow_other _ _ _ _ (by omega)).trans H0.out); clear hV))
 refine (refPad_any n w3 hn).mono ?_
 rw [HPD.out]
 rintro e_ w4 ⟨A4, n4, c4, rfl, ho4, hb4⟩
 have hn4 : n4 ≤ 100 := by rw [← ho4.len]; exact hPl2
 have B34 := below_then hb3 hb4
 obtain ⟨N, hN⟩ : ∃ N, N = n + n4 := ⟨_, rfl⟩
 have HN := Lib.hid hN
 clear hN
 go_wp2_with (at_builtin; refine wp_appB rfl _ _ rfl B34 (Nat.le_refl _) B34.size A3 n c3 xs rfl (ho3.below hb4) A4 n4 c4 PD rfl ho4.rd (by omega) N AL HN.out.symm (by rw [HALL.out]) ?_; intro A5 c5 w5 ho5 hb5 hg5)
 have hN64 : N = 64 * M := by rw [← ho5.len, HL4.out]
 obtain ⟨b5, o5, u5, rfl, hb5lt, -⟩ := ho5.rd.at_ 0 (by omega)
 have hlow : V1.heap.size ≤ b5 := own_lo1 ho5
 have hr5 := ho5.rd
 have hc5 := hr5.2.2.1
 have hc63 := hr5.c63
 have z5 := hb5.size
 have g3r := (hb5.block (w.heap.size + 1) zV1).trans K1.out
 have g2r := Lib.hid ((hb5.block w.heap.size (by omega)).trans K0.out)
 have B5 : Below w.heap.size w w5 := below_then bV1 hb5
 have hNM : (N : Int) / 64 = (M : Int) := by omega
 have HN64 := Lib.hid hN64
 have hNb : N ≤ 2000000 := by omega
 clear hN64
 clear ho3 hb3 hg3 ho4 hb4 hg5 B34 HN K1 K0 hPl2 HPD H0 H1 hr
 go_loopw [5] (RoI w w5 (w.heap.size + 1) X AL M) (fun i _ => M - (intOf i).toNat)
 case atStart => exact ⟨0, Nat.zero_le _, rfl, g3r, KpX.refl _ _ _, B5⟩
 case round =>
  obtain ⟨k, hk, rfl, hrow, hK, hB⟩ := hrel
  by_cases hlt : k < M
  ·have hN64 := HN64.out
   have hx := HXF.out k
   obtain ⟨p, hp⟩ : ∃ p, p = 64 * k := ⟨_, rfl⟩
   have rb : RdB wr (some ⟨b5, o5, none⟩) N c5 AL := rdB_block hr5 hK.1 (hK.2 b5 hb5lt (by omega))
   have rc := (rb.cutS p (N - p) (by omega) (by omega)).take 64 (by omega)
   have hstep : shFold X AL (k + 1) = shTurn (shFold X AL k) ((AL.drop p).take 64) := by rw [hp]; rfl
   obtain ⟨q, hq⟩ : ∃ q, q = p + 64 := ⟨_, rfl⟩
   have a1 : (64 : Int) * (k : Int) = (p : Int) := by omega
   have a2 : (p : Int) + 64 = (q : Int) := by omega
   have a3 : (q : Int) ≤ (c5 : Int) := by omega
   have a4 : ¬ (c5 = p) := by omega
   have a5 : q - p = 64 := by omega
   have a6 : (p : Int) ≤ (q : Int) := by omega
   have hlt' : (k : Int) < (M : Int) := by omega
   have wp := wi64n (k := p) (by omega)
   have wq := wi64n (k := q) (by omega)
   have wm : max (q : Int) 0 = (q : Int) := by omega
   have hgw : w.heap.size + 1 < wr.heap.size := (Array.getElem?_eq_some_iff.1 hrow).1
   generalize shFold X AL k = y at *
   have HS := Lib.hid hstep
   have HR := Lib.hid hrow
   have HRC := Lib.hid rc
   clear hstep hrow rb rc g3r hp hq hN64
   go_wp2_with fail
   refine wp_region_last (S := fun w' => Below wr.heap.size wr w') 9 (brw9 10 511) [(0, true), (1, true), (2, true), (3, true), (4, true), (5, true), (6, true), (7, true), (8, false)] (by kernel_rfl) (by kernel_rfl) (fun _ _ d _ _ h => by cases d <;> exact h) ((Below.refl _ wr).drew) ?_
   refine seg_take (v := .agg (wsV y.l)) rfl (Or.inl ⟨by rfl, fun w' hw' => ?_⟩) ?_
   focus (exact ex_loadP rfl rfl (load8 ((hw'.block _ hgw).trans HR.out) rfl))
   try simp only [Act.put, pst3]
   iterate 7 (refine seg_take (v := ?_) rfl (Or.inl ⟨by rfl, ?_⟩) ?_; rotate_left; (focus (intro w' hw'; go_simp <;> with_reducible rfl)); try simp only [Act.put, pst3])
   refine seg_run rfl (fun K hK => ?_)
   go_simp
   refine (refTurn_any y _ 64 _ _ _ hx (HRC.out.below (Below.refl _ wr).drew)).mono ?_
   rintro e_ w7 ⟨rfl, hb7⟩
   have HB7 : Below wr.heap.size wr w7 := below_then (Below.refl _ wr).drew hb7
   refine hK.out _ _ (HB7) ?_
   clear hK
   try simp only [Act.put, pst3]
   refine seg_done ?_
   refine last_run rfl (fun K hK => ?_)
   have R7 := (HB7.block _ hgw).trans HR.out
   refine wp_store_row 137 _ _ rfl (w.heap.size + 1) (wsV (shTurn y ((AL.drop p).take 64)).l) rfl rfl 137 (wsV y.l) R7 (info8 _ rfl) (by rw [wsV_size, wsV_size]; rfl) (wsV_one _) ?_
   refine hK.out _ _ ?_
   clear hK
   try simp only [Act.put, pst3]
   have R7 := (HB7.block _ hgw).trans HR.out
   have z7 := HB7.size
   go_wp2_with fail
   go_roundw
   case rel =>
    refine ⟨k + 1, by omega, by go_num, ?_, ⟨by have := hK.1; simp; omega, fun j hj hjg => (setRow_other _ _ _ _ hjg).trans ((HB7.block j (by have := hK.1; omega)).trans (hK.2 j hj hjg))⟩, below_setRow (hB.trans (HB7.mono hB.size)) (by omega) _⟩
    rw [HS.out]
    exact setRow_heap _ _ _ (wsV _) _ _ R7
   case measure => simp [intOf]; omega
  ·obtain rfl : k = M := by omega
   have hgw : w.heap.size + 1 < wr.heap.size := (Array.getElem?_eq_some_iff.1 hrow).1
   have g2 := Lib.hid ((hK.2 w.heap.size (by omega) (by omega)).trans g2r.out)
   have HR := Lib.hid hrow
   have hyo := HXF.out k
   obtain ⟨y, hy⟩ : ∃ y, shFold X AL k = y := ⟨_, rfl⟩
   rw [hy] at HR hyo HGB
   have HYO := Lib.hid hyo
   clear hrow hyo hy g3r
   have HD := Lib.hid (heap_alloc_new wr (.cells zz4 30))
   go_wp2_with fail
   obtain ⟨W, hW⟩ : ∃ W, W = wr.alloc (.cells zz4 30) := ⟨_, rfl⟩
   have bW : Below wr.heap.size wr W := by rw [hW]; exact (below_self wr).alloc (Nat.le_refl _) _
   have zW : W.heap.size = wr.heap.size + 1 := by rw [hW]; simp
   have rW : W.heap[wr.heap.size]? = some (.cells (dgA (dgQ DG 0)) 30 (0, 0)) := by rw [hW, dgQ_zero]; exact heap_alloc_new wr _
   rw [← hW]
   have G2 := (bW.block w.heap.size (by omega)).trans g2.out
   have G3 := (bW.block (w.heap.size + 1) hgw).trans HR.out
   have BW := below_then hB bW
   obtain ⟨g6, hg6⟩ : ∃ g, g = wr.heap.size := ⟨_, rfl⟩
   rw [← hg6] at rW zW ⊢
   have hg36 : w.heap.size + 1 < g6 := by omega
   have HZW := Lib.hid zW
   clear hW hg6 HD zW
   go_loopw [7] (fun i w2 => ∃ j : Nat, j ≤ 32 ∧ i = .int .i64 j ∧ w2.heap[g6]? = some (.cells (dgA (dgQ DG j)) 30 (0, 0)) ∧ w2.heap[w.heap.size + 1]? = some (.cells (wsV y.l) 137 (0, 0)) ∧ w2.heap[w.heap.size]? = some (.cells D0 30 (0, 0)) ∧ Below w.heap.size w w2) (fun i _ => 32 - (intOf i).toNat)
   case atStart => exact ⟨0, by omega, rfl, rW, G3, G2, BW⟩
   case round =>
    clear rW G2 G3 BW bW hgw hB hK g2 HR
    obtain ⟨j, hj, rfl, q6, q3, q2, hB⟩ := hrel
    by_cases hlt : j < 32
    ·have hb := HGB.out j hlt
     obtain ⟨a, ha⟩ : ∃ a, a = j / 4 := ⟨_, rfl⟩
     obtain ⟨r, hr⟩ : ∃ a, a = j % 4 := ⟨_, rfl⟩
     obtain ⟨e, he⟩ : ∃ a, a = 8 * r := ⟨_, rfl⟩
     obtain ⟨s, hs⟩ : ∃ a, a = 24 - e := ⟨_, rfl⟩
     rw [← ha, ← hr, ← he, ← hs] at hb
     have ha8 : a < 8 := by omega
     have hyv := H8.l_lt HYO.out a
     have c3 := (cell_of_row _ _ a _ _ _ q3).trans (wsV_get _ a ha8)
     have HS := Lib.hid (dgQ_set DG j hDGl hlt)
     have hlen : (dgQ DG j).length = 32 := by simp [dgQ, hDGl]; omega
     obtain ⟨ov, hov⟩ : ∃ v, (dgA (dgQ DG j))[j]? = some v := ⟨_, Array.getElem?_eq_getElem (by rw [dgA_size, hlen]; exact hlt)⟩
     have c6 := (cell_of_row _ _ j _ _ _ q6).trans hov
     have f6 := frozen_of_row _ _ j _ _ q6
     generalize y.l.getD a 0 = v at *
     obtain ⟨u, hu⟩ : ∃ u, DG.getD j 0 = u := ⟨_, rfl⟩
     rw [hu] at hb HS
     obtain ⟨V, hV⟩ : ∃ V, V = v / 2 ^ s := ⟨_, rfl⟩
     rw [← hV] at hb
     have b1 : (j : Int) / 4 = (a : Int) := by omega
     have b2 : (j : Int) % 4 = (r : Int) := by omega
     have b3 : (8 : Int) * (r : Int) = (e : Int) := by omega
     have b4 : (24 : Int) - (e : Int) = (s : Int) := by omega
     have b5 := w64n (k := s) (by omega)
     have b6 : (v : Int) / 2 ^ s = (V : Int) := by rw [hV]; push_cast; rfl
     have b7 : IntKind.u8.wrap (V : Int) = (u.toNat : Int) := by rw [IntKind.wrap_u8, hb]; omega
     have b8 : (a : Int) < 8 := by omega
     have b9 : (j : Int) < 32 := by omega
     have s24 : s ≤ 24 := by omega
     have Q6 := Lib.hid q6
     have Q3 := Lib.hid q3
     have Q2 := Lib.hid q2
     clear hb ha hr he hs hu hV hov hlen q6 q3 q2
     go_wp2_with fail
     go_roundw
     case rel =>
      refine ⟨j + 1, by omega, by go_num, ?_, (Below.heap_setCell _ _ _ _ (by show w.heap.size + 1 ≠ g6; omega)).trans Q3.out, (Below.heap_setCell _ _ _ _ (by show w.heap.size ≠ g6; omega)).trans Q2.out, hB.setCell (p := ⟨g6, j, none⟩) (by show w.heap.size ≤ g6; omega) _⟩
      rw [setc_rowT Q6.out, dgA_set, HS.out]
     case measure => simp [intOf]; omega
    ·obtain rfl : j = 32 := by omega
     rw [dgQ_all DG hDGl] at q6
     have Q6 := Lib.hid q6
     have Q2 := Lib.hid q2
     have hD0s : D0.size = 32 := by rw [← HD0.out]; rfl
     have HDl := Lib.hid hDGl
     clear q6 q3 q2
     go_wp2_with (first
      | (refine dig_load rfl _ rfl g6 rfl DG 30 Q6.out HDl.out ?_)
      | (refine dig_store rfl _ _ rfl w.heap.size rfl DG D0 rfl 30 Q2.out HDl.out hD0s ?_))
     refine bodyPost_ret (results_cell_row Tryz.results44 _ _ w.heap.size 30 (dgA DG) (0, 0) _ rfl (setRow_heap _ _ _ (dgA DG) _ _ Q2.out) Tryz.underlying30 rfl (infoD DG HDl.out)) rfl ?_
     exact ⟨rfl, below_setRow hB (Nat.le_refl _) _⟩
set_option maxRecDepth 100000 in
theorem refLink_any (D : List UInt8) (hD : D.length = 32) (A : Option Addr) (n c : Nat) (xs : List UInt8) (w : World) (hr : RdB w A n c xs) (hn : n ≤ 999000) : Calls Tryz.prog 93 #[.agg (dgA D), .slice A n c] w (RetDg w (shLink D xs)) := by
 obtain ⟨D0, hD0⟩ : ∃ D0 : Array Value, #[.int .u8 0, .int .u8 0, .int .u8 0, .int .u8 0, .int .u8 0, .int .u8 0, .int .u8 0, .int .u8 0, .int .u8 0, .int .u8 0, .int .u8 0, .int .u8 0, .int .u8 0, .int .u8 0, .int .u8 0, .int .u8 0, .int .u8 0, .int .u8 0, .int .u8 0, .int .u8 0, .int .u8 0, .int .u8 0, .int .u8 0, .int .u8 0, .int .u8 0, .int .u8 0, .int .u8 0, .int .u8 0, .int .u8 0, .int .u8 0, .int .u8 0, .int .u8 0] = D0 := ⟨#[.int .u8 0, .int .u8 0, .int .u8 0, .int .u8 0, .int .u8 0, .int .u8 0, .int .u8 0, .int .u8 0, .int .u8 0, .int .u8 0, .int .u8 0, .int .u8 0, .int .u8 0, .int .u8 0, .int .u8 0, .int .u8 0, .int .u8 0, .int .u8 0, .int .u8 0, .int .u8 0, .int .u8 0, .int .u8 0, .int .u8 0, .int .u8 0, .int .u8 0, .int .u8 0, .int .u8 0, .int .u8 0, .int .u8 0, .int .u8 0, .int .u8 0, .int .u8 0], rfl⟩
 have HD0 := Lib.hid hD0
 have hsz : (dgA D).size = 32 := by rw [dgA_size, hD]
 clear hD0
 go_enter Tryz.func93, Tryz.ntmps93
 have b1 := ((below_self w).alloc (Nat.le_refl _) (.cells (dgA D) 30)).alloc (by simp) (.cells zz4 30)
 have D1 := Lib.hid (rdAt (row2a w (dgA D) #[.int .u8 0, .int .u8 0, .int .u8 0, .int .u8 0, .int .u8 0, .int .u8 0, .int .u8 0, .int .u8 0, .int .u8 0, .int .u8 0, .int .u8 0, .int .u8 0, .int .u8 0, .int .u8 0, .int .u8 0, .int .u8 0, .int .u8 0, .int .u8 0, .int .u8 0, .int .u8 0, .int .u8 0, .int .u8 0, .int .u8 0, .int .u8 0, .int .u8 0, .int .u8 0, .int .u8 0, .int .u8 0, .int .u8 0, .int .u8 0, .int .u8 0, .int .u8 0] 30 30) D 32 (by simp [dgA]) hD (by simp [maxLen]))
 have R1 := Lib.hid (row2b w (dgA D) #[.int .u8 0, .int .u8 0, .int .u8 0, .int .u8 0, .int .u8 0, .int .u8 0, .int .u8 0, .int .u8 0, .int .u8 0, .int .u8 0, .int .u8 0, .int .u8 0, .int .u8 0, .int .u8 0, .int .u8 0, .int .u8 0, .int .u8 0, .int .u8 0, .int .u8 0, .int .u8 0, .int .u8 0, .int .u8 0, .int .u8 0, .int .u8 0, .int .u8 0, .int .u8 0, .int .u8 0, .int .u8 0, .int .u8 0, .int .u8 0, .int .u8 0, .int .u8 0] 30 30)
 have HB1 := Lib.hid b1
 clear b1
 go_wp2_with (first
  | (at_builtin; refine wp_appB rfl _ _ rfl hb3 (Nat.le_refl _) hb3.size A3 32 c3 D rfl ho3 A n c xs rfl ((hr.below HB1.out).below hb3) (by omega) (32 + n) (D ++ xs) rfl rfl ?_; intro A4 c4 w4 ho4 hb4 hg4)
  | (at_builtin; refine wp_appB rfl _ _ rfl ((below_self _).alloc (Nat.le_refl _) _) (Nat.le_refl _) (by simp) _ _ _ _ rfl (own0' (k := w.heap.size + 1 + 1) (by simp)) _ 32 32 D rfl (D1.out.alloc _) (by omega) 32 D (by omega) (by simp) ?_; intro A3 c3 w3 ho3 hb3 hg3))
 refine (refShaOf_any A4 (32 + n) c4 (D ++ xs) w4 ho4.rd (by omega)).mono ?_
 rintro e w5 ⟨rfl, hb5⟩
 obtain ⟨DG, hDG⟩ : ∃ DG, shLink D xs = DG := ⟨shLink D xs, rfl⟩
 rw [show shOf (D ++ xs) = DG from hDG, hDG]
 have HDG := Lib.hid hDG
 have hDl : DG.length = 32 := by rw [← hDG]; exact shLink_len D xs
 have R5 := Lib.hid (show w5.heap[w.heap.size + 1]? = some (.cells D0 30 (0, 0)) from (hb5.block _ (by have := hb4.size; simp at this; omega)).trans ((hb4.block _ (by simp)).trans (by rw [← HD0.out]; exact R1.out)))
 have B5 : Below w.heap.size w w5 := below_then HB1.out (hb4.trans (hb5.mono hb4.size))
 have hD0s : D0.size = 32 := by rw [← HD0.out]; rfl
 clear hDG hb3 hg3 ho3 hb4 hg4 ho4
 go_wp2_with (refine dig_store rfl _ _ rfl (w.heap.size + 1) rfl DG D0 rfl 30 R5.out hDl hD0s ?_)
 refine bodyPost_ret (results_cell_row Tryz.results93 _ _ (w.heap.size + 1) 30 (dgA DG) (0, 0) _ rfl (setRow_heap _ _ _ (dgA DG) _ _ R5.out) Tryz.underlying30 rfl (infoD DG hDl)) rfl ?_
 exact ⟨by rw [HDG.out], below_setRow B5 (by omega) _⟩
end Go.Proofs.YtpahicfnhhhifaaGreat
