/-
  Layer 3: a block taken in (the document).
-/
import Derived.Test.YtnfepikgbdeomaaShaE
import Derived.Test.YtnfepikgbdeomaaShaM
import Derived.Test.YtnfepikgbdeomaaPlanD
namespace Go.Proofs.Ytnfepikgbdeomaa
set_option maxRecDepth 20000
open Go.RowKit
set_option linter.unusedVariables false
set_option linter.unusedSimpArgs false
set_option maxHeartbeats 8000000

theorem refTurn_short (x : H8) (A : Option Addr) (n c : Nat) (xs : List UInt8) (w : World) (hr : RdB w A n c xs) (h : n ≠ 64) :
    Calls Try.prog 89 #[.agg (wsV x.l), .slice A n c] w (RetW w (shTurn x xs).l) := by
  have hn := hr.n63
  have e : shTurn x xs = x := by unfold shTurn; rw [if_neg (by rw [hr.2.1]; exact h)]
  rw [e]
  have d1 : ((n : Int) != 64) = true := by rw [bne_iff_ne]; omega
  have H0 := Lib.hid (show ((w.alloc (.cells (wsV x.l) 127)).alloc (.cells #[.int .u32 0, .int .u32 0, .int .u32 0, .int .u32 0, .int .u32 0, .int .u32 0, .int .u32 0, .int .u32 0] 127)).heap[w.heap.size]? = some (.cells (wsV x.l) 127 (0, 0)) by exact row2a ..)
  have H1 := Lib.hid (show ((w.alloc (.cells (wsV x.l) 127)).alloc (.cells #[.int .u32 0, .int .u32 0, .int .u32 0, .int .u32 0, .int .u32 0, .int .u32 0, .int .u32 0, .int .u32 0] 127)).heap[w.heap.size + 1]? = some (.cells (wsV z8) 127 (0, 0)) by rw [z8_V]; exact row2b ..)
  clear h e
  go_enter Try.func89, Try.ntmps89
  go_wp2_with (first
    | (refine w8_load rfl _ rfl w.heap.size rfl x.l 127 H0.out rfl ?_)
    | (refine w8_store rfl _ _ rfl (w.heap.size + 1) rfl x.l z8 rfl 127 H1.out rfl rfl ?_))
  refine bodyPost_ret (results_cell_row Try.results89 _ _ (w.heap.size + 1) 127 (wsV x.l) (0, 0) _ rfl (setRow_heap _ _ _ (wsV x.l) _ _ H1.out) Try.underlying127 rfl (info8 x.l rfl)) rfl ?_
  exact ⟨rfl, below_setRow (((below_self w).alloc (Nat.le_refl _) _).alloc (by simp) _) (by omega) _⟩

/-- The frame of Turn within its first region. -/
def tuF (x : H8) (A : Option Addr) (c g : Nat) (v5 v6 v7 v19 v20 : Value) : Act := { tmps := #[.agg (wsV x.l), .slice A 64 c, .pointer (some ⟨g, 0, none⟩), undef, .pointer (some ⟨g + 1, 0, none⟩), v5, v6, v7, undef, undef, undef, undef, undef, undef, .slice A 64 c, .int .i64 64, .bool false, undef, .slice A 64 c, v19, v20, .agg (wsV x.l), undef, undef, undef, undef, undef, undef, undef, undef, undef, undef, undef, undef, undef, undef, undef, undef, undef, undef, undef, undef, undef, undef, undef, undef, undef, undef, undef, undef, undef, undef, undef, undef, undef, undef, undef, undef, undef, undef, undef, undef, undef, undef, undef, undef, undef, undef, undef, undef, undef, undef, undef, undef, undef, undef, undef, undef, undef, undef, undef, undef, undef, undef, undef, undef, undef, undef, undef, undef, undef, undef, undef, undef, undef, undef, undef, undef, undef, undef, undef, undef, undef, undef, undef, undef, undef, undef, undef, undef, undef, undef, undef, undef, undef, undef, undef, undef, undef, undef, undef, undef, undef, undef, undef, undef], defers := [] }
inductive C3 | k0 | k1 | k2
def C3.p1 : C3 → Bool | .k0 => false | _ => true
def C3.p2 : C3 → Bool | .k2 => true | _ => false
def TuJ3 : Type := C3 × Bool × Bool × Bool
def tuLst : TuJ3 → Array Bool | (c, b5, b6, b7) => #[true, c.p1, c.p2, true, b5, b6, b7, false, false, false]
def tuC : C3 → Nat | .k0 => 2 | .k1 => 1 | .k2 => 0
def tuB : Bool → Nat | true => 0 | false => 1
def tuMu : TuJ3 → Nat | (c, b5, b6, b7) => tuC c + (tuB b5 + (tuB b6 + tuB b7))
def tuN : C3 → Bool → Bool → Bool → List (Nat × TuJ3)
  | .k0, b5, b6, b7 => [(1, (.k1, b5, b6, b7))]
  | .k1, b5, b6, b7 => [(2, (.k2, b5, b6, b7))]
  | .k2, _, _, _ => []
def tuO (b : Bool) (k : Nat) (y : TuJ3) : List (Nat × TuJ3) := match b with | true => [] | false => [(k, y)]
def tuCand : TuJ3 → List (Nat × TuJ3) | (c, b5, b6, b7) => tuN c b5 b6 b7 ++ (tuO b5 4 (c, true, b6, b7) ++ (tuO b6 5 (c, b5, true, b7) ++ tuO b7 6 (c, b5, b6, true)))
def vIf (b : Bool) (v : Value) : Value := match b with | true => v | false => undef
def ptrV (g : Nat) : Value := .pointer (some ⟨g, 0, none⟩)
/-- What is known of the new blocks. -/
def TuD (W : World) (b5 b6 b7 : Bool) (g5 g6 g7 : Nat) (wr : World) : Prop :=
  (b5 = true → wr.heap[g5]? = some (.cells (wsV z64) 162 (0, 0)) ∧ W.heap.size ≤ g5 ∧ g5 < wr.heap.size) ∧ (b6 = true → wr.heap[g6]? = some (.cells (wsV z64) 162 (0, 0)) ∧ W.heap.size ≤ g6 ∧ g6 < wr.heap.size) ∧
  (b7 = true → wr.heap[g7]? = some (.cells (wsV z8) 127 (0, 0)) ∧ W.heap.size ≤ g7 ∧ g7 < wr.heap.size) ∧ (b5 = true → b6 = true → g5 ≠ g6) ∧ (b5 = true → b7 = true → g5 ≠ g7) ∧ (b6 = true → b7 = true → g6 ≠ g7)
theorem TuD.below {W : World} {b5 b6 b7 : Bool} {g5 g6 g7 : Nat} {w1 w2 : World} (h : TuD W b5 b6 b7 g5 g6 g7 w1) (hb : Below w1.heap.size w1 w2) : TuD W b5 b6 b7 g5 g6 g7 w2 := by
  obtain ⟨h5, h6, h7, d⟩ := h
  have := hb.size
  refine ⟨fun e => ?_, fun e => ?_, fun e => ?_, d⟩
  · obtain ⟨r, l, u⟩ := h5 e; exact ⟨(hb.block _ u).trans r, l, by omega⟩
  · obtain ⟨r, l, u⟩ := h6 e; exact ⟨(hb.block _ u).trans r, l, by omega⟩
  · obtain ⟨r, l, u⟩ := h7 e; exact ⟨(hb.block _ u).trans r, l, by omega⟩
theorem TuD.new5 {W : World} {b6 b7 : Bool} {g5 g6 g7 g : Nat} {w1 w2 : World} (h : TuD W false b6 b7 g5 g6 g7 w1) (hb : Below w1.heap.size w1 w2) (hs : Below W.heap.size W w1) (hg : w1.heap.size = g) (hr : w2.heap[g]? = some (.cells (wsV z64) 162 (0, 0))) (hz : w2.heap.size = g + 1) : TuD W true b6 b7 g g6 g7 w2 := by
  obtain ⟨-, h6, h7, -, -, d67⟩ := TuD.below h hb
  obtain ⟨-, k6, k7, -⟩ := h
  have := hs.size
  refine ⟨fun _ => ⟨hr, by omega, by omega⟩, h6, h7, fun _ e => ?_, fun _ e => ?_, d67⟩
  · have := (k6 e).2.2; omega
  · have := (k7 e).2.2; omega
theorem TuD.new6 {W : World} {b5 b7 : Bool} {g5 g6 g7 g : Nat} {w1 w2 : World} (h : TuD W b5 false b7 g5 g6 g7 w1) (hb : Below w1.heap.size w1 w2) (hs : Below W.heap.size W w1) (hg : w1.heap.size = g) (hr : w2.heap[g]? = some (.cells (wsV z64) 162 (0, 0))) (hz : w2.heap.size = g + 1) : TuD W b5 true b7 g5 g g7 w2 := by
  obtain ⟨h5, -, h7, -, d57, -⟩ := TuD.below h hb
  obtain ⟨k5, -, k7, -⟩ := h
  have := hs.size
  refine ⟨h5, fun _ => ⟨hr, by omega, by omega⟩, h7, fun e _ => ?_, d57, fun _ e => ?_⟩
  · have := (k5 e).2.2; omega
  · have := (k7 e).2.2; omega
theorem TuD.new7 {W : World} {b5 b6 : Bool} {g5 g6 g7 g : Nat} {w1 w2 : World} (h : TuD W b5 b6 false g5 g6 g7 w1) (hb : Below w1.heap.size w1 w2) (hs : Below W.heap.size W w1) (hg : w1.heap.size = g) (hr : w2.heap[g]? = some (.cells (wsV z8) 127 (0, 0))) (hz : w2.heap.size = g + 1) : TuD W b5 b6 true g5 g6 g w2 := by
  obtain ⟨h5, h6, -, d56, -, -⟩ := TuD.below h hb
  obtain ⟨k5, k6, -⟩ := h
  have := hs.size
  refine ⟨h5, h6, fun _ => ⟨hr, by omega, by omega⟩, d56, fun e _ => ?_, fun e _ => ?_⟩
  · have := (k5 e).2.2; omega
  · have := (k6 e).2.2; omega
def TuS (x : H8) (A : Option Addr) (c : Nat) (ws : List Nat) (g : Nat) (W : World) : TuJ3 → Act → World → Prop
  | (k, b5, b6, b7), a, w' => ∃ g5 g6 g7, a = tuF x A c g (vIf b5 (ptrV g5)) (vIf b6 (ptrV g6)) (vIf b7 (ptrV g7)) (vIf k.p1 (.agg (wsV ws))) (vIf k.p2 (.agg (wsV shK))) ∧ TuD W b5 b6 b7 g5 g6 g7 w'
/-- Behind the first region. -/
def TuQ (x : H8) (A : Option Addr) (c : Nat) (ws : List Nat) (g : Nat) (W : World) (e : Exit) (a : Act) (w' : World) : Prop :=
  e = .normal ∧ ∃ g5 g6 g7, a = tuF x A c g (ptrV g5) (ptrV g6) (ptrV g7) (.agg (wsV ws)) (.agg (wsV shK)) ∧ w'.heap[g5]? = some (.cells (wsV ws) 162 (0, 0)) ∧ w'.heap[g6]? = some (.cells (wsV shK) 162 (0, 0)) ∧ w'.heap[g7]? = some (.cells (wsV x.l) 127 (0, 0)) ∧
  W.heap.size ≤ g5 ∧ W.heap.size ≤ g6 ∧ W.heap.size ≤ g7 ∧ g5 ≠ g7 ∧ g6 ≠ g7 ∧ g7 < w'.heap.size ∧ Below W.heap.size W w'
theorem load8 {w : World} {g : Nat} {ys : List Nat} (h : w.heap[g]? = some (.cells (wsV ys) 127 (0, 0))) (hl : ys.length = 8) : (loadVar 127 ⟨g, 0, none⟩).run Try.prog w = .ok (.agg (wsV ys)) w :=
  run_loadVar_row w g _ _ _ _ _ h Try.underlying127 rfl (info8 ys hl)
theorem H8.add_comm (x y : H8) : x.add y = y.add x := by simp [H8.add, Nat.add_comm]
/-- Between two rounds of Turn's loops. -/
def RuR (w : World) (g5 g6 g7 : Nat) (ws : List Nat) (hs ys : List Nat) (wr : World) : Prop :=
  wr.heap[w.heap.size]? = some (.cells (wsV hs) 127 (0, 0)) ∧ wr.heap[w.heap.size + 1]? = some (.cells (wsV z8) 127 (0, 0)) ∧ wr.heap[g5]? = some (.cells (wsV ws) 162 (0, 0)) ∧ wr.heap[g6]? = some (.cells (wsV shK) 162 (0, 0)) ∧ wr.heap[g7]? = some (.cells (wsV ys) 127 (0, 0)) ∧ g7 < wr.heap.size
def RuI (w : World) (x : H8) (g5 g6 g7 : Nat) (ws : List Nat) (v8 : Value) (wr : World) : Prop :=
  ∃ k : Nat, k ≤ 64 ∧ v8 = .int .i64 k ∧ RuR w g5 g6 g7 ws x.l (shRounds ws x k).l wr ∧ Below w.heap.size w wr
def RuK (w : World) (x y : H8) (g5 g6 g7 : Nat) (ws : List Nat) (v13 : Value) (wr : World) : Prop :=
  ∃ k : Nat, k ≤ 8 ∧ v13 = .int .i64 k ∧ RuR w g5 g6 g7 ws x.l (adP y x k) wr ∧ Below w.heap.size w wr
set_option maxRecDepth 100000 in
theorem refTurn_long (x : H8) (A : Option Addr) (c : Nat) (xs : List UInt8) (w : World) (hx : x.ok) (hr : RdB w A 64 c xs) :
    Calls Try.prog 89 #[.agg (wsV x.l), .slice A 64 c] w (RetW w (shTurn x xs).l) := by
  have hl := hr.2.1
  have e : shTurn x xs = x.add (shRounds (shWs xs 64) x 64) := by unfold shTurn; rw [if_pos hl]
  have e2 : shWords xs = shWs xs 64 := by unfold shWords; rw [if_pos hl]
  rw [e]
  have d1 : ((64 : Int) != 64) = false := by decide
  obtain ⟨ws, hws⟩ : ∃ ws, shWs xs 64 = ws := ⟨shWs xs 64, rfl⟩
  have hwl : ws.length = 64 := by rw [← hws]; exact shWs_len xs 64
  have hwt : ∀ n ∈ ws, n < 4294967296 := by rw [← hws]; exact shWs_lt xs 64
  rw [hws] at e2 ⊢
  have E2 := Lib.hid e2
  have HX := Lib.hid hx
  have HWL := Lib.hid hwl
  have HWT := Lib.hid hwt
  clear hws hwl hwt
  clear e e2 hl hx
  go_enter Try.func89, Try.ntmps89
  go_wp2_with fail
  obtain ⟨W, hW⟩ : ∃ W, W = (w.alloc (.cells (wsV x.l) 127)).alloc (.cells #[.int .u32 0, .int .u32 0, .int .u32 0, .int .u32 0, .int .u32 0, .int .u32 0, .int .u32 0, .int .u32 0] 127) := ⟨_, rfl⟩
  have bW : Below w.heap.size w W := by rw [hW]; exact ((below_self w).alloc (Nat.le_refl _) _).alloc (by simp) _
  have h0 : W.heap[w.heap.size]? = some (.cells (wsV x.l) 127 (0, 0)) := by rw [hW]; exact row2a ..
  have h1 : W.heap[w.heap.size + 1]? = some (.cells (wsV z8) 127 (0, 0)) := by rw [hW, z8_V]; exact row2b ..
  have zW : w.heap.size + 1 < W.heap.size := by rw [hW]; simp
  rw [← hW]
  have H0 := Lib.hid h0
  have H1 := Lib.hid h1
  clear hW h0 h1
  have hrW := hr.below bW
  have HCW := Lib.hid (fun W' (hb : Below W.heap.size W W') => E2.out ▸ refWords_any A 64 c xs W' (hrW.below hb))
  refine wp_mono (?_ : Code.wp _ _ (TuQ x A c ws w.heap.size W) _ _) ?_
  · refine wp_region_seg (S := fun w' => Below W.heap.size W w') 8 #[true, false, false, true, false, false, false, false, false, false] [(0, true), (3, true)] (by kernel_rfl) (by kernel_rfl) (fun _ _ _ _ _ h => by cases h.1) ((Below.refl W.heap.size W).drew) ?_
    refine seg_take (v := .slice A 64 c) rfl (Or.inl ⟨by rfl, fun w' hw' => by go_simp⟩) ?_
    try simp only [Act.put, List.setIfInBounds_toArray, List.set_cons_zero, List.set_cons_succ]
    refine seg_take (v := .agg (wsV x.l)) rfl (Or.inl ⟨by rfl, fun w' hw' => ex_loadP rfl rfl (load8 ((hw'.block _ (by omega)).trans H0.out) rfl)⟩) ?_
    try simp only [Act.put, List.setIfInBounds_toArray, List.set_cons_zero, List.set_cons_succ]
    refine seg_done (fun hS0 => ?_)
    refine wpAnyH_dp tuLst tuCand tuMu 3 (TuS x A c ws w.heap.size W) ?hB ?hstep ?hfin ?h0 5 (.k0, false, false, false) _ _ rfl ⟨0, 0, 0, rfl, fun e => (by cases e), fun e => (by cases e), fun e => (by cases e), fun e => (by cases e), fun e => (by cases e), fun e => (by cases e)⟩ hS0
    case hB =>
      rintro ⟨k, b5, b6, b7⟩
      cases k <;> cases b5 <;> cases b6 <;> cases b7 <;> first | exact Or.inl rfl | exact Or.inr (by kernel_rfl)
    case h0 =>
      rintro ⟨k, b5, b6, b7⟩ h
      cases k <;> cases b5 <;> cases b6 <;> cases b7 <;> first | rfl | cases h
    case hfin =>
      rintro ⟨k, b5, b6, b7⟩ a w' hc ⟨g5, g6, g7, rfl, hD⟩ hS
      obtain ⟨rfl, rfl, rfl, rfl⟩ : k = .k2 ∧ b5 = true ∧ b6 = true ∧ b7 = true := by
        cases k <;> cases b5 <;> cases b6 <;> cases b7 <;> first | exact ⟨rfl, rfl, rfl, rfl⟩ | cases hc
      obtain ⟨h5, h6, h7, d56, d57, d67⟩ := hD
      obtain ⟨r5, l5, u5⟩ := h5 rfl
      obtain ⟨r6, l6, u6⟩ := h6 rfl
      obtain ⟨r7, l7, u7⟩ := h7 rfl
      have d56 := d56 rfl rfl
      have d57 := d57 rfl rfl
      have d67 := d67 rfl rfl
      have b5w : Below W.heap.size W (w'.setRow g5 (wsV ws)) := below_setRow hS l5 _
      have r6w : (w'.setRow g5 (wsV ws)).heap[g6]? = some (.cells (wsV z64) 162 (0, 0)) := (setRow_other _ _ _ _ (Ne.symm d56)).trans r6
      have r7w : (w'.setRow g5 (wsV ws)).heap[g7]? = some (.cells (wsV z8) 127 (0, 0)) := (setRow_other _ _ _ _ (Ne.symm d57)).trans r7
      have r5w : (w'.setRow g5 (wsV ws)).heap[g5]? = some (.cells (wsV ws) 162 (0, 0)) := setRow_heap _ _ _ (wsV ws) _ _ r5
      generalize hV1 : w'.setRow g5 (wsV ws) = V1 at *
      have zV1 : V1.heap.size = w'.heap.size := by rw [← hV1]; simp
      have b6w : Below W.heap.size W (V1.setRow g6 (wsV shK)) := below_setRow b5w l6 _
      have r7x : (V1.setRow g6 (wsV shK)).heap[g7]? = some (.cells (wsV z8) 127 (0, 0)) := (setRow_other _ _ _ _ (Ne.symm d67)).trans r7w
      have r5x : (V1.setRow g6 (wsV shK)).heap[g5]? = some (.cells (wsV ws) 162 (0, 0)) := (setRow_other _ _ _ _ d56).trans r5w
      have r6x : (V1.setRow g6 (wsV shK)).heap[g6]? = some (.cells (wsV shK) 162 (0, 0)) := setRow_heap _ _ _ (wsV shK) _ _ r6w
      generalize hV2 : V1.setRow g6 (wsV shK) = V2 at *
      have zV2 : V2.heap.size = V1.heap.size := by rw [← hV2]; simp
      have b7w : Below W.heap.size W (V2.setRow g7 (wsV x.l)) := below_setRow b6w l7 _
      refine wpAnyH_seg (by kernel_rfl) (fun _ _ _ _ _ h => by cases h.1) 0 #[true, true, true, true, true, true, true, true, true, true] [(7, false), (8, false), (9, false)] _ _ _ (by kernel_rfl) hS ?_
      refine seg_run rfl (fun K hK => ?_)
      rw [if_pos (by rfl)]
      refine wp_store_row 162 _ _ rfl g5 (wsV ws) rfl rfl 162 (wsV z64) r5 (info64 ws HWL.out) (by rw [wsV_size, wsV_size, HWL.out]; rfl) (wsV_one ws) ?_
      rw [hV1]
      refine hK.out _ _ b5w ?_
      refine seg_run rfl (fun K hK => ?_)
      rw [if_pos (by rfl)]
      refine wp_store_row 162 _ _ rfl g6 (wsV shK) rfl rfl 162 (wsV z64) r6w (info64 shK rfl) (by rw [wsV_size, wsV_size]; rfl) (wsV_one shK) ?_
      rw [hV2]
      refine hK.out _ _ b6w ?_
      refine seg_run rfl (fun K hK => ?_)
      rw [if_pos (by rfl)]
      refine wp_store_row 127 _ _ rfl g7 (wsV x.l) rfl rfl 127 (wsV z8) r7x (info8 x.l rfl) (by rw [wsV_size, wsV_size]; rfl) (wsV_one x.l) ?_
      refine hK.out _ _ b7w ?_
      refine seg_done (fun _ => ?_)
      refine wpAnyH_done (by kernel_rfl) ?_ _
      exact ⟨rfl, g5, g6, g7, rfl, (setRow_other _ _ _ _ d57).trans r5x, (setRow_other _ _ _ _ d67).trans r6x, setRow_heap _ _ _ (wsV x.l) _ _ r7x, l5, l6, l7, d57, d67, by simp; omega, b7w⟩
    case hstep =>
      rintro ⟨k, b5, b6, b7⟩ a w' ⟨g5, g6, g7, rfl, hD⟩ hS p hp
      simp only [tuCand, List.mem_append] at hp
      rcases hp with hp | hp | hp | hp
      · cases k with
        | k0 =>
          obtain rfl := List.mem_singleton.1 hp
          refine op_run rfl (fun K hK => ?_)
          rw [if_pos (by rfl)]
          go_simp
          refine (HCW.out w' hS).mono ?_
          rintro e w2 ⟨rfl, hb2⟩
          refine hK.out _ _ (below_then hS hb2) ⟨g5, g6, g7, rfl, hD.below hb2⟩
        | k1 =>
          obtain rfl := List.mem_singleton.1 hp
          refine op_run rfl (fun K hK => ?_)
          rw [if_pos (by rfl)]
          go_simp
          refine (refK_any w').mono ?_
          rintro e w2 ⟨rfl, hb2⟩
          refine hK.out _ _ (below_then hS hb2) ⟨g5, g6, g7, rfl, hD.below hb2⟩
        | k2 => cases hp
      · cases b5 with
        | true => cases hp
        | false =>
          obtain rfl := List.mem_singleton.1 hp
          refine op_run rfl (fun K hK => ?_)
          rw [if_pos (by rfl)]
          refine op_new #[.int .u32 0, .int .u32 0, .int .u32 0, .int .u32 0, .int .u32 0, .int .u32 0, .int .u32 0, .int .u32 0, .int .u32 0, .int .u32 0, .int .u32 0, .int .u32 0, .int .u32 0, .int .u32 0, .int .u32 0, .int .u32 0, .int .u32 0, .int .u32 0, .int .u32 0, .int .u32 0, .int .u32 0, .int .u32 0, .int .u32 0, .int .u32 0, .int .u32 0, .int .u32 0, .int .u32 0, .int .u32 0, .int .u32 0, .int .u32 0, .int .u32 0, .int .u32 0, .int .u32 0, .int .u32 0, .int .u32 0, .int .u32 0, .int .u32 0, .int .u32 0, .int .u32 0, .int .u32 0, .int .u32 0, .int .u32 0, .int .u32 0, .int .u32 0, .int .u32 0, .int .u32 0, .int .u32 0, .int .u32 0, .int .u32 0, .int .u32 0, .int .u32 0, .int .u32 0, .int .u32 0, .int .u32 0, .int .u32 0, .int .u32 0, .int .u32 0, .int .u32 0, .int .u32 0, .int .u32 0, .int .u32 0, .int .u32 0, .int .u32 0, .int .u32 0] 162 (fun w => by go_simp) ?_
          intro g w2 eg hr2 hb2 hz2
          refine hK.out _ _ (below_then hS hb2) ⟨g, g6, g7, rfl, hD.new5 hb2 hS eg (by rw [z64_V]; exact hr2) hz2⟩
      · cases b6 with
        | true => cases hp
        | false =>
          obtain rfl := List.mem_singleton.1 hp
          refine op_run rfl (fun K hK => ?_)
          rw [if_pos (by rfl)]
          refine op_new #[.int .u32 0, .int .u32 0, .int .u32 0, .int .u32 0, .int .u32 0, .int .u32 0, .int .u32 0, .int .u32 0, .int .u32 0, .int .u32 0, .int .u32 0, .int .u32 0, .int .u32 0, .int .u32 0, .int .u32 0, .int .u32 0, .int .u32 0, .int .u32 0, .int .u32 0, .int .u32 0, .int .u32 0, .int .u32 0, .int .u32 0, .int .u32 0, .int .u32 0, .int .u32 0, .int .u32 0, .int .u32 0, .int .u32 0, .int .u32 0, .int .u32 0, .int .u32 0, .int .u32 0, .int .u32 0, .int .u32 0, .int .u32 0, .int .u32 0, .int .u32 0, .int .u32 0, .int .u32 0, .int .u32 0, .int .u32 0, .int .u32 0, .int .u32 0, .int .u32 0, .int .u32 0, .int .u32 0, .int .u32 0, .int .u32 0, .int .u32 0, .int .u32 0, .int .u32 0, .int .u32 0, .int .u32 0, .int .u32 0, .int .u32 0, .int .u32 0, .int .u32 0, .int .u32 0, .int .u32 0, .int .u32 0, .int .u32 0, .int .u32 0, .int .u32 0] 162 (fun w => by go_simp) ?_
          intro g w2 eg hr2 hb2 hz2
          refine hK.out _ _ (below_then hS hb2) ⟨g5, g, g7, rfl, hD.new6 hb2 hS eg (by rw [z64_V]; exact hr2) hz2⟩
      · cases b7 with
        | true => cases hp
        | false =>
          obtain rfl := List.mem_singleton.1 hp
          refine op_run rfl (fun K hK => ?_)
          rw [if_pos (by rfl)]
          refine op_new #[.int .u32 0, .int .u32 0, .int .u32 0, .int .u32 0, .int .u32 0, .int .u32 0, .int .u32 0, .int .u32 0] 127 (fun w => by go_simp) ?_
          intro g w2 eg hr2 hb2 hz2
          refine hK.out _ _ (below_then hS hb2) ⟨g5, g6, g, rfl, hD.new7 hb2 hS eg (by rw [z8_V]; exact hr2) hz2⟩
  rintro _ _ w1 ⟨rfl, g5, g6, g7, rfl, q5, q6, q7, l5, l6, l7, d57, d67, u7, bw1⟩
  dsimp only [tuF, ptrV]
  have BW1 : Below w.heap.size w w1 := below_then bW bw1
  have q0 := (bw1.block w.heap.size (by omega)).trans H0.out
  have q1 := (bw1.block (w.heap.size + 1) (by omega)).trans H1.out
  have hg5 : w.heap.size + 1 < g5 := by omega
  have hg6 : w.heap.size + 1 < g6 := by omega
  have hg7 : w.heap.size + 1 < g7 := by omega
  clear l5 l6 l7 HCW hrW H0 H1 bw1 E2
  go_wp2_with fail
  go_loopw [8, 9, 10, 11, 12] (fun v _ _ _ _ wr => RuI w x g5 g6 g7 ws v wr) (fun i _ _ _ _ _ => 64 - (intOf i).toNat)
  case atStart => exact ⟨0, by omega, rfl, ⟨q0, q1, q5, q6, q7, u7⟩, BW1⟩
  case round =>
    clear q0 q1 q5 q6 q7 u7 BW1
    obtain ⟨k, hk, rfl, ⟨q0, q1, q5, q6, q7, u7⟩, BR⟩ := hrel
    by_cases hlt : k < 64
    · have hnx : shRounds ws x (k + 1) = shStep (shK.getD k 0) (ws.getD k 0) (shRounds ws x k) := rfl
      have hy := shRounds_ok ws HX.out k
      have cW := (cell_of_row wr _ k _ _ _ q5).trans (wsV_get ws k (by rw [HWL.out]; exact hlt))
      have cK := (cell_of_row wr _ k _ _ _ q6).trans (wsV_get shK k (show k < shK.length from hlt))
      have hkk : shK.getD k 0 < 4294967296 := shK_lt k
      have hwk : ws.getD k 0 < 4294967296 := by
        have hl := HWL.out
        rw [List.getD, List.getElem?_eq_getElem (by omega)]
        exact HWT.out _ (List.getElem_mem (by omega))
      generalize shRounds ws x k = y at *
      generalize ws.getD k 0 = wk at *
      generalize shK.getD k 0 = kk at *
      obtain ⟨a, b, c9, d, e, f, g, h⟩ := y
      obtain ⟨ha, hb, hc9, hd, he, hf, hg, hh⟩ := hy
      simp only at ha hb hc9 hd he hf hg hh
      have ca := (cell_of_row wr _ 0 _ _ _ q7).trans (show (wsV (H8.l ⟨a, b, c9, d, e, f, g, h⟩))[0]? = some (.int .u32 (a : Int)) from rfl)
      have cb := (cell_of_row wr _ 1 _ _ _ q7).trans (show (wsV (H8.l ⟨a, b, c9, d, e, f, g, h⟩))[1]? = some (.int .u32 (b : Int)) from rfl)
      have cc := (cell_of_row wr _ 2 _ _ _ q7).trans (show (wsV (H8.l ⟨a, b, c9, d, e, f, g, h⟩))[2]? = some (.int .u32 (c9 : Int)) from rfl)
      have cd := (cell_of_row wr _ 3 _ _ _ q7).trans (show (wsV (H8.l ⟨a, b, c9, d, e, f, g, h⟩))[3]? = some (.int .u32 (d : Int)) from rfl)
      have ce := (cell_of_row wr _ 4 _ _ _ q7).trans (show (wsV (H8.l ⟨a, b, c9, d, e, f, g, h⟩))[4]? = some (.int .u32 (e : Int)) from rfl)
      have cf := (cell_of_row wr _ 5 _ _ _ q7).trans (show (wsV (H8.l ⟨a, b, c9, d, e, f, g, h⟩))[5]? = some (.int .u32 (f : Int)) from rfl)
      have cg := (cell_of_row wr _ 6 _ _ _ q7).trans (show (wsV (H8.l ⟨a, b, c9, d, e, f, g, h⟩))[6]? = some (.int .u32 (g : Int)) from rfl)
      have ch := (cell_of_row wr _ 7 _ _ _ q7).trans (show (wsV (H8.l ⟨a, b, c9, d, e, f, g, h⟩))[7]? = some (.int .u32 (h : Int)) from rfl)
      have hst : shStep kk wk ⟨a, b, c9, d, e, f, g, h⟩ = ⟨((h + shMix e [6, 11, 25] + shCh e f g + kk + wk) % 4294967296 + (shMix a [2, 13, 22] + shMaj a b c9) % 4294967296) % 4294967296, a, b, c9, (d + (h + shMix e [6, 11, 25] + shCh e f g + kk + wk) % 4294967296) % 4294967296, e, f, g⟩ := rfl
      rw [shMix3, shMix3, ← ch_ref he hg, ← maj_ref] at hst
      have t1 := ror_lt 6 he
      have t2 := ror_lt 11 he
      have t3 := ror_lt 25 he
      have t4 := ror_lt 2 ha
      have t5 := ror_lt 13 ha
      have t6 := ror_lt 22 ha
      have K1 := Lib.hid (fun W => refRot_any e 6 W he (by omega) (by omega))
      have K2 := Lib.hid (fun W => refRot_any e 11 W he (by omega) (by omega))
      have K3 := Lib.hid (fun W => refRot_any e 25 W he (by omega) (by omega))
      have K4 := Lib.hid (fun W => refRot_any a 2 W ha (by omega) (by omega))
      have K5 := Lib.hid (fun W => refRot_any a 13 W ha (by omega) (by omega))
      have K6 := Lib.hid (fun W => refRot_any a 22 W ha (by omega) (by omega))
      generalize ror e 6 = e6 at *
      generalize ror e 11 = e11 at *
      generalize ror e 25 = e25 at *
      generalize ror a 2 = a2 at *
      generalize ror a 13 = a13 at *
      generalize ror a 22 = a22 at *
      have x1 := u32_xor_nat e6 e11 t1 t2
      have x1l := xor_lt32 t1 t2
      generalize e6 ^^^ e11 = e611 at *
      have x2 := u32_xor_nat e611 e25 x1l t3
      have x2l := xor_lt32 x1l t3
      generalize e611 ^^^ e25 = m1 at *
      have x3 := u32_xor_nat a2 a13 t4 t5
      have x3l := xor_lt32 t4 t5
      generalize a2 ^^^ a13 = a213 at *
      have x4 := u32_xor_nat a213 a22 x3l t6
      have x4l := xor_lt32 x3l t6
      generalize a213 ^^^ a22 = m2 at *
      obtain ⟨ne, hne⟩ : ∃ n, n = 4294967295 - e := ⟨_, rfl⟩
      have hnel : ne < 4294967296 := by omega
      have hneI : bits .xor .u32 IntKind.u32.max (e : Int) = (ne : Int) := by
        have := u32_xor_nat 4294967295 e (by omega) he
        rw [Nat.xor_comm, ← not_xor he, ← hne] at this
        exact this
      rw [← hne] at hst
      have y1 := u32_and_nat e f he hf
      have y1l := and_lt32 (b := f) he
      have y2 := u32_and_nat ne g hnel hg
      have y2l := and_lt32 (b := g) hnel
      generalize e &&& f = ef at *
      generalize ne &&& g = eg at *
      have y3 := u32_xor_nat ef eg y1l y2l
      have y3l := xor_lt32 y1l y2l
      generalize ef ^^^ eg = chv at *
      have z1 := u32_and_nat a b ha hb
      have z1l := and_lt32 (b := b) ha
      have z2 := u32_and_nat a c9 ha hc9
      have z2l := and_lt32 (b := c9) ha
      have z3 := u32_and_nat b c9 hb hc9
      have z3l := and_lt32 (b := c9) hb
      generalize a &&& b = ab at *
      generalize a &&& c9 = ac at *
      generalize b &&& c9 = bc at *
      have z4 := u32_xor_nat ab ac z1l z2l
      have z4l := xor_lt32 z1l z2l
      generalize ab ^^^ ac = abc at *
      have z5 := u32_xor_nat abc bc z4l z3l
      have z5l := xor_lt32 z4l z3l
      generalize abc ^^^ bc = mj at *
      obtain ⟨T, hT⟩ : ∃ T, (h + m1 + chv + kk + wk) % 4294967296 = T := ⟨_, rfl⟩
      obtain ⟨U, hU⟩ : ∃ T, (m2 + mj) % 4294967296 = T := ⟨_, rfl⟩
      rw [hT, hU] at hst
      obtain ⟨p1, hp1⟩ : ∃ p, p = (h + m1) % 4294967296 := ⟨_, rfl⟩
      obtain ⟨p2, hp2⟩ : ∃ p, p = (p1 + chv) % 4294967296 := ⟨_, rfl⟩
      obtain ⟨p3, hp3⟩ : ∃ p, p = (p2 + kk) % 4294967296 := ⟨_, rfl⟩
      obtain ⟨TU, hTU⟩ : ∃ p, (T + U) % 4294967296 = p := ⟨_, rfl⟩
      obtain ⟨dT, hdT⟩ : ∃ p, (d + T) % 4294967296 = p := ⟨_, rfl⟩
      rw [hTU, hdT] at hst
      have v1 : IntKind.u32.wrap ((h : Int) + (m1 : Int)) = (p1 : Int) := by rw [IntKind.wrap_u32]; omega
      have v2 : IntKind.u32.wrap ((p1 : Int) + (chv : Int)) = (p2 : Int) := by rw [IntKind.wrap_u32]; omega
      have v3 : IntKind.u32.wrap ((p2 : Int) + (kk : Int)) = (p3 : Int) := by rw [IntKind.wrap_u32]; omega
      have v4 : IntKind.u32.wrap ((p3 : Int) + (wk : Int)) = (T : Int) := by rw [IntKind.wrap_u32]; omega
      have v5 : IntKind.u32.wrap ((m2 : Int) + (mj : Int)) = (U : Int) := by rw [IntKind.wrap_u32]; omega
      have v6 : IntKind.u32.wrap ((T : Int) + (U : Int)) = (TU : Int) := by rw [IntKind.wrap_u32]; omega
      have v7 : IntKind.u32.wrap ((d : Int) + (T : Int)) = (dT : Int) := by rw [IntKind.wrap_u32]; omega
      rw [hst] at hnx
      have HN := Lib.hid hnx
      have Q0 := Lib.hid q0
      have Q1 := Lib.hid q1
      have Q5 := Lib.hid q5
      have Q6 := Lib.hid q6
      have Q7 := Lib.hid q7
      have hk64 : (k : Int) < 64 := by omega
      have xr5 : g5 < wr.heap.size := (Array.getElem?_eq_some_iff.1 q5).1
      have xr6 : g6 < wr.heap.size := (Array.getElem?_eq_some_iff.1 q6).1
      clear hst hnx q0 q1 q5 q6 q7 hp1 hp2 hp3 hT hU hTU hdT t1 t2 t3 t4 t5 t6 x1l x2l x3l x4l y1l y2l y3l z1l z2l z3l z4l z5l hne hnel hkk hwk ha hb hc9 hd he hf hg hh
      go_wp2_with fail
      have HB := (Below.refl wr.heap.size wr).drew
      refine wp_region_plan (S := fun w' => Below wr.heap.size wr w') [(0, true), (1, true), (3, true), (4, true), (7, true), (8, true), (2, false), (5, false), (6, true), (9, false), (10, true), (11, true)] (by kernel_rfl) (by kernel_rfl) (fun _ _ d _ _ h => by cases d <;> exact h) ((Below.refl _ wr).drew) ?_
      iterate 6 (refine plan_take (v := ?_) rfl (Or.inl ⟨by rfl, ?_⟩) ?_; rotate_left; (focus (intro w' hw'; have je := (hw'.cell (p := ⟨g7, 4, none⟩) u7).trans ce; go_simp <;> with_reducible rfl)); try simp only [Act.put, List.setIfInBounds_toArray, List.set_cons_zero, List.set_cons_succ])
      refine plan_run rfl (fun K hK => ?_)
      go_simp
      refine (K1.out _).mono ?_
      rintro e_ w2 ⟨rfl, rfl⟩
      refine hK.out _ _ (HB) ?_
      clear hK
      try simp only [Act.put, List.setIfInBounds_toArray, List.set_cons_zero, List.set_cons_succ]
      refine plan_run rfl (fun K hK => ?_)
      go_simp
      refine (K2.out _).mono ?_
      rintro e_ w2 ⟨rfl, rfl⟩
      refine hK.out _ _ (HB) ?_
      clear hK
      try simp only [Act.put, List.setIfInBounds_toArray, List.set_cons_zero, List.set_cons_succ]
      iterate 1 (refine plan_take (v := ?_) rfl (Or.inl ⟨by rfl, ?_⟩) ?_; rotate_left; (focus (intro w' hw'; have je := (hw'.cell (p := ⟨g7, 4, none⟩) u7).trans ce; go_simp <;> with_reducible rfl)); try simp only [Act.put, List.setIfInBounds_toArray, List.set_cons_zero, List.set_cons_succ])
      refine plan_run rfl (fun K hK => ?_)
      go_simp
      refine (K3.out _).mono ?_
      rintro e_ w2 ⟨rfl, rfl⟩
      refine hK.out _ _ (HB) ?_
      clear hK
      try simp only [Act.put, List.setIfInBounds_toArray, List.set_cons_zero, List.set_cons_succ]
      iterate 2 (refine plan_take (v := ?_) rfl (Or.inl ⟨by rfl, ?_⟩) ?_; rotate_left; (focus (intro w' hw'; have je := (hw'.cell (p := ⟨g7, 4, none⟩) u7).trans ce; go_simp <;> with_reducible rfl)); try simp only [Act.put, List.setIfInBounds_toArray, List.set_cons_zero, List.set_cons_succ])
      refine plan_done ?_
      go_wp2_with fail
      refine wp_region_plan (S := fun w' => Below wr.heap.size wr w') [(0, true), (1, true), (2, true), (3, true), (4, true), (5, true), (6, true), (7, true), (8, true), (9, true), (10, true), (11, true), (12, true), (13, true), (14, true), (15, true), (16, true), (17, true), (18, true), (19, true), (20, true), (21, true), (22, true), (23, true), (24, true), (25, true)] (by kernel_rfl) (by kernel_rfl) (fun _ _ d _ _ h => by cases d <;> exact h) (HB.drew) ?_
      iterate 26 (refine plan_take (v := ?_) rfl (Or.inl ⟨by rfl, ?_⟩) ?_; rotate_left; (focus (intro w' hw'; have je := (hw'.cell (p := ⟨g7, 4, none⟩) u7).trans ce; have jf := (hw'.cell (p := ⟨g7, 5, none⟩) u7).trans cf; have jg := (hw'.cell (p := ⟨g7, 6, none⟩) u7).trans cg; have jh := (hw'.cell (p := ⟨g7, 7, none⟩) u7).trans ch; have jK := (hw'.cell (p := ⟨g6, k, none⟩) xr6).trans cK; have jW := (hw'.cell (p := ⟨g5, k, none⟩) xr5).trans cW; go_simp <;> with_reducible rfl)); try simp only [Act.put, List.setIfInBounds_toArray, List.set_cons_zero, List.set_cons_succ])
      refine plan_done ?_
      go_wp2_with fail
      have HB := HB.drew
      refine wp_region_plan (S := fun w' => Below wr.heap.size wr w') [(0, true), (1, true), (3, true), (4, true), (7, true), (8, true), (2, false), (5, false), (6, true), (9, false), (10, true), (11, true)] (by kernel_rfl) (by kernel_rfl) (fun _ _ d _ _ h => by cases d <;> exact h) (HB.drew) ?_
      iterate 6 (refine plan_take (v := ?_) rfl (Or.inl ⟨by rfl, ?_⟩) ?_; rotate_left; (focus (intro w' hw'; have ja := (hw'.cell (p := ⟨g7, 0, none⟩) u7).trans ca; go_simp <;> with_reducible rfl)); try simp only [Act.put, List.setIfInBounds_toArray, List.set_cons_zero, List.set_cons_succ])
      refine plan_run rfl (fun K hK => ?_)
      go_simp
      refine (K4.out _).mono ?_
      rintro e_ w2 ⟨rfl, rfl⟩
      refine hK.out _ _ (HB.drew) ?_
      clear hK
      try simp only [Act.put, List.setIfInBounds_toArray, List.set_cons_zero, List.set_cons_succ]
      refine plan_run rfl (fun K hK => ?_)
      go_simp
      refine (K5.out _).mono ?_
      rintro e_ w2 ⟨rfl, rfl⟩
      refine hK.out _ _ (HB.drew) ?_
      clear hK
      try simp only [Act.put, List.setIfInBounds_toArray, List.set_cons_zero, List.set_cons_succ]
      iterate 1 (refine plan_take (v := ?_) rfl (Or.inl ⟨by rfl, ?_⟩) ?_; rotate_left; (focus (intro w' hw'; have ja := (hw'.cell (p := ⟨g7, 0, none⟩) u7).trans ca; go_simp <;> with_reducible rfl)); try simp only [Act.put, List.setIfInBounds_toArray, List.set_cons_zero, List.set_cons_succ])
      refine plan_run rfl (fun K hK => ?_)
      go_simp
      refine (K6.out _).mono ?_
      rintro e_ w2 ⟨rfl, rfl⟩
      refine hK.out _ _ (HB.drew) ?_
      clear hK
      try simp only [Act.put, List.setIfInBounds_toArray, List.set_cons_zero, List.set_cons_succ]
      iterate 2 (refine plan_take (v := ?_) rfl (Or.inl ⟨by rfl, ?_⟩) ?_; rotate_left; (focus (intro w' hw'; have ja := (hw'.cell (p := ⟨g7, 0, none⟩) u7).trans ca; go_simp <;> with_reducible rfl)); try simp only [Act.put, List.setIfInBounds_toArray, List.set_cons_zero, List.set_cons_succ])
      refine plan_done ?_
      obtain ⟨V, hV⟩ : ∃ V, V = wr.drew.drew.drew := ⟨_, rfl⟩
      have bV : Below wr.heap.size wr V := by rw [hV]; exact HB.drew
      rw [← hV]
      have zV : g7 < V.heap.size := Nat.lt_of_lt_of_le u7 bV.size
      have ja := (bV.cell (p := ⟨g7, 0, none⟩) u7).trans ca
      have jb := (bV.cell (p := ⟨g7, 1, none⟩) u7).trans cb
      have jc := (bV.cell (p := ⟨g7, 2, none⟩) u7).trans cc
      have jd := (bV.cell (p := ⟨g7, 3, none⟩) u7).trans cd
      have je := (bV.cell (p := ⟨g7, 4, none⟩) u7).trans ce
      have jf := (bV.cell (p := ⟨g7, 5, none⟩) u7).trans cf
      have jg := (bV.cell (p := ⟨g7, 6, none⟩) u7).trans cg
      have Q0V := Lib.hid ((bV.block _ (by omega)).trans Q0.out)
      have Q1V := Lib.hid ((bV.block _ (by omega)).trans Q1.out)
      have Q5V := Lib.hid ((bV.block _ xr5).trans Q5.out)
      have Q6V := Lib.hid ((bV.block _ xr6).trans Q6.out)
      have Q7V := Lib.hid ((bV.block _ u7).trans Q7.out)
      have BV := BR.trans (bV.mono BR.size)
      clear hV ca cb cc cd ce cf cg ch cK cW HB Q0 Q1 Q5 Q6 Q7
      go_wp2_with (refine w8_store rfl _ _ rfl g7 rfl [TU, a, b, c9, dT, e, f, g] _ rfl 127 Q7V.out rfl rfl ?_)
      go_roundw
      case rel =>
        refine ⟨k + 1, by omega, by go_num, ⟨(setRow_other _ _ _ _ (by omega)).trans Q0V.out, (setRow_other _ _ _ _ (by omega)).trans Q1V.out, (setRow_other _ _ _ _ d57).trans Q5V.out, (setRow_other _ _ _ _ d67).trans Q6V.out, ?_, by simp; exact zV⟩, below_setRow BV (by omega) _⟩
        rw [HN.out]
        exact setRow_heap _ _ _ (wsV [TU, a, b, c9, dT, e, f, g]) _ _ Q7V.out
      case measure => simp [intOf]; omega
    · obtain rfl : k = 64 := by omega
      rw [show ((64 : Nat) : Int) = 64 from rfl]
      have hy := shRounds_ok ws HX.out 64
      generalize shRounds ws x 64 = y at *
      have hxo := HX.out
      have HYO := Lib.hid hy
      clear hy
      go_wp2_with fail
      go_loopw [13] (fun v wr => RuK w x y g5 g6 g7 ws v wr) (fun i _ => 8 - (intOf i).toNat)
      case atStart => exact ⟨0, by omega, rfl, ⟨q0, q1, q5, q6, by rw [adP_zero]; exact q7, u7⟩, BR⟩
      case round =>
        clear q0 q1 q5 q6 q7 u7 BR
        obtain ⟨k, hk, rfl, ⟨q0, q1, q5, q6, q7, u7⟩, BR⟩ := hrel
        by_cases hlt : k < 8
        · obtain ⟨s1, s2⟩ := adP_step y x k hlt
          have c7 := (cell_of_row wr _ k _ _ _ q7).trans (wsV_get _ k (by rw [adP_len _ _ _ (by omega)]; exact hlt))
          have c0 := (cell_of_row wr _ k _ _ _ q0).trans (wsV_get _ k hlt)
          have lx := H8.l_lt hxo k
          have ly := H8.l_lt HYO.out k
          rw [s1] at c7
          generalize x.l.getD k 0 = xk at *
          generalize y.l.getD k 0 = yk at *
          have fz : wr.frozen? ⟨g7, k, none⟩ = false := frozen_of_row _ _ _ _ _ q7
          have S2 := Lib.hid s2
          have Q0 := Lib.hid q0
          have Q1 := Lib.hid q1
          have Q5 := Lib.hid q5
          have Q6 := Lib.hid q6
          have Q7 := Lib.hid q7
          have k8 : (k : Int) < 8 := by omega
          obtain ⟨V, hV⟩ : ∃ V, V = (yk + xk) % 4294967296 := ⟨_, rfl⟩
          have v1 : IntKind.u32.wrap ((yk : Int) + (xk : Int)) = (V : Int) := by rw [IntKind.wrap_u32]; omega
          rw [← hV] at S2
          have zr : w.heap.size < wr.heap.size := by omega
          clear s1 s2 q0 q1 q5 q6 q7 hV hxo
          go_wp2_with fail
          refine wp_region_last (S := fun w' => Below wr.heap.size wr w') 9 #[true, true, true, true, true, true, true, true, true, false] [(0, true), (1, true), (2, true), (3, true), (4, true), (5, true), (6, true), (7, true), (8, true)] (by kernel_rfl) (by kernel_rfl) (fun _ _ d _ _ h => by cases d <;> exact h) ((Below.refl _ wr).drew) ?_
          iterate 9 (refine seg_take (v := ?_) rfl (Or.inl ⟨by rfl, ?_⟩) ?_; rotate_left; (focus (intro w' hw'; have j2 := (hw'.cell (p := ⟨w.heap.size, k, none⟩) zr).trans c0; have j6 := (hw'.cell (p := ⟨g7, k, none⟩) u7).trans c7; go_simp <;> with_reducible rfl)); try simp only [Act.put, List.setIfInBounds_toArray, List.set_cons_zero, List.set_cons_succ])
          refine seg_done ?_
          refine last_run rfl (fun K hK => ?_)
          go_simp
          go_simp
          refine hK.out _ _ ?_
          clear hK
          try simp only [Act.put, List.setIfInBounds_toArray, List.set_cons_zero, List.set_cons_succ]
          go_wp2_with fail
          go_roundw
          case rel =>
            refine ⟨k + 1, by omega, by go_num, ⟨?_, ?_, ?_, ?_, ?_, by simp [World.setCell]; exact u7⟩, (BR.setCell (p := ⟨g7, k, none⟩) (by show w.heap.size ≤ g7; omega) _).drew⟩
            · show (wr.setCell ⟨g7, k, none⟩ _).heap[w.heap.size]? = _
              rw [Below.heap_setCell _ _ _ _ (by show w.heap.size ≠ g7; omega)]; exact Q0.out
            · show (wr.setCell ⟨g7, k, none⟩ _).heap[w.heap.size + 1]? = _
              rw [Below.heap_setCell _ _ _ _ (by show w.heap.size + 1 ≠ g7; omega)]; exact Q1.out
            · show (wr.setCell ⟨g7, k, none⟩ _).heap[g5]? = _
              rw [Below.heap_setCell _ _ _ _ d57]; exact Q5.out
            · show (wr.setCell ⟨g7, k, none⟩ _).heap[g6]? = _
              rw [Below.heap_setCell _ _ _ _ d67]; exact Q6.out
            · show (wr.setCell ⟨g7, k, none⟩ _).heap[g7]? = _
              rw [setc_rowT Q7.out, wsV_set, S2.out]
          case measure => simp [intOf]; omega
        · obtain rfl : k = 8 := by omega
          rw [adP_all, H8.add_comm] at q7
          have Q7 := Lib.hid q7
          have Q1 := Lib.hid q1
          clear q0 q1 q5 q6 q7
          go_wp2_with (first
            | (refine w8_load rfl _ rfl g7 rfl (x.add y).l 127 Q7.out rfl ?_)
            | (refine w8_store rfl _ _ rfl (w.heap.size + 1) rfl (x.add y).l z8 rfl 127 Q1.out rfl rfl ?_))
          refine bodyPost_ret (results_cell_row Try.results89 _ _ (w.heap.size + 1) 127 (wsV (x.add y).l) (0, 0) _ rfl (setRow_heap _ _ _ (wsV (x.add y).l) _ _ Q1.out) Try.underlying127 rfl (info8 (x.add y).l rfl)) rfl ?_
          exact ⟨rfl, below_setRow BR (by omega) _⟩
theorem refTurn_any (x : H8) (A : Option Addr) (n c : Nat) (xs : List UInt8) (w : World) (hx : x.ok) (hr : RdB w A n c xs) :
    Calls Try.prog 89 #[.agg (wsV x.l), .slice A n c] w (RetW w (shTurn x xs).l) := by
  by_cases h : n = 64
  · subst h; exact refTurn_long x A c xs w hx hr
  · exact refTurn_short x A n c xs w hr h
end Go.Proofs.Ytnfepikgbdeomaa
