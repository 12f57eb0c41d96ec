/-
  Layer 7: rings: Return's inner function.
-/
import Derived.Test.YtnfepikgbdeomaaRingH
import Derived.Test.YtnfepikgbdeomaaRingP
namespace Go.Proofs.Ytnfepikgbdeomaa
set_option maxRecDepth 20000
open Go.RowKit
set_option linter.unusedVariables false
set_option linter.unusedSimpArgs false
set_option maxHeartbeats 4000000

theorem ringReturn1_any (g gd g2 g3 g4 g5 : Nat) (A : Option Addr) (n c : Nat) (xs : List UInt8) (at_ b k : Int) (i u v : Nat) (m0 : Value) (w : World) (hf : FdAt w g A n c at_) (hr : RdB w A n c xs) (hA : Old A g5) (ha : 0 ≤ at_ ∧ at_ ≤ 90000) (hb : 0 ≤ b ∧ b ≤ 90000) (hk : rgN k) (hi : i < 65536) (hu : u < 4294967296) (hv : v < 4294967296)
    (qd : w.heap[gd]? = some (.cells #[.int .u32 (u : Int), .int .u32 (v : Int)] 25 (0, 0))) (q2 : BoxAt w g2 3 (.int .i64 b)) (q3 : BoxAt w g3 3 (.int .i64 k)) (q4 : BoxAt w g4 22 (.int .u16 (i : Int))) (q5 : BoxAt w g5 28 m0)
    (ld : gd < g) (l2 : g2 < g) (l3 : g3 < g) (l4 : g4 < g) (l5 : g5 < g) :
    Calls Try.prog 68 #[.pointer (some ⟨g, 0, none⟩), .pointer (some ⟨gd, 0, none⟩), .pointer (some ⟨g2, 0, none⟩), .pointer (some ⟨g3, 0, none⟩), .pointer (some ⟨g4, 0, none⟩), .pointer (some ⟨g5, 0, none⟩)] w fun e w' => e = .returned (.tuple #[]) ∧ MmBox g g5 n A (memPutN (memPutN (memPutN xs at_ 4 u) (at_ + 4) 4 v) (b + rgBack k + 2) 2 ((i + 1) % 65536)) w w' := by
  have hoff : Off A g := fun a e => by have := hA a e; omega
  have wu := w64n (k := u) (by omega)
  have wv := w64n (k := v) (by omega)
  have hbk := rgBack_le hk
  have cu0 := (cell_of_row w gd 0 _ _ _ qd).trans (show (#[.int .u32 (u : Int), .int .u32 (v : Int)] : Array Value)[0]? = some (.int .u32 (u : Int)) from rfl)
  have cu1 := (cell_of_row w gd 1 _ _ _ qd).trans (show (#[.int .u32 (u : Int), .int .u32 (v : Int)] : Array Value)[1]? = some (.int .u32 (v : Int)) from rfl)
  have gs := hf.lt
  have gs5 : g5 < w.heap.size := by omega
  have HPut0 := Lib.hid (fput_any g A n c xs at_ 4 u w hf hr hoff (by omega) (by omega) (by omega))
  obtain ⟨ys0, hys0⟩ : ∃ ys, memPutN xs at_ 4 u = ys := ⟨_, rfl⟩
  rw [hys0] at HPut0 ⊢
  have HPut1 := Lib.hid (fun A' c' W h1 h2 h3 => fput_any g A' n c' ys0 (at_ + 4) 4 v W h1 h2 h3 (by omega) (by omega) (by omega))
  obtain ⟨ys1, hys1⟩ : ∃ ys, memPutN ys0 (at_ + 4) 4 v = ys := ⟨_, rfl⟩
  rw [hys1] at HPut1 ⊢
  obtain ⟨bk, hbk2⟩ : ∃ bk, bk = rgBack k := ⟨_, rfl⟩
  rw [← hbk2] at hbk ⊢
  have HN := Lib.hid (fun A' c' at2 W h1 h2 h3 => fnext_any g A' n c' ys1 at2 b bk i W h1 h2 h3 (by omega) (by omega) hi)
  obtain ⟨zs, hzs⟩ : ∃ zs, memPutN ys1 (b + bk + 2) 2 ((i + 1) % 65536) = zs := ⟨_, rfl⟩
  rw [hzs] at HN ⊢
  have HK := Lib.hid hk
  have HBK := Lib.hid hbk2
  clear hys0 hys1 hzs hf hr hbk2 qd
  go_enter Try.func68, Try.ntmps68
  go_wp2_with fail
  refine HPut0.out.mono ?_
  rintro e w2 ⟨rfl, A2, c2, f2, r2, o2, far2, b2⟩
  have X2 := b2
  have fa2 : A2 = A ∨ ∀ a, A2 = some a → w.heap.size ≤ a.block := far2
  have cd2 := (X2.cell (p := ⟨gd, 1, none⟩) ld).trans cu1
  clear cu0
  go_wp2_with fail
  refine (HPut1.out A2 c2 _ f2 r2 o2).mono ?_
  rintro e w3 ⟨rfl, A3, c3, f3, r3, o3, far3, b3⟩
  have X3 := X2.trans b3
  have fa3 : A3 = A ∨ ∀ a, A3 = some a → w.heap.size ≤ a.block := by
    rcases far3 with rfl | h
    · exact fa2
    · exact .inr fun a e => by have := h a e; have := X2.size; omega
  have p2 := q2.below X3 l2
  have p3 := q3.below X3 l3
  have p4 := q4.below X3 l4
  have p5 := q5.below X3 l5
  have d2 := p2.c
  have d3 := p3.c
  have d4 := p4.c
  go_wp2_with fail
  refine wp_region_seg (S := fun w' => Below g w3 w') 0 #[true, true, true, true, true, true] [(0, true), (1, true), (2, true), (4, true), (3, false), (5, false)] (by kernel_rfl) (by kernel_rfl) (fun _ _ d _ _ h => by first | (cases d <;> exact h) | cases h.1) ((Below.refl g w3).drew) ?_
  have HB := (Below.refl g w3).drew
  iterate 4 (refine seg_take (v := ?_) rfl (Or.inl ⟨by rfl, ?_⟩) ?_; rotate_left; (focus (intro w' hw'; have j2 := (hw'.cell (p := ⟨g2, 0, none⟩) l2).trans d2; have j3 := (hw'.cell (p := ⟨g3, 0, none⟩) l3).trans d3; have j4 := (hw'.cell (p := ⟨g4, 0, none⟩) l4).trans d4; go_simp <;> with_reducible rfl)); try simp only [Act.put, List.setIfInBounds_toArray, List.set_cons_zero, List.set_cons_succ])
  refine seg_run rfl (fun K hK => ?_)
  go_simp
  refine (ringBack_any k _).mono ?_
  rintro e_ wx ⟨z1, rfl, hz1, rfl⟩
  rw [hz1 HK.out, ← HBK.out]
  clear hz1
  refine hK.out _ _ (HB) ?_
  clear hK
  try simp only [Act.put, List.setIfInBounds_toArray, List.set_cons_zero, List.set_cons_succ]
  refine seg_run rfl (fun K hK => ?_)
  go_simp
  have HX := (Below.refl w3.heap.size w3).drew
  refine (HN.out A3 c3 _ _ (f3.below HX) (r3.below HX) o3).mono ?_
  rintro e_ w4 ⟨rfl, A4, c4, f4, r4, o4, far4, b4⟩
  have HB := HB.trans b4
  refine hK.out _ _ (HB) ?_
  clear hK
  try simp only [Act.put, List.setIfInBounds_toArray, List.set_cons_zero, List.set_cons_succ]
  refine seg_done (fun _ => ?_)
  refine wpAnyH_done (by kernel_rfl) ?_ _
  have p53 := p5.below HB l5
  have s0 := f4.c0
  have s5 := p53.c
  have u5 := p53.f
  have XB := X3.trans HB
  go_wp2_with fail
  refine bodyPost_end (v := .tuple #[]) (by simp [results, Try.results68]) rfl ?_
  have fa4 : A4 = A ∨ ∀ a, A4 = some a → w.heap.size ≤ a.block := by
    rcases far4 with rfl | h
    · exact fa3
    · exact .inr fun a e => by have := h a e; have := X3.size; simp at *; omega
  have off5 : Off A4 g5 := fun a e => by
    rcases fa4 with rfl | h
    · have := hA a e; omega
    · have := h a e; omega
  exact ⟨rfl, A4, c4, (setc_rowT p53).trans rfl, rdB_off r4 off5 (by simp [World.setCell]) (fun j hj => Below.heap_setCell _ _ _ _ hj), fa4, (but_of XB).setCell _, (XB.mono (Nat.le_of_lt l5)).setCell (p := ⟨g5, 0, none⟩) (Nat.le_refl _) _⟩
end Go.Proofs.Ytnfepikgbdeomaa
