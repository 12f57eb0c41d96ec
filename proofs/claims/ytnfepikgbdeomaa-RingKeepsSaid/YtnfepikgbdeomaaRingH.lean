/-
  Layer 7: rings: the index behind an entry; Offer.
-/
import Derived.Test.YtnfepikgbdeomaaRingG
namespace Go.Proofs.Ytnfepikgbdeomaa
set_option maxRecDepth 20000
open Go.RowKit
set_option linter.unusedVariables false
set_option linter.unusedSimpArgs false
set_option maxHeartbeats 4000000

/-- What putting leaves: the fields, the new bytes, their place. -/
def FdPut (w : World) (g : Nat) (A : Option Addr) (n : Nat) (ys : List UInt8) (at_ : Int) (e : Ending) (w' : World) : Prop :=
  e = .returned (.tuple #[]) ∧ ∃ A' c', FdAt w' g A' n c' at_ ∧ RdB w' A' n c' ys ∧ Off A' g ∧ (A' = A ∨ ∀ a, A' = some a → w.heap.size ≤ a.block) ∧ Below g w w'
theorem fnext_any (g : Nat) (A : Option Addr) (n c : Nat) (xs : List UInt8) (at_ b p : Int) (i : Nat) (w : World) (hf : FdAt w g A n c at_) (hr : RdB w A n c xs) (ho : Off A g) (hb : 0 ≤ b ∧ b ≤ 100000) (hp : 0 ≤ p ∧ p ≤ 100000) (hi : i < 65536) :
    Calls Try.prog 67 #[.pointer (some ⟨g, 0, none⟩), .int .i64 b, .int .i64 p, .int .u16 (i : Int)] w (FdPut w g A n (memPutN xs (b + p + 2) 2 ((i + 1) % 65536)) (b + p + 2 + 2)) := by
  have c1 := hf.c1
  have fz := hf.fr 1
  obtain ⟨j, hj⟩ : ∃ j, j = (i + 1) % 65536 := ⟨_, rfl⟩
  rw [← hj]
  have hj6 : j < 65536 := by rw [hj]; exact Nat.mod_lt _ (by omega)
  have wj : IntKind.u16.wrap ((i : Int) + 1) = (j : Int) := by rw [IntKind.wrap_u16]; omega
  have wj2 := w64n (k := j) (by omega)
  obtain ⟨s, hs⟩ : ∃ s, s = b + p + 2 := ⟨_, rfl⟩
  rw [← hs]
  have hs0 : 0 ≤ s ∧ s ≤ 300000 := by omega
  obtain ⟨V, hV⟩ : ∃ V, V = w.setCell ⟨g, 1, none⟩ (.int .i64 s) := ⟨_, rfl⟩
  have fV : FdAt V g A n c s := by rw [hV]; exact (setc_rowT hf).trans rfl
  have rV : RdB V A n c xs := by rw [hV]; exact rdB_off hr ho (by simp [World.setCell]) (fun j hj => Below.heap_setCell _ _ _ _ hj)
  have bV : Below g w V := by rw [hV]; exact (Below.refl g w).setCell (p := ⟨g, 1, none⟩) (Nat.le_refl _) _
  have zV : V.heap.size = w.heap.size := by rw [hV]; simp [World.setCell]
  have HH := Lib.hid (fput_any g A n c xs s 2 j V fV rV ho (by omega) (by omega) (by omega))
  have HV := Lib.hid hV
  have HS := Lib.hid hs
  have s1 : b + p + 2 = s := hs.symm
  clear hj hV fV rV hr hf hs
  go_enter Try.func67, Try.ntmps67
  go_wp2_with fail
  rw [← HV.out]
  refine HH.out.mono ?_
  rintro e w2 ⟨rfl, A2, c2, h1, h2, h3, h4, h5⟩
  go_wp2_with fail
  refine bodyPost_end (v := .tuple #[]) (by simp [results, Try.results67]) rfl ?_
  exact ⟨rfl, A2, c2, h1, h2, h3, by rw [← zV]; exact h4, bV.trans h5⟩
/-- A box of one cell. -/
def BoxAt (w : World) (g : Nat) (T : TypeId) (v : Value) : Prop := w.heap[g]? = some (.cells #[v] T (0, 0))
theorem BoxAt.c {w : World} {g : Nat} {T : TypeId} {v : Value} (h : BoxAt w g T v) : w.cell? ⟨g, 0, none⟩ = some v := (cell_of_row w g 0 _ _ _ h).trans rfl
theorem BoxAt.f {w : World} {g : Nat} {T : TypeId} {v : Value} (h : BoxAt w g T v) : w.frozen? ⟨g, 0, none⟩ = false := frozen_of_row _ _ 0 _ _ h
theorem BoxAt.below {w w' : World} {g B : Nat} {T : TypeId} {v : Value} (h : BoxAt w g T v) (hb : Below B w w') (hg : g < B) : BoxAt w' g T v := (hb.block g hg).trans h
/-- All blocks below B but number g stay. -/
structure But (g B : Nat) (w w' : World) : Prop where
  size : w.heap.size ≤ w'.heap.size
  block : ∀ j, j < B → j ≠ g → w'.heap[j]? = w.heap[j]?
theorem but_of {g B : Nat} {w w' : World} (h : Below B w w') : But g B w w' := ⟨h.size, fun j hj _ => h.block j hj⟩
theorem But.trans {g B : Nat} {w w' w2 : World} (h : But g B w w') (k : But g B w' w2) : But g B w w2 := ⟨Nat.le_trans h.size k.size, fun j hj hn => (k.block j hj hn).trans (h.block j hj hn)⟩
theorem But.mono {g B B' : Nat} {w w' : World} (h : But g B w w') (hb : B' ≤ B) : But g B' w w' := ⟨h.size, fun j hj hn => h.block j (Nat.lt_of_lt_of_le hj hb) hn⟩
theorem But.setCell {g B i : Nat} {w w' : World} (h : But g B w w') (v : Value) : But g B w (w'.setCell ⟨g, i, none⟩ v) := ⟨by simpa [World.setCell] using h.size, fun j hj hn => (Below.heap_setCell _ _ _ _ hn).trans (h.block j hj hn)⟩
theorem But.cell {g B i j : Nat} {w w' : World} {v : Value} (h : But g B w w') (hj : j < B) (hn : j ≠ g) (hc : w.cell? ⟨j, i, none⟩ = some v) : w'.cell? ⟨j, i, none⟩ = some v := (World.cell?_of_block (h.block j hj hn)).trans hc
/-- What a closure that changes memory leaves: memory's box, its bytes, where they lie, what else stays. -/
def MmBox (g g5 n : Nat) (A : Option Addr) (ys : List UInt8) (w w' : World) : Prop :=
  ∃ A' c', BoxAt w' g5 28 (.slice A' n c') ∧ RdB w' A' n c' ys ∧ (A' = A ∨ ∀ a, A' = some a → w.heap.size ≤ a.block) ∧ But g5 g w w' ∧ Below g5 w w'
theorem ringOffer1_any (g g1 g2 g3 g4 g5 : Nat) (A : Option Addr) (n c : Nat) (xs : List UInt8) (at_ fi b k : Int) (i : Nat) (m0 : Value) (w : World) (hf : FdAt w g A n c at_) (hr : RdB w A n c xs) (hA : Old A g5) (ha : 0 ≤ at_ ∧ at_ ≤ 90000) (hb : 0 ≤ b ∧ b ≤ 90000) (hk : rgN k) (hfi : -9223372036854775808 ≤ fi ∧ fi ≤ 9223372036854775807) (hi : i < 65536)
    (q1 : BoxAt w g1 3 (.int .i64 fi)) (q2 : BoxAt w g2 3 (.int .i64 b)) (q3 : BoxAt w g3 3 (.int .i64 k)) (q4 : BoxAt w g4 22 (.int .u16 (i : Int))) (q5 : BoxAt w g5 28 m0)
    (l1 : g1 < g) (l2 : g2 < g) (l3 : g3 < g) (l4 : g4 < g) (l5 : g5 < g) :
    Calls Try.prog 65 #[.pointer (some ⟨g, 0, none⟩), .pointer (some ⟨g1, 0, none⟩), .pointer (some ⟨g2, 0, none⟩), .pointer (some ⟨g3, 0, none⟩), .pointer (some ⟨g4, 0, none⟩), .pointer (some ⟨g5, 0, none⟩)] w fun e w' => e = .returned (.tuple #[]) ∧ MmBox g g5 n A (memPutN (memPutN xs at_ 2 (fi % 18446744073709551616).toNat) (b + 16 * k + 2) 2 ((i + 1) % 65536)) w w' := by
  have hoff : Off A g := fun a e => by have := hA a e; omega
  obtain ⟨x, hx⟩ : ∃ x, x = (fi % 18446744073709551616).toNat := ⟨_, rfl⟩
  rw [← hx]
  have hx6 : x < 18446744073709551616 := by omega
  have wx : IntKind.u64.wrap fi = (x : Int) := by rw [IntKind.wrap_u64]; omega
  have hk16 := rgN_le hk
  have c1 := q1.c
  have HPut := Lib.hid (fput_any g A n c xs at_ 2 x w hf hr hoff (by omega) (by omega) hx6)
  obtain ⟨ys, hys⟩ : ∃ ys, memPutN xs at_ 2 x = ys := ⟨_, rfl⟩
  rw [hys] at HPut ⊢
  have HN := Lib.hid (fun A' c' at2 W h1 h2 h3 => fnext_any g A' n c' ys at2 b (16 * k) i W h1 h2 h3 (by omega) (by omega) hi)
  obtain ⟨zs, hzs⟩ : ∃ zs, memPutN ys (b + 16 * k + 2) 2 ((i + 1) % 65536) = zs := ⟨_, rfl⟩
  rw [hzs] at HN ⊢
  have HK := Lib.hid hk
  clear hx hys hzs hf hr
  go_enter Try.func65, Try.ntmps65
  go_wp2_with fail
  refine HPut.out.mono ?_
  rintro e w2 ⟨rfl, A2, c2, f2, r2, o2, far2, b2⟩
  have p2 := q2.below b2 l2
  have p3 := q3.below b2 l3
  have p4 := q4.below b2 l4
  have p5 := q5.below b2 l5
  have d2 := p2.c
  have d3 := p3.c
  have d4 := p4.c
  have e2 : g2 < w2.heap.size := (Array.getElem?_eq_some_iff.1 p2).1
  have e3 : g3 < w2.heap.size := (Array.getElem?_eq_some_iff.1 p3).1
  have e4 : g4 < w2.heap.size := (Array.getElem?_eq_some_iff.1 p4).1
  clear c1
  go_wp2_with fail
  refine wp_region_seg (S := fun w' => Below g w2 w') 0 #[true, true, true, true, true, true] [(0, true), (1, true), (2, true), (4, true), (3, false), (5, false)] (by kernel_rfl) (by kernel_rfl) (fun _ _ d _ _ h => by first | (cases d <;> exact h) | cases h.1) ((Below.refl g w2).drew) ?_
  have HB := (Below.refl g w2).drew
  iterate 4 (refine seg_take (v := ?_) rfl (Or.inl ⟨by rfl, ?_⟩) ?_; rotate_left; (focus (intro w' hw'; have j2 := (hw'.cell (p := ⟨g2, 0, none⟩) l2).trans d2; have j3 := (hw'.cell (p := ⟨g3, 0, none⟩) l3).trans d3; have j4 := (hw'.cell (p := ⟨g4, 0, none⟩) l4).trans d4; go_simp <;> with_reducible rfl)); try simp only [Act.put, List.setIfInBounds_toArray, List.set_cons_zero, List.set_cons_succ])
  refine seg_run rfl (fun K hK => ?_)
  go_simp
  refine (ringAvail_any k _).mono ?_
  rintro e_ w3 ⟨z1, rfl, hz1, rfl⟩
  rw [hz1 HK.out]
  clear hz1
  refine hK.out _ _ (HB) ?_
  clear hK
  try simp only [Act.put, List.setIfInBounds_toArray, List.set_cons_zero, List.set_cons_succ]
  refine seg_run rfl (fun K hK => ?_)
  go_simp
  have HX := (Below.refl w2.heap.size w2).drew
  refine (HN.out A2 c2 _ _ (f2.below HX) (r2.below HX) o2).mono ?_
  rintro e_ w3 ⟨rfl, A3, c3, f3, r3, o3, far3, b3⟩
  have HB := HB.trans b3
  refine hK.out _ _ (HB) ?_
  clear hK
  try simp only [Act.put, List.setIfInBounds_toArray, List.set_cons_zero, List.set_cons_succ]
  refine seg_done (fun _ => ?_)
  refine wpAnyH_done (by kernel_rfl) ?_ _
  have p53 := p5.below HB l5
  have s0 := f3.c0
  have s5 := p53.c
  have u5 := p53.f
  go_wp2_with fail
  refine bodyPost_end (v := .tuple #[]) (by simp [results, Try.results65]) rfl ?_
  have off5 : Off A3 g5 := fun a e => by
    rcases far3 with rfl | h
    · rcases far2 with rfl | h2
      · have := hA a e; omega
      · have := h2 a e; have := (Array.getElem?_eq_some_iff.1 q5).1; omega
    · have := h a e; simp at this; have := (Array.getElem?_eq_some_iff.1 p5).1; omega
  have farX : A3 = A ∨ ∀ a, A3 = some a → w.heap.size ≤ a.block := by
    rcases far3 with rfl | h
    · exact far2
    · exact .inr fun a e => by have := h a e; have := b2.size; simp at *; omega
  exact ⟨rfl, A3, c3, (setc_rowT p53).trans rfl, rdB_off r3 off5 (by simp [World.setCell]) (fun j hj => Below.heap_setCell _ _ _ _ hj), farX, (but_of (b2.trans HB)).setCell _, ((b2.mono (Nat.le_of_lt l5)).trans (HB.mono (Nat.le_of_lt l5))).setCell (p := ⟨g5, 0, none⟩) (Nat.le_refl _) _⟩
end Go.Proofs.Ytnfepikgbdeomaa
