/-
  Layer 12: a record by value; its linked bytes.
-/
import Derived.Test.YtnfepikgbdeomaaRec
import Derived.LoopTactic
namespace Go.Proofs.Ytnfepikgbdeomaa
set_option maxRecDepth 20000
open Go.RowKit
set_option linter.unusedVariables false
set_option linter.unusedSimpArgs false
set_option maxHeartbeats 4000000

theorem rw_at {w : World} {k : Nat} (o : Obj) (h : w.heap.size = k) : (w.alloc o).heap[k]? = some o := by subst h; exact heap_alloc_new w o
theorem rw_old {w : World} {g : Nat} {o : Obj} (o' : Obj) (h : w.heap[g]? = some o) : (w.alloc o').heap[g]? = some o := (heap_alloc_old _ _ (Array.getElem?_eq_some_iff.1 h).1).trans h
theorem rw_up {w w' : World} {g : Nat} {o : Obj} (h : w.heap[g]? = some o) (hb : Below w.heap.size w w') : w'.heap[g]? = some o := (hb.block g (Array.getElem?_eq_some_iff.1 h).1).trans h
theorem rw_lt {w : World} {g : Nat} {o : Obj} (h : w.heap[g]? = some o) : g < w.heap.size := (Array.getElem?_eq_some_iff.1 h).1
/-- A record's cells. -/
def rcV (r : Rc) (A : Option Addr) (n c : Nat) : List Value := [.int .u32 (r.g : Int), .int .u32 (r.s : Int), .int .u32 (r.m : Int), .int .u64 (r.t : Int), .int .i64 r.k, .int .u64 (r.c : Int), .slice A n c] ++ r.D.map vB
theorem rcV_len (r : Rc) (A : Option Addr) (n c : Nat) (h : r.D.length = 32) : (rcV r A n c).length = 39 := by simp [rcV, h]
theorem rcV_one (r : Rc) (A : Option Addr) (n c : Nat) : ∀ v ∈ rcV r A n c, v.oneCell' = true := by
  intro v hv
  simp only [rcV, List.mem_append, List.mem_cons, List.not_mem_nil, or_false] at hv
  rcases hv with (rfl | rfl | rfl | rfl | rfl | rfl | rfl) | hv
  · rfl
  · rfl
  · rfl
  · rfl
  · rfl
  · rfl
  · rfl
  · exact oneCell_vB _ v hv
/-- A record's box. -/
def RcAt (w : World) (h : Nat) (r : Rc) (A : Option Addr) (n c : Nat) : Prop := w.heap[h]? = some (.cells (rcV r A n c).toArray 69 (0, 0))
section
variable {w : World} {h : Nat} {r : Rc} {A : Option Addr} {n c : Nat}
theorem RcAt.lt (q : RcAt w h r A n c) : h < w.heap.size := (Array.getElem?_eq_some_iff.1 q).1
theorem RcAt.c0 (q : RcAt w h r A n c) : w.cell? ⟨h, 0, none⟩ = some (.int .u32 (r.g : Int)) := (cell_of_row w h 0 _ _ _ q).trans rfl
theorem RcAt.c1 (q : RcAt w h r A n c) : w.cell? ⟨h, 1, none⟩ = some (.int .u32 (r.s : Int)) := (cell_of_row w h 1 _ _ _ q).trans rfl
theorem RcAt.c2 (q : RcAt w h r A n c) : w.cell? ⟨h, 2, none⟩ = some (.int .u32 (r.m : Int)) := (cell_of_row w h 2 _ _ _ q).trans rfl
theorem RcAt.c3 (q : RcAt w h r A n c) : w.cell? ⟨h, 3, none⟩ = some (.int .u64 (r.t : Int)) := (cell_of_row w h 3 _ _ _ q).trans rfl
theorem RcAt.c4 (q : RcAt w h r A n c) : w.cell? ⟨h, 4, none⟩ = some (.int .i64 r.k) := (cell_of_row w h 4 _ _ _ q).trans rfl
theorem RcAt.c5 (q : RcAt w h r A n c) : w.cell? ⟨h, 5, none⟩ = some (.int .u64 (r.c : Int)) := (cell_of_row w h 5 _ _ _ q).trans rfl
theorem RcAt.c6 (q : RcAt w h r A n c) : w.cell? ⟨h, 6, none⟩ = some (.slice A n c) := (cell_of_row w h 6 _ _ _ q).trans rfl
theorem RcAt.fr (q : RcAt w h r A n c) (i : Nat) : w.frozen? ⟨h, i, none⟩ = false := frozen_of_row _ _ i _ _ q
theorem RcAt.up {w' : World} (q : RcAt w h r A n c) (hb : Below w.heap.size w w') : RcAt w' h r A n c := rw_up q hb
theorem RcAt.dig (q : RcAt w h r A n c) (hD : r.D.length = 32) : RdB w (some ⟨h, 7, none⟩) 32 32 r.D := by
  refine rdPart q 7 r.D 32 (fun i hi => ?_) hD (by simp [maxLen])
  rw [List.getElem?_toArray, rcV, List.getElem?_append_right (by simp)]
  simp
end
/-- A writer's box, just made. -/
def wrZ : Array Value := ((([] : List UInt8) ++ List.replicate (256 - ([] : List UInt8).length) 0).map vB ++ [Value.int .i64 (([] : List UInt8).length : Int)]).toArray
set_option maxRecDepth 100000 in
theorem zeroWr : Try.zeroCells158 = wrZ := by kernel_rfl
def rcParts (r : Rc) : Nat → List UInt8
  | 0 => [80, 72, 82, 67]
  | 1 => [80, 72, 82, 67] ++ leB r.g 4
  | 2 => [80, 72, 82, 67] ++ leB r.g 4 ++ leB r.s 4
  | _ => [80, 72, 82, 67] ++ leB r.g 4 ++ leB r.s 4 ++ leB r.m 4
theorem rcParts_len (r : Rc) (j : Nat) (h : j ≤ 3) : (rcParts r j).length = 4 + 4 * j := by
  have : j = 0 ∨ j = 1 ∨ j = 2 ∨ j = 3 := by omega
  rcases this with rfl | rfl | rfl | rfl <;> simp [rcParts, leB_length]
/-- The rounds over three numbers. -/
def RlI (W : World) (gW gL gR : Nat) (r : Rc) (A : Option Addr) (n c : Nat) (v : Value) (wr : World) : Prop := ∃ j : Nat, j ≤ 3 ∧ v = .int .i64 (j : Int) ∧ WrS wr gW (rcParts r j) ∧ Below gW W wr ∧ wr.heap[gL]? = some (.cells #[.int .u32 (r.g : Int), .int .u32 (r.s : Int), .int .u32 (r.m : Int)] 23 (0, 0))
theorem leB_one (x : Nat) : leB x 1 = [UInt8.ofNat x] := by simp [leB]
theorem rcBody_eq (r : Rc) (kn : Nat) (hk : r.k = (kn : Int)) (hb : r.b.length ≤ 186) (pre : List UInt8) (hp : pre = rcParts r 3 ++ leB r.t 8 ++ leB kn 1 ++ leB r.b.length 1 ++ leB r.c 8 ++ r.b) : pre ++ List.replicate (220 - pre.length) 0 = rcBody r := by
  have hl : pre.length = 34 + r.b.length := by rw [hp]; simp [rcParts, leB_length]; omega
  rw [hl, hp]
  unfold rcBody rcParts
  rw [hk, Int.toNat_natCast, leB_one, leB_one, show 220 - (34 + r.b.length) = 186 - r.b.length by omega]
  simp only [List.append_assoc]

theorem recLinked_any (r : Rc) (A : Option Addr) (n c : Nat) (w : World) (hok : r.ok) (hchk : r.chk = true) (hr : RdB w A n c r.b) :
    Calls Try.prog 85 #[.agg (rcV r A n c).toArray] w fun e w' => ∃ g, e = .returned (.slice (some ⟨g, 0, none⟩) 220 220) ∧ RdB w' (some ⟨g, 0, none⟩) 220 220 (rcBody r) ∧ w.heap.size ≤ g ∧ Below w.heap.size w w' := by
  obtain ⟨hb, hk1, hk3, hcc⟩ := rcChk_len hchk
  obtain ⟨hg, hs, hm, ht, -, hc8, hD⟩ := hok
  obtain ⟨kn, hkn⟩ : ∃ kn : Nat, r.k = (kn : Int) := ⟨r.k.toNat, by omega⟩
  have hl := hr.2.1
  have hn : n ≤ 180 := by omega
  obtain ⟨RV, hRV⟩ : ∃ z, z = (rcV r A n c).toArray := ⟨_, rfl⟩
  rw [← hRV]
  obtain ⟨W1, hW1⟩ : ∃ W, W = ((w.alloc (.cells RV 69)).alloc (.cells Try.zeroCells158 158)).alloc (.cells #[.int .u8 80, .int .u8 72, .int .u8 82, .int .u8 67] 5 (4, 5)) := ⟨_, rfl⟩
  have kc : (convert 26 26 (.slice (some ⟨w.heap.size + 1 + 1, 0, none⟩) 4 4)).run Try.prog (((w.alloc (.cells RV 69)).alloc (.cells Try.zeroCells158 158)).alloc (.cells #[.int .u8 80, .int .u8 72, .int .u8 82, .int .u8 67] 5)) = .ok (.slice (some ⟨w.heap.size + 1 + 1, 0, none⟩) 4 4) W1 := by
    have := kconst ((w.alloc (.cells RV 69)).alloc (.cells Try.zeroCells158 158)) #[.int .u8 80, .int .u8 72, .int .u8 82, .int .u8 67] 4 4
    rw [hW1]
    simpa using this
  have b1 : Below w.heap.size w W1 := by rw [hW1]; exact (((below_self w).alloc (Nat.le_refl _) _).alloc (by simp) _).alloc (by simp; omega) _
  have qr : RcAt W1 w.heap.size r A n c := by rw [hW1, hRV]; exact rw_old _ (rw_old _ (rw_at _ rfl))
  have qw : WrS W1 (w.heap.size + 1) [] := by rw [hW1]; exact (rw_old _ (rw_at _ (by simp))).trans (by rw [zeroWr]; rfl)
  have qm := rdAt (show W1.heap[w.heap.size + 2]? = some (.cells #[.int .u8 80, .int .u8 72, .int .u8 82, .int .u8 67] 5 (4, 5)) by rw [hW1]; exact rw_at _ (by simp)) [80, 72, 82, 67] 4 rfl rfl (by simp [maxLen])
  have z1 : W1.heap.size = w.heap.size + 3 := by rw [hW1]; simp
  have wg := w64n (k := r.g) (by omega)
  have ws := w64n (k := r.s) (by omega)
  have wm := w64n (k := r.m) (by omega)
  have wk := w64n (k := kn) (by omega)
  have wn := w64n (k := n) (by omega)
  have HRV := Lib.hid hRV
  clear hW1 hRV
  go_enter Try.func85, Try.ntmps85
  go_wp2_with fail
  refine (wrSBytes_any (w.heap.size + 1) [] (some ⟨w.heap.size + 2, 0, none⟩) 4 4 _ W1 qw qm (by simp)).mono ?_
  rintro e w2 ⟨rfl, qw, hb2, hs2⟩
  have B := b1.trans (hb2.mono (by omega))
  have qr := (hb2.block w.heap.size (by omega)).trans qr
  have gz := hb2.size
  have a0 := RcAt.c0 qr
  have a1 := RcAt.c1 qr
  have a2 := RcAt.c2 qr
  go_wp2_with fail
  obtain ⟨L, hL⟩ : ∃ Z, Z = w2.alloc (.cells #[.int .u32 (r.g : Int), .int .u32 (r.s : Int), .int .u32 (r.m : Int)] 23) := ⟨_, rfl⟩
  rw [← hL]
  have bL : Below w2.heap.size w2 L := by rw [hL]; exact (below_self _).alloc (Nat.le_refl _) _
  obtain ⟨gL, hgL⟩ : ∃ g, g = w2.heap.size := ⟨_, rfl⟩
  have qL : L.heap[gL]? = some (.cells #[.int .u32 (r.g : Int), .int .u32 (r.s : Int), .int .u32 (r.m : Int)] 23 (0, 0)) := by rw [hL]; exact rw_at _ hgL.symm
  have zL : w.heap.size + 3 ≤ gL := by omega
  have qw := qw.below bL
  have qr : RcAt L w.heap.size r A n c := rw_up qr bL
  have B := B.trans (bL.mono (by omega))
  have zL2 := rw_lt qL
  rw [← hgL]
  clear hL hgL a0 a1 a2
  go_loopw [23] (RlI L (w.heap.size + 1) gL w.heap.size r A n c) (fun s _ => 3 - (intOf s).toNat)
  case atStart => exact ⟨0, by omega, rfl, qw, Below.refl _ _, qL⟩
  case round =>
    obtain ⟨j, hj, rfl, hw, hB, hL⟩ := hrel
    have hj4 : j = 0 ∨ j = 1 ∨ j = 2 ∨ j = 3 := by omega
    clear hj qw qL
    rcases hj4 with rfl | rfl | rfl | rfl
    · have cj := (cell_of_row wr gL 0 _ _ _ hL).trans (show (#[.int .u32 (r.g : Int), .int .u32 (r.s : Int), .int .u32 (r.m : Int)] : Array Value)[0]? = some (.int .u32 (r.g : Int)) from rfl)
      go_wp2_with fail
      refine (wrSNumber_any (w.heap.size + 1) _ 4 r.g wr hw (by omega) (by omega) (by rw [rcParts_len r 0 (by omega)]; omega)).mono ?_
      rintro e x2 ⟨rfl, hw2, hx2, hsx⟩
      have hB2 := hB.trans hx2
      have hL2 := hsx.row hL (show gL ≠ w.heap.size + 1 by omega)
      go_wp2_with fail
      go_roundw
      case rel => exact ⟨1, by omega, by go_num, hw2, hB2, hL2⟩
      case measure => simp [intOf]
    · have cj := (cell_of_row wr gL 1 _ _ _ hL).trans (show (#[.int .u32 (r.g : Int), .int .u32 (r.s : Int), .int .u32 (r.m : Int)] : Array Value)[1]? = some (.int .u32 (r.s : Int)) from rfl)
      go_wp2_with fail
      refine (wrSNumber_any (w.heap.size + 1) _ 4 r.s wr hw (by omega) (by omega) (by rw [rcParts_len r 1 (by omega)]; omega)).mono ?_
      rintro e x2 ⟨rfl, hw2, hx2, hsx⟩
      have hB2 := hB.trans hx2
      have hL2 := hsx.row hL (show gL ≠ w.heap.size + 1 by omega)
      go_wp2_with fail
      go_roundw
      case rel => exact ⟨2, by omega, by go_num, hw2, hB2, hL2⟩
      case measure => simp [intOf]
    · have cj := (cell_of_row wr gL 2 _ _ _ hL).trans (show (#[.int .u32 (r.g : Int), .int .u32 (r.s : Int), .int .u32 (r.m : Int)] : Array Value)[2]? = some (.int .u32 (r.m : Int)) from rfl)
      go_wp2_with fail
      refine (wrSNumber_any (w.heap.size + 1) _ 4 r.m wr hw (by omega) (by omega) (by rw [rcParts_len r 2 (by omega)]; omega)).mono ?_
      rintro e x2 ⟨rfl, hw2, hx2, hsx⟩
      have hB2 := hB.trans hx2
      have hL2 := hsx.row hL (show gL ≠ w.heap.size + 1 by omega)
      go_wp2_with fail
      go_roundw
      case rel => exact ⟨3, by omega, by go_num, hw2, hB2, hL2⟩
      case measure => simp [intOf]
    · have B := B.trans (hB.mono (by omega))
      have qr : RcAt wr w.heap.size r A n c := (hB.block w.heap.size (by omega)).trans qr
      have qr0 := qr
      have pl := rcParts_len r 3 (by omega)
      have a3 := qr.c3
      clear hL
      go_wp2_with fail
      refine (wrSNumber_any (w.heap.size + 1) _ 8 r.t _ hw (by omega) (by omega) (by simp [leB_length, pl] <;> omega)).mono ?_
      rintro e y1 ⟨rfl, hw, hy1, hsy1⟩
      have B := B.trans (hy1.mono (by omega))
      have qr : RcAt y1 w.heap.size r A n c := (hy1.block w.heap.size (by omega)).trans qr
      have a4 := hkn ▸ qr.c4
      clear a3
      go_wp2_with fail
      refine (wrSNumber_any (w.heap.size + 1) _ 1 kn _ hw (by omega) (by omega) (by simp [leB_length, pl] <;> omega)).mono ?_
      rintro e y2 ⟨rfl, hw, hy2, hsy2⟩
      have B := B.trans (hy2.mono (by omega))
      have qr : RcAt y2 w.heap.size r A n c := (hy2.block w.heap.size (by omega)).trans qr
      have a6 := qr.c6
      clear a4
      go_wp2_with fail
      refine (wrSNumber_any (w.heap.size + 1) _ 1 n _ hw (by omega) (by omega) (by simp [leB_length, pl] <;> omega)).mono ?_
      rintro e y3 ⟨rfl, hw, hy3, hsy3⟩
      have B := B.trans (hy3.mono (by omega))
      have qr : RcAt y3 w.heap.size r A n c := (hy3.block w.heap.size (by omega)).trans qr
      have a5 := qr.c5
      clear a6
      go_wp2_with fail
      refine (wrSNumber_any (w.heap.size + 1) _ 8 r.c _ hw (by omega) (by omega) (by simp [leB_length, pl] <;> omega)).mono ?_
      rintro e y4 ⟨rfl, hw, hy4, hsy4⟩
      have B := B.trans (hy4.mono (by omega))
      have qr : RcAt y4 w.heap.size r A n c := (hy4.block w.heap.size (by omega)).trans qr
      have a6 := qr.c6
      clear a5
      go_wp2_with fail
      refine (wrSBytes_any (w.heap.size + 1) _ A n c _ _ hw (hr.below B) (by simp [leB_length, pl]; omega)).mono ?_
      rintro e y5 ⟨rfl, hw, hy5, hsy5⟩
      have B := B.trans (hy5.mono (by omega))
      clear a6
      have hpre : ∀ pre, pre = rcParts r 3 ++ leB r.t 8 ++ leB kn 1 ++ leB n 1 ++ leB r.c 8 ++ r.b → pre.length ≤ 220 := fun pre h => by rw [h]; simp [leB_length, pl]; omega
      have hfin := hw.rd (hpre _ rfl)
      rw [rcBody_eq r kn hkn (by omega) _ (by rw [hl])] at hfin
      go_wp2_with fail
      go_ret
      exact ⟨_, rfl, hfin, by omega, B⟩
end Go.Proofs.Ytnfepikgbdeomaa
