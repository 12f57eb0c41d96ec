/-
  Layer 21: frag: add.
-/
import Derived.Test.YteajboafcjeagaaFrgE
namespace Go.Proofs.Yteajboafcjeagaa
set_option maxRecDepth 20000
open Go.RowKit
set_option linter.unusedVariables false
set_option linter.unusedSimpArgs false
set_option maxHeartbeats 8000000

/-- All blocks but one stay. -/
structure ButG (g : Nat) (w w' : World) : Prop where
  below : Below g w w'
  other : ∀ j, j ≠ g → j < w.heap.size → w'.heap[j]? = w.heap[j]?
theorem ButG.refl (g : Nat) (w : World) : ButG g w w := ⟨Below.refl _ _, fun _ _ _ => rfl⟩
theorem ButG.then_ {g : Nat} {a b c : World} (h : ButG g a b) (k : ButG g b c) : ButG g a c := ⟨h.below.trans k.below, fun j hj hl => (k.other j hj (Nat.lt_of_lt_of_le hl h.below.size)).trans (h.other j hj hl)⟩
theorem ButG.drew {g : Nat} {a b : World} (h : ButG g a b) : ButG g a b.drew := ⟨h.below.drew, h.other⟩
theorem ButG.set {g : Nat} {a b : World} (h : ButG g a b) (i : Nat) (v : Value) : ButG g a (b.setCell ⟨g, i, none⟩ v) :=
  ⟨h.below.setCell (p := ⟨g, i, none⟩) (Nat.le_refl g) _, fun j hj hl => (Below.heap_setCell b _ v j hj).trans (h.other j hj hl)⟩
theorem ButG.of {g : Nat} {a b : World} (h : Below a.heap.size a b) (hg : g ≤ a.heap.size) : ButG g a b := ⟨h.mono hg, fun j _ hl => h.block j hl⟩
theorem ButG.row {g h : Nat} {a b : World} {o : Obj} (k : ButG g a b) (hh : h ≠ g) (q : a.heap[h]? = some o) : b.heap[h]? = some o := (k.other h hh (frw_lt q)).trans q
theorem ButG.rd {g : Nat} {a b : World} {A : Option Addr} {xs : List Value} (k : ButG g a b) (hA : ∀ q, A = some q → q.block ≠ g) (h : Rd a A xs) : Rd b A xs := by
  rcases h with rfl | ⟨d, o, rfl, hd, hc⟩
  · exact .inl rfl
  · exact .inr ⟨d, o, rfl, Nat.lt_of_lt_of_le hd k.below.size, fun i v hv => (World.cell?_of_block (w := a) (w' := b) (a := ⟨d, o + i, none⟩) (k.other d (hA _ rfl) hd)).trans (hc i v hv)⟩
theorem ButG.rdB {g : Nat} {a b : World} {A : Option Addr} {n c : Nat} {xs : List UInt8} (k : ButG g a b) (hA : ∀ q, A = some q → q.block ≠ g) (h : RdB a A n c xs) : RdB b A n c xs := ⟨k.rd hA h.1, h.2⟩
/-- One within a row. -/
def FrRow (w : World) (g : Nat) (pre : List Value) (x : Fr) (post : List Value) : Prop := RowAt w 85 g (pre ++ (frV x ++ post))
theorem FrRow.in_ {w : World} {g : Nat} {pre post : List Value} {x : Fr} (h : FrRow w g pre x post) : FrIn w g pre.length x := ⟨h.lt, fun j v hv => by
  have hj : j < (frV x).length := (List.getElem?_eq_some_iff.1 hv).1
  rw [RowAt.cell h, List.getElem?_append_right (by omega), Nat.add_sub_cancel_left, List.getElem?_append_left hj]
  exact hv⟩
theorem FrRow.frozen {w : World} {g : Nat} {pre post : List Value} {x : Fr} (h : FrRow w g pre x post) (i : Nat) : w.frozen? ⟨g, i, none⟩ = false := RowAt.frozen h i
theorem FrRow.up {w w' : World} {g : Nat} {pre post : List Value} {x : Fr} (h : FrRow w g pre x post) (hb : Below w.heap.size w w') : FrRow w' g pre x post := RowAt.up h hb
theorem FrRow.drew {w : World} {g : Nat} {pre post : List Value} {x : Fr} (h : FrRow w g pre x post) : FrRow w.drew g pre x post := h
theorem FrRow.set {w : World} {g : Nat} {pre post : List Value} {x y : Fr} (h : FrRow w g pre x post) (i : Nat) (v : Value) (hi : i < (frV x).length) (hy : frV y = (frV x).set i v) : FrRow (w.setCell ⟨g, pre.length + i, none⟩ v) g pre y post := by
  have h1 := setc_rowT (i := pre.length + i) (v := v) h
  unfold FrRow RowAt
  rw [h1, hy]
  congr 2
  rw [List.setIfInBounds_toArray, List.set_append_right _ _ (by omega), Nat.add_sub_cancel_left, List.set_append_left _ _ hi]
def Fr.had (x : Fr) (i : Nat) (c : UInt8) : Fr := { x with H := x.H.set i true, D := x.D.set i c }
theorem frV_setH {x : Fr} (hok : x.ok) (i : Nat) (hi : i < 128) : frV { x with H := x.H.set i true } = (frV x).set (132 + i) (.bool true) := by
  unfold frV
  rw [List.set_append_right _ _ (by simp; omega), List.set_append_right _ _ (by simp [hok.D]; omega), List.set_append_left _ _ (by simp [hok.D, hok.H]; omega)]
  simp only [List.length_cons, List.length_nil, List.length_map, hok.D, Nat.zero_add]
  rw [show 132 + i - 4 - 128 = i by omega, List.map_set]
  rfl
theorem frV_setD {x : Fr} (hok : x.ok) (i : Nat) (c : UInt8) (hi : i < 128) : frV { x with D := x.D.set i c } = (frV x).set (4 + i) (.int .u8 (c.toNat : Int)) := by
  unfold frV
  rw [List.set_append_right _ _ (by simp), List.set_append_left _ _ (by simp [hok.D]; omega)]
  simp only [List.length_cons, List.length_nil, Nat.zero_add]
  rw [show 4 + i - 4 = i by omega, List.map_set]
  rfl
theorem frV_setL {x : Fr} (hok : x.ok) (z : Int) : frV { x with ln := z } = (frV x).set 260 (.int .i64 z) := by
  unfold frV
  rw [List.set_append_right _ _ (by simp), List.set_append_right _ _ (by simp [hok.D]), List.set_append_right _ _ (by simp [hok.D, hok.H])]
  simp [hok.D, hok.H]
theorem okH {x : Fr} (h : x.ok) (i : Nat) : Fr.ok { x with H := x.H.set i true } := ⟨h.src, h.dst, h.id, h.proto, h.D, by simpa using h.H, h.ln, h.till⟩
theorem ok_had {x : Fr} (h : x.ok) (i : Nat) (c : UInt8) : (x.had i c).ok := ⟨h.src, h.dst, h.id, h.proto, by simpa [Fr.had] using h.D, by simpa [Fr.had] using h.H, h.ln, h.till⟩
def fAddK (x : Fr) (pl : Nat) (xs : List UInt8) : Nat → Fr
  | 0 => x
  | k + 1 => if (fAddK x pl xs k).H.getD (pl + k) false = true then fAddK x pl xs k else (fAddK x pl xs k).had (pl + k) (xs.getD k 0)
def fAdd (x : Fr) (pl : Nat) (more : Bool) (xs : List UInt8) : Fr := if more then fAddK x pl xs xs.length else { fAddK x pl xs xs.length with ln := ((pl + xs.length : Nat) : Int) }
theorem fAddK_ok {x : Fr} (h : x.ok) (pl : Nat) (xs : List UInt8) : ∀ k, (fAddK x pl xs k).ok
  | 0 => h
  | k + 1 => by
    unfold fAddK
    split
    · exact fAddK_ok h pl xs k
    · exact ok_had (fAddK_ok h pl xs k) _ _
def AddI (V : World) (g : Nat) (pre post : List Value) (x : Fr) (pl : Nat) (xs : List UInt8) (m : Nat) (v : Value) (wr : World) : Prop := ∃ k : Nat, k ≤ m ∧ v = .int .i64 (k : Int) ∧ FrRow wr g pre (fAddK x pl xs k) post ∧ ButG g V wr
def RetAdd (w : World) (g : Nat) (pre post : List Value) (y : Fr) (e : Ending) (w' : World) : Prop := e = .returned (.tuple #[]) ∧ FrRow w' g pre y post ∧ ButG g w w'
set_option maxRecDepth 100000 in
theorem frgAdd_any (g o : Nat) (pre post : List Value) (ho : o = pre.length) (x : Fr) (hx : x.ok) (id pl : Nat) (more : Bool) (proto : Int) (src dst : Nat) (B : Option Addr) (m d : Nat) (xs : List UInt8) (w : World) (hrow : FrRow w g pre x post) (hb : RdB w B m d xs) (hB : ∀ q, B = some q → q.block ≠ g) (hm : pl + m ≤ 128) :
    Calls Try.prog 54 #[.pointer (some ⟨g, o, none⟩), .agg #[.int .u16 (id : Int), .bool more, .int .i64 (pl : Int), .int .i64 proto, .int .u32 (src : Int), .int .u32 (dst : Int), .slice B m d]] w (RetAdd w g pre post (fAdd x pl more xs)) := by
  obtain ⟨V, hV⟩ : ∃ V, V = w.alloc (.cells #[.int .u16 (id : Int), .bool more, .int .i64 (pl : Int), .int .i64 proto, .int .u32 (src : Int), .int .u32 (dst : Int), .slice B m d] 61) := ⟨_, rfl⟩
  have bV : Below w.heap.size w V := by rw [hV]; exact (below_self w).alloc (Nat.le_refl _) _
  have qV : V.heap[w.heap.size]? = some (.cells #[.int .u16 (id : Int), .bool more, .int .i64 (pl : Int), .int .i64 proto, .int .u32 (src : Int), .int .u32 (dst : Int), .slice B m d] 61 (0, 0)) := by rw [hV]; exact frw_at _ rfl
  have hgw : g < w.heap.size := RowAt.lt hrow
  have hxl := hb.2.1
  have c1 : V.cell? ⟨w.heap.size, 1, none⟩ = some (.bool more) := (cell_of_row V _ 1 _ _ _ qV).trans rfl
  have c2 : V.cell? ⟨w.heap.size, 2, none⟩ = some (.int .i64 (pl : Int)) := (cell_of_row V _ 2 _ _ _ qV).trans rfl
  have c6 : V.cell? ⟨w.heap.size, 6, none⟩ = some (.slice B m d) := (cell_of_row V _ 6 _ _ _ qV).trans rfl
  have HV := Lib.hid hV
  have HQ := Lib.hid qV
  have HROW := Lib.hid (hrow.up bV)
  have HBD := Lib.hid (hb.below bV)
  have HX := Lib.hid hx
  have HXL := Lib.hid hxl
  have HO := Lib.hid ho
  clear hV qV hrow hb hx hxl ho
  go_enter Try.func54, Try.ntmps54
  go_wp2_with (rw [← HV.out])
  go_loopw [10] (AddI V g pre post x pl xs m) (fun i _ => m - (intOf i).toNat)
  case atStart => exact ⟨0, by omega, rfl, HROW.out, ButG.refl _ _⟩
  case round =>
  obtain ⟨k, hk, rfl, hrow, hB2⟩ := hrel
  have q2 := hB2.row (by omega) HQ.out
  have k1 : wr.cell? ⟨w.heap.size, 1, none⟩ = some (.bool more) := (cell_of_row wr _ 1 _ _ _ q2).trans rfl
  have k2 : wr.cell? ⟨w.heap.size, 2, none⟩ = some (.int .i64 (pl : Int)) := (cell_of_row wr _ 2 _ _ _ q2).trans rfl
  have k6 : wr.cell? ⟨w.heap.size, 6, none⟩ = some (.slice B m d) := (cell_of_row wr _ 6 _ _ _ q2).trans rfl
  have hoky := fAddK_ok HX.out pl xs k
  clear q2
  by_cases hlt : k < m
  · obtain ⟨b, ob, u, rfl, hbb, hub, hcb⟩ := (hB2.rdB hB HBD.out).at_ k hlt
    have hxk : xs.getD k 0 = u := by rw [List.getD, hub]; rfl
    have lk : (k : Int) < (m : Int) := by omega
    have hpk : pl + k < 128 := by omega
    have hstep : fAddK x pl xs (k + 1) = if (fAddK x pl xs k).H.getD (pl + k) false = true then fAddK x pl xs k else (fAddK x pl xs k).had (pl + k) u := by rw [← hxk]; rfl
    obtain ⟨y, hy⟩ : ∃ y, fAddK x pl xs k = y := ⟨_, rfl⟩
    rw [hy] at hstep hrow hoky
    have cH := hrow.in_.2 (132 + (pl + k)) _ (frV_H hoky (pl + k) hpk)
    rw [← HO.out, ← Nat.add_assoc] at cH
    obtain ⟨q, hq⟩ : ∃ q, y.H.getD (pl + k) false = q := ⟨_, rfl⟩
    rw [hq] at cH hstep
    obtain ⟨t, ht⟩ : ∃ t, t = pl + k := ⟨_, rfl⟩
    rw [← ht] at cH hstep hq hpk
    have e1 : (pl : Int) + (k : Int) = (t : Int) := by omega
    have lt1 : (t : Int) < 128 := by omega
    have HROW2 := Lib.hid hrow
    have HST := Lib.hid hstep
    have HOKY := Lib.hid hoky
    have HB2 := Lib.hid hB2
    clear hy hstep hrow hub hxk hq ht
    cases q with
    | true =>
      go_wp2_with fail
      go_roundw
      case rel => exact ⟨k + 1, by omega, by go_num, by rw [HST.out]; exact HROW2.out, HB2.out⟩
      case measure => simp [intOf]; omega
    | false =>
      have HST2 := Lib.hid (show fAddK x pl xs (k + 1) = y.had t u from by rw [HST.out]; simp)
      have fH : wr.frozen? ⟨g, o + 132 + t, none⟩ = false := HROW2.out.frozen _
      have hr1 : FrRow (wr.drew.setCell ⟨g, o + 132 + t, none⟩ (.bool true)) g pre { y with H := y.H.set t true } post := by
        have h := HROW2.out.drew.set (132 + t) (.bool true) (by rw [frV_len HOKY.out]; omega) (frV_setH HOKY.out t hpk)
        rw [← HO.out, ← Nat.add_assoc] at h
        exact h
      have cD := HROW2.out.in_.2 (4 + t) _ (frV_D HOKY.out t hpk)
      rw [← HO.out, ← Nat.add_assoc] at cD
      have fD := HROW2.out.frozen (o + 4 + t)
      have hr2 : FrRow ((wr.drew.setCell ⟨g, o + 132 + t, none⟩ (.bool true)).setCell ⟨g, o + 4 + t, none⟩ (.int .u8 (u.toNat : Int))) g pre (y.had t u) post := by
        have h := hr1.set (y := y.had t u) (4 + t) (.int .u8 (u.toNat : Int)) (by rw [frV_len (okH HOKY.out t)]; omega) (frV_setD (okH HOKY.out t) t u hpk)
        rw [← HO.out, ← Nat.add_assoc] at h
        exact h
      have HR2 := Lib.hid hr2
      have HBF := Lib.hid ((HB2.out.drew.set (o + 132 + t) (.bool true)).set (o + 4 + t) (.int .u8 (u.toNat : Int)))
      clear hr1 hr2
      go_wp2_with fail
      refine wp_region_seg (S := fun _ => True) 0 #[true, true, true, true, true, true, true, true, true, true, true, true, true] [(0, true), (1, true), (2, true), (3, true), (4, true), (5, true), (6, true), (7, true), (9, true), (10, true), (8, false), (11, true), (12, false)] (by kernel_rfl) (by kernel_rfl) (fun _ _ d _ _ h => by first | (cases d <;> exact h) | cases h.1) (trivial) ?_
      have HB := trivial
      iterate 10 (refine seg_take (v := ?_) rfl (Or.inl ⟨by rfl, ?_⟩) ?_; rotate_left; (focus (intro w' hw'; go_simp <;> with_reducible rfl)); try simp only [Act.put, List.setIfInBounds_toArray, List.set_cons_zero, List.set_cons_succ])
      refine seg_run rfl (fun K hK => ?_)
      go_simp
      skip
      refine hK.out _ _ (HB) ?_
      clear hK
      try simp only [Act.put, List.setIfInBounds_toArray, List.set_cons_zero, List.set_cons_succ]
      iterate 1 (refine seg_take (v := ?_) rfl (Or.inl ⟨by rfl, ?_⟩) ?_; rotate_left; (focus (intro w' hw'; go_simp <;> with_reducible rfl)); try simp only [Act.put, List.setIfInBounds_toArray, List.set_cons_zero, List.set_cons_succ])
      refine seg_run rfl (fun K hK => ?_)
      go_simp
      skip
      refine hK.out _ _ (HB) ?_
      clear hK
      try simp only [Act.put, List.setIfInBounds_toArray, List.set_cons_zero, List.set_cons_succ]
      refine seg_done (fun _ => ?_)
      refine wpAnyH_done (by kernel_rfl) ?_ _
      go_wp2_with fail
      go_roundw
      case rel => exact ⟨k + 1, by omega, by go_num, by rw [HST2.out]; exact HR2.out, HBF.out⟩
      case measure => simp [intOf]; omega
  · obtain rfl : m = k := by omega
    have HROW2 := Lib.hid hrow
    have HB2 := Lib.hid hB2
    cases more with
    | true =>
      have HF := Lib.hid (show fAdd x pl true xs = fAddK x pl xs m from by unfold fAdd; rw [if_pos rfl, HXL.out])
      go_wp2_with fail
      refine bodyPost_end (v := .tuple #[]) (by simp [results, Try.results54]) rfl ⟨rfl, by rw [HF.out]; exact HROW2.out, (ButG.of bV (Nat.le_of_lt hgw)).then_ HB2.out⟩
    | false =>
      have HF := Lib.hid (show fAdd x pl false xs = { fAddK x pl xs m with ln := ((pl + m : Nat) : Int) } from by unfold fAdd; rw [if_neg (by simp), HXL.out])
      have cl := hrow.in_.2 260 _ (frV_ln hoky)
      have fl := hrow.frozen (o + 260)
      rw [← HO.out] at cl
      have e1 : (pl : Int) + (m : Int) = ((pl + m : Nat) : Int) := by omega
      have hr3 : FrRow (wr.setCell ⟨g, o + 260, none⟩ (.int .i64 ((pl + m : Nat) : Int))) g pre { fAddK x pl xs m with ln := ((pl + m : Nat) : Int) } post := by
        have h := hrow.set (y := { fAddK x pl xs m with ln := ((pl + m : Nat) : Int) }) 260 (.int .i64 ((pl + m : Nat) : Int)) (by rw [frV_len hoky]; omega) (frV_setL hoky _)
        rw [← HO.out] at h
        exact h
      have HR3 := Lib.hid hr3
      have HBF := Lib.hid (HB2.out.set (o + 260) (.int .i64 ((pl + m : Nat) : Int)))
      obtain ⟨N, hN⟩ : ∃ N : Nat, N = pl + m := ⟨_, rfl⟩
      rw [← hN] at e1 HR3 HBF HF
      clear hr3 hN hrow
      go_wp2_with fail
      refine bodyPost_end (v := .tuple #[]) (by simp [results, Try.results54]) rfl ⟨rfl, by rw [HF.out]; exact HR3.out, (ButG.of bV (Nat.le_of_lt hgw)).then_ HBF.out⟩
end Go.Proofs.Yteajboafcjeagaa
