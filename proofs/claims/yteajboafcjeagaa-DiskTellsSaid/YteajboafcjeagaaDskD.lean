/-
  Layer 5: disks: rows of sectors of the call's own; a sector full of a byte, slices.Clone, New.
-/
import Derived.Test.YteajboafcjeagaaDskC
namespace Go.Proofs.Yteajboafcjeagaa
set_option maxRecDepth 20000
open Go.RowKit
set_option linter.unusedVariables false
set_option linter.unusedSimpArgs false
set_option maxHeartbeats 4000000

/-! ### Rows of the call's own -/
theorem down_keepT {w w' : World} {base : Nat} {e : TypeId} {v : Value} {n size : Nat} {xs : List Value} (h : w.ownsRow base e size v n xs) (hk : ∀ (g : Nat) (cur : Array Value), v.ownBlock = some g → w.heap[g]? = some (.cells cur e (0, 0)) → w'.heap[g]? = w.heap[g]?) : w'.ownsRow base e size v n xs := by
  refine ⟨h.1, ?_⟩
  rcases h.2 with h0 | ⟨g, cap, cur, rfl, hb, hg, rest⟩
  · exact .inl h0
  · exact .inr ⟨g, cap, cur, rfl, hb, (hk g cur rfl hg).trans hg, rest⟩
theorem down_keep {w w' : World} {base : Nat} {e : TypeId} {v : Value} {n size : Nat} {xs : List Value} (h : w.ownsRow base e size v n xs) (hb : Below w.heap.size w w') : w'.ownsRow base e size v n xs := down_keepT h (fun g _ _ hg => hb.block g (drw_lt hg))
theorem dtyp_ne {w : World} {g h : Nat} {cs ds : Array Value} {T U : TypeId} {f1 f2 : Nat × Nat} (h1 : w.heap[g]? = some (.cells cs T f1)) (h2 : w.heap[h]? = some (.cells ds U f2)) (hne : T ≠ U) : g ≠ h := by
  rintro rfl
  rw [h1] at h2
  injection h2 with h2
  injection h2 with _ h2
  exact hne h2
theorem delemSS : ElemAt Try.prog 22 35 (.slice none 0 0) 24 := ⟨Try.underlying22, by kernel_rfl, rfl⟩
/-- The call's own row of sectors. -/
def OwSS (w : World) (base g n : Nat) (vs : List Value) : Prop := w.ownsRow base 35 1 (.slice (some ⟨g, 0, none⟩) n n) n vs
theorem OwSS.row {w : World} {base g n : Nat} {vs : List Value} (h : OwSS w base g n vs) : ∃ cur, w.heap[g]? = some (.cells cur 35 (0, 0)) := by
  rcases h.2 with ⟨h1, _⟩ | ⟨g', cap, cur, hv, _, hg, _⟩
  · cases h1
  · injection hv with hv; injection hv with hv; injection hv with hv; subst hv; exact ⟨cur, hg⟩
theorem OwSS.len {w : World} {base g n : Nat} {vs : List Value} (h : OwSS w base g n vs) : vs.length = n := by have := h.1; omega
theorem OwSS.base {w : World} {base g n : Nat} {vs : List Value} (h : OwSS w base g n vs) : base ≤ g ∧ g < w.heap.size := by
  obtain ⟨cur, hg⟩ := h.row
  rcases h.2 with ⟨h1, _⟩ | ⟨g', cap, cur, hv, hb, _⟩
  · cases h1
  · injection hv with hv; injection hv with hv; injection hv with hv; subst hv; exact ⟨hb, drw_lt hg⟩
theorem OwSS.mono {w : World} {base base' g n : Nat} {vs : List Value} (h : OwSS w base g n vs) (hb : base' ≤ base) : OwSS w base' g n vs := own_mono h hb
theorem OwSS.below {w w' : World} {base g n : Nat} {vs : List Value} (h : OwSS w base g n vs) (hb : Below w.heap.size w w') : OwSS w' base g n vs := down_keep h hb
theorem OwSS.set_ {w : World} {base g n : Nat} {vs : List Value} (h : OwSS w base g n vs) (k : Nat) (v : Value) : OwSS (w.setCell ⟨g, k, none⟩ v) base g n (vs.set k v) := (World.ownsRow.stored h k v).1
theorem OwSS.cell {w : World} {base g n : Nat} {vs : List Value} (h : OwSS w base g n vs) (k : Nat) (hk : k < n) : w.cell? ⟨g, k, none⟩ = vs[k]? := World.ownsRow.cellAt h k (by omega)
theorem OwSS.fr {w : World} {base g n : Nat} {vs : List Value} (h : OwSS w base g n vs) (k : Nat) : w.frozen? ⟨g, k, none⟩ = false := World.ownsRow.frozenAt h k
theorem OwSS.rd {w : World} {base g n : Nat} {vs : List Value} (h : OwSS w base g n vs) : Rd w (some ⟨g, 0, none⟩) vs := Rd.of_own h
/-- Bytes of the call's own stay where a row of sectors is written. -/
theorem own_besideSS {w : World} {base base2 g n : Nat} {vs : List Value} (h : OwSS w base g n vs) {A : Option Addr} {m c : Nat} {ys : List UInt8} (hy : OwnB w base2 A m c ys) (k : Nat) (v : Value) : OwnB (w.setCell ⟨g, k, none⟩ v) base2 A m c ys := by
  obtain ⟨cur, hg⟩ := h.row
  exact down_keepT hy (fun g' cur' _ hg' => heap_setCell_other w ⟨g, k, none⟩ g' v (fun e => dtyp_ne hg' hg (by decide) e))
theorem parts_get {w : World} : ∀ {vs : List Value} {yss : List (List UInt8)}, vs.length = yss.length → (∀ k, k < vs.length → ∃ A n c, vs[k]? = some (.slice A n c) ∧ RdB w A n c (yss.getD k [])) → Parts w vs yss
  | [], [], _, _ => trivial
  | v :: vs, ys :: yss, hl, h => by
    obtain ⟨A, n, c, e, hr⟩ := h 0 (by simp)
    refine ⟨⟨A, n, c, by simpa using e, by simpa using hr⟩, parts_get (by simpa using hl) (fun k hk => ?_)⟩
    have := h (k + 1) (by simpa using hk)
    simpa using this
  | [], _ :: _, hl, _ => by simp at hl
  | _ :: _, [], hl, _ => by simp at hl
theorem parts_one {w : World} : ∀ {vs : List Value} {yss : List (List UInt8)}, Parts w vs yss → ∀ v ∈ vs, v.oneCell' = true
  | [], [], _, v, hv => by simp at hv
  | u :: vs, ys :: yss, ⟨⟨A, n, c, e, _⟩, hp⟩, v, hv => by
    rcases List.mem_cons.1 hv with rfl | hv
    · subst e; rfl
    · exact parts_one hp v hv
/-- 'make([][]byte, n)'. -/
theorem wp_makeSS {ops : Array Oper} {rest : List Oper} {o : Oper} {a : Act} {w : World} {Q : Exit → Act → World → Prop} (hgd : o.guard = none) (l c : Operand) (ho : o.op = Op.makeSlice 22 l c)
    (kl kc : IntKind) (n : Nat) (hl : a.eval l = .int kl n) (hc : a.eval c = .int kc n) (hn : n ≤ 1000000)
    (h : ∀ w', OwSS w' w.heap.size w.heap.size n (List.replicate n (.slice none 0 0)) → Below w.heap.size w w' → wpList Try.prog ops Q rest (a.put o.dst (.slice (some ⟨w.heap.size, 0, none⟩) n n)) w') : wpList Try.prog ops Q (o :: rest) a w := by
  obtain ⟨i, hi, hz, hsz, hby⟩ := info_parts delemSS.info
  refine wpList_make_full w hgd l c _ ho w.heap.size _ i _ 1 delemSS.slice hi hz hsz kl kc n n n hl hc rfl rfl (by rw [hby]; omega) (by unfold maxLen; omega) (Nat.le_refl _) (fun w' h1 h2 => h w' ?_ ?_)
  · unfold OwSS
    rw [Nat.mul_one, show (Value.slice none 0 0).cells = #[Value.slice none 0 0] from rfl, toList_madeCells_one] at h1
    exact h1
  · exact ⟨h2.os, h2.tape, h2.output, h2.size, fun k hk => h2.block k hk (by simp)⟩
/-- 'make([]byte, n)', one operation among others. -/
theorem op_makeB {o : Oper} {a : Act} {w : World} {K : Act → World → Prop} {Q : Exit → Act → World → Prop} (l c : Operand) (ho : o.op = Op.makeSlice 35 l c)
    (kl kc : IntKind) (n : Nat) (hl : a.eval l = .int kl n) (hc : a.eval c = .int kc n) (hn : n ≤ 70368744177664)
    (h : ∀ w', OwnB w' w.heap.size (some ⟨w.heap.size, 0, none⟩) n n (List.replicate n 0) → Below w.heap.size w w' → K (a.put o.dst (.slice (some ⟨w.heap.size, 0, none⟩) n n)) w') : o.wp Try.prog a w K Q := by
  obtain ⟨i, hi, hz, hsz, hby⟩ := info_parts elemB.info
  obtain ⟨w', hrun, r1, r2⟩ := run_make_full (P := Try.prog) w w.heap.size 35 _ i _ 1 elemB.slice hi hz hsz kl kc n (by rw [hby]; omega) (by unfold maxLen; omega) (Nat.le_refl _)
  unfold Oper.wp
  simp [execOp, ho, hl, hc, hrun, Result.andThen]
  refine h w' ?_ ⟨r2.os, r2.tape, r2.output, r2.size, fun k hk => r2.block k hk (by simp)⟩
  unfold OwnB
  have e : (madeCells (Value.int .u8 0).cells (n * 1)).toList = (List.replicate n (0 : UInt8)).map vB := by
    rw [Nat.mul_one, show (Value.int .u8 0).cells = #[Value.int .u8 0] from rfl, toList_madeCells_one, List.map_replicate]; rfl
  rw [← e]
  exact r1
/-! ### A sector full of a byte -/
theorem rep_set (u : UInt8) (k : Nat) (h : k < 256) : (List.replicate k u ++ List.replicate (256 - k) (0 : UInt8)).set k u = List.replicate (k + 1) u ++ List.replicate (256 - (k + 1)) 0 := by
  rw [List.set_append_right _ _ (by simp), List.length_replicate, Nat.sub_self, show 256 - k = (256 - (k + 1)) + 1 by omega, List.replicate_succ, List.set_cons_zero, List.replicate_succ' (n := k)]
  simp
def SecI (w : World) (u : UInt8) (v : Value) (wr : World) : Prop := ∃ k : Nat, k ≤ 256 ∧ v = .int .i64 (k : Int) ∧ OwnB wr w.heap.size (some ⟨w.heap.size, 0, none⟩) 256 256 (List.replicate k u ++ List.replicate (256 - k) 0) ∧ Below w.heap.size w wr
theorem sector_any (u : UInt8) (w : World) : Calls Try.prog 27 #[.int .u8 (u.toNat : Int)] w (RetB w (List.replicate 256 u)) := by
  go_enter Try.func27, Try.ntmps27
  go_wp2_with (refine wp_makeB rfl _ _ rfl .i64 .i64 256 rfl rfl (by omega) ?_; intro w1 ho1 hb1)
  go_loopw [4] (SecI w u) (fun i _ => 256 - (intOf i).toNat)
  case atStart => exact ⟨0, by omega, rfl, by simpa using ho1, hb1⟩
  case round =>
    obtain ⟨k, hk, rfl, ho, hB⟩ := hrel
    by_cases hlt : k < 256
    · obtain ⟨u', hu', hc⟩ := ho.cell_ k hlt
      have hf := ho.free k
      have hs := ho.set_ k u
      rw [rep_set u k hlt] at hs
      have HS := Lib.hid hs
      have l1 : (k : Int) < 256 := by omega
      have lw : w.heap.size < wr.heap.size := by have := ho.addr (by omega); obtain ⟨g, e, h1, h2⟩ := this; injection e with e; injection e with e; omega
      clear hs hu' ho
      go_wp2_with fail
      go_roundw
      case rel => exact ⟨k + 1, by omega, by go_num, HS.out, hB.setCell (p := ⟨w.heap.size, k, none⟩) (Nat.le_refl _) _⟩
      case measure => simp [intOf]; omega
    · obtain rfl : k = 256 := by omega
      go_wp2_with fail
      go_ret
      exact ⟨_, _, _, rfl, by simpa using ho, hB⟩
/-! ### slices.Clone of a row of sectors -/
theorem cloneSS_any (S : Option Addr) (n c : Nat) (vs : List Value) (yss : List (List UInt8)) (w : World) (hr : RdSS w S n c vs yss) (hm : n ≤ 1000000) :
    Calls Try.prog 41 #[.slice S n c] w (fun e w' => ∃ S' c', e = .returned (.slice S' n c') ∧ w'.ownsRow w.heap.size 35 1 (.slice S' n c') n vs ∧ Below w.heap.size w w') := by
  have kn := fun (W : World) (A : Option Addr) (n c n' c' : Nat) => Lib.run_eql_slice_nil (P := Try.prog) W 22 35 A n c n' c' Try.underlying22
  have h1c := parts_one hr.2.2.2.2
  rcases S with _ | a
  · obtain ⟨h1, h2, h3, h4, h5⟩ := hr
    have hx : vs = [] := by
      rcases h1 with h1 | ⟨b, o, h, _⟩
      · exact h1
      · cases h
    subst hx
    obtain rfl : 0 = n := h2
    go_enter Try.func41, Try.ntmps41
    go_wp2
    go_ret
    exact ⟨none, 0, rfl, World.ownsRow_nil _ _ _ _, Below.refl _ _⟩
  · have hown := World.ownsRow_lit (size := 1) (e := 35) w #[] 0 (Nat.le_refl _) (by simp [maxLen]) rfl
    have hlen := hr.2.1
    have HL := Lib.hid hlen
    have H1 := Lib.hid h1c
    clear hlen h1c
    go_enter Try.func41, Try.ntmps41
    go_wp2_with (at_builtin; refine wp_app rfl _ _ 22 35 rfl delemSS _ _ 0 _ rfl hown _ n c _ rfl (hr.1.alloc _) (by simpa using HL.out) H1.out (by unfold maxLen; omega) (by omega) (by simp) ?_; intro A4 c4 w4 ho4 hg4)
    have hb4 : Below w.heap.size w w4 := ((Below.refl _ _).alloc (Nat.le_refl _) _).grown hg4 (by simp) (fun q hq => by have := (hown.lt q hq).1; omega)
    go_wp2
    go_ret
    exact ⟨A4, c4, by simp, by simpa using ho4, hb4⟩
/-! ### New -/
def RetDn (w : World) (D : Dk) (er : Int) (e : Ending) (w' : World) : Prop := RetDk w D er e w'
theorem rdDk_nil (w : World) : RdDk w none 0 0 none 0 0 ⟨[], []⟩ := ⟨⟨[], .inl rfl, rfl, Nat.le_refl _, by simp [maxLen], trivial⟩, [], .inl rfl, rfl, Nat.le_refl _, by simp [maxLen], trivial⟩
/-- The first i sectors of a row are made. -/
def SecsI (w0 : World) (g n : Nat) (f : Nat → List UInt8) (i : Nat) (wr : World) : Prop := ∃ vs, OwSS wr w0.heap.size g n vs ∧ ∀ j, j < i → ∃ A m c, vs[j]? = some (.slice A m c) ∧ OwnB wr w0.heap.size A m c (f j)
theorem SecsI.zero {w0 w : World} {g n : Nat} {f : Nat → List UInt8} {vs : List Value} (h : OwSS w w0.heap.size g n vs) : SecsI w0 g n f 0 w := ⟨vs, h, fun j hj => by omega⟩
theorem SecsI.below {w0 w w' : World} {g n i : Nat} {f : Nat → List UInt8} (h : SecsI w0 g n f i w) (hb : Below w.heap.size w w') : SecsI w0 g n f i w' := by
  obtain ⟨vs, h1, h2⟩ := h
  refine ⟨vs, h1.below hb, fun j hj => ?_⟩
  obtain ⟨A, m, c, h3, h4⟩ := h2 j hj
  exact ⟨A, m, c, h3, h4.below hb⟩
theorem SecsI.next {w0 w : World} {g n i : Nat} {f : Nat → List UInt8} (h : SecsI w0 g n f i w) (hi : i < n) {A : Option Addr} {m c : Nat} {ys : List UInt8} (hy : OwnB w w0.heap.size A m c ys) (hf : f i = ys) : SecsI w0 g n f (i + 1) (w.setCell ⟨g, i, none⟩ (.slice A m c)) := by
  obtain ⟨vs, h1, h2⟩ := h
  refine ⟨_, h1.set_ i _, fun j hj => ?_⟩
  rcases Nat.lt_or_ge j i with hj2 | hj2
  · obtain ⟨A', m', c', h3, h4⟩ := h2 j hj2
    exact ⟨A', m', c', by rw [List.getElem?_set_ne (by omega)]; exact h3, own_besideSS h1 h4 _ _⟩
  · obtain rfl : j = i := by omega
    exact ⟨A, m, c, by rw [List.getElem?_set_self (by rw [h1.len]; exact hi)], by rw [hf]; exact own_besideSS h1 hy _ _⟩
theorem SecsI.cells {w0 w : World} {g n i : Nat} {f : Nat → List UInt8} (h : SecsI w0 g n f i w) (k : Nat) (hk : k < n) : (∃ v, w.cell? ⟨g, k, none⟩ = some v) ∧ w.frozen? ⟨g, k, none⟩ = false := by
  obtain ⟨vs, h1, h2⟩ := h
  refine ⟨?_, h1.fr k⟩
  rw [h1.cell k hk, List.getElem?_eq_getElem (by rw [h1.len]; exact hk)]
  exact ⟨_, rfl⟩
theorem SecsI.done {w0 w : World} {g n : Nat} {f : Nat → List UInt8} (h : SecsI w0 g n f n w) (hn : n ≤ 1000000) : ∃ vs, RdSS w (some ⟨g, 0, none⟩) n n vs ((List.range n).map f) := by
  obtain ⟨vs, h1, h2⟩ := h
  refine ⟨vs, h1.rd, h1.len, Nat.le_refl _, by unfold maxLen; omega, parts_get (by simp [h1.len]) (fun k hk => ?_)⟩
  rw [h1.len] at hk
  obtain ⟨A, m, c, h3, h4⟩ := h2 k hk
  exact ⟨A, m, c, h3, by simpa [List.getD, hk] using h4.rd⟩
theorem SecsI.lt {w0 w : World} {g n i : Nat} {f : Nat → List UInt8} (h : SecsI w0 g n f i w) : w0.heap.size ≤ g ∧ g < w.heap.size := by
  obtain ⟨vs, h1, h2⟩ := h; exact h1.base
def NewI (w V : World) (g n : Nat) (v : Value) (wr : World) : Prop := ∃ k : Nat, k ≤ n ∧ v = .int .i64 (k : Int) ∧ SecsI w g n (fun _ => List.replicate 256 0) k wr ∧ DkAt wr w.heap.size none 0 0 none 0 0 ∧ DkAt wr (g + 1) (some ⟨g, 0, none⟩) n n none 0 0 ∧ Below w.heap.size w wr
end Go.Proofs.Yteajboafcjeagaa
