/-
  The library's slices.Grow (nil), Concat, Equal and bytes.Clone at []byte, walked once; the words for bytes.
-/
import Derived.Test.YteajboafcjeagaaRows
import Derived.Test.YteajboafcjeagaaPre
import Derived.Outline
import Derived.LoopTactic
import Derived.Deep.LoopGhost
import Derived.Deep.QuietTactic
import Derived.BigQuiet
import Derived.Lib.AppendZerosOnto
import Derived.OneCell
import Derived.Laws.CopyOwn
import Derived.OwnWalk
import Derived.Lib.SlBytesConst
import Derived.Shelf.Bytes.SlEqualAll
namespace Go.Proofs.Yteajboafcjeagaa
set_option maxRecDepth 20000
open Go.RowKit
set_option linter.unusedVariables false
set_option linter.unusedSimpArgs false

/-- The slice value '.slice A n c' reads the bytes xs. -/
def RdB (w : World) (A : Option Addr) (n c : Nat) (xs : List UInt8) : Prop := Rd w A (xs.map vB) ∧ xs.length = n ∧ n ≤ c ∧ c ≤ maxLen
/-- The call owns the bytes xs, from block base on. -/
def OwnB (w : World) (base : Nat) (A : Option Addr) (n c : Nat) (xs : List UInt8) : Prop := w.ownsRow base 5 1 (.slice A n c) n (xs.map vB)
/-- What a function that hands back new bytes leaves. -/
def RetB (w : World) (ys : List UInt8) (e : Ending) (w' : World) : Prop := ∃ A n c, e = .returned (.slice A n c) ∧ OwnB w' w.heap.size A n c ys ∧ Below w.heap.size w w'
/-- What a function that hands back a number leaves. -/
def RetV (w : World) (v : Value) (e : Ending) (w' : World) : Prop := e = .returned v ∧ Below w.heap.size w w'

theorem elemB : ElemAt Try.prog 35 5 (.int .u8 0) 1 := ⟨Try.underlying35, by kernel_rfl, rfl⟩

section
variable {w w' : World} {A : Option Addr} {n c base : Nat} {xs ys : List UInt8}
theorem OwnB.len (h : OwnB w base A n c xs) : xs.length = n := by have := own_len h; simpa using this
theorem OwnB.rd (h : OwnB w base A n c xs) : RdB w A n c xs := by
  obtain ⟨A', c', he, h1, h2, _⟩ := own_form h
  injection he with hA _ hc
  subst hA hc
  exact ⟨Rd.of_own h, h.len, h1, h2⟩
theorem RdB.below (h : RdB w A n c xs) (hb : Below w.heap.size w w') : RdB w' A n c xs := ⟨h.1.below hb, h.2⟩
theorem RdB.alloc (h : RdB w A n c xs) (o : Obj) : RdB (w.alloc o) A n c xs := ⟨h.1.alloc o, h.2⟩
theorem RdB.drew (h : RdB w A n c xs) : RdB w.drew A n c xs := h
theorem RdB.drewN (h : RdB w A n c xs) (k : Nat) : RdB (w.drewN k) A n c xs := h
theorem RdB.at_ (h : RdB w A n c xs) (k : Nat) (hk : k < n) : ∃ b o u, A = some ⟨b, o, none⟩ ∧ b < w.heap.size ∧ xs[k]? = some u ∧ w.cell? ⟨b, o + k, none⟩ = some (.int .u8 (u.toNat : Int)) := by
  have hl : k < xs.length := by have := h.2.1; omega
  obtain ⟨b, o, hA, hb, hc⟩ := h.1.at_ k (by simpa using hl)
  refine ⟨b, o, xs[k], hA, hb, List.getElem?_eq_getElem hl, ?_⟩
  simpa [vB] using hc
theorem RdB.lt (h : RdB w A n c xs) (hn : 0 < n) : ∀ a, A = some a → a.block < w.heap.size := by
  obtain ⟨b, o, _, rfl, hb, _⟩ := h.at_ 0 hn
  rintro a ⟨rfl⟩
  exact hb
theorem RdB.n63 (h : RdB w A n c xs) : n ≤ 9223372036854775807 := by have := h.2.2; unfold maxLen at this; omega
theorem RdB.c63 (h : RdB w A n c xs) : c ≤ 9223372036854775807 := by have := h.2.2.2; unfold maxLen at this; omega
theorem RdB.take (h : RdB w A n c xs) (k : Nat) (hk : k ≤ n) : RdB w A k c (xs.take k) := ⟨by rw [List.map_take]; exact h.1.take k, by rw [List.length_take, h.2.1]; omega, by have := h.2.2.1; omega, h.2.2.2⟩
theorem RdB.drop (h : RdB w A n c xs) (k : Nat) (hk : k ≤ n) : RdB w (if c = k then A else A.map (·.add k)) (n - k) (c - k) (xs.drop k) :=
  ⟨by rw [List.map_drop]; exact h.1.drop k c (by have := h.2; simp; omega), by rw [List.length_drop, h.2.1], by have := h.2.2.1; omega, by have := h.2.2.2; omega⟩
/-- The same where the cut ends ahead of the capacity's end: the address without an 'if'. -/
theorem RdB.cut (h : RdB w A n c xs) (k j : Nat) (hn : n = k + j) (hk : k < c) : RdB w (Option.map (fun x => x.add k) A) j (c - k) (xs.drop k) := by
  have := h.drop k (by omega)
  rw [if_neg (by omega), show n - k = j by omega] at this
  exact this
theorem RdB.nilB (w : World) : RdB w none 0 0 [] := ⟨.inl rfl, rfl, Nat.le_refl _, by simp [maxLen]⟩
theorem OwnB.alloc (h : OwnB w base A n c xs) (o : Obj) : OwnB (w.alloc o) base A n c xs := World.ownsRow.alloc h o
theorem OwnB.lit (w : World) (cs : Array Value) (xs : List UInt8) (n : Nat) (h : cs.toList = xs.map vB) (hn : xs.length = n) (hm : n ≤ maxLen) :
    OwnB (w.alloc (.cells cs 5)) w.heap.size (some ⟨w.heap.size, 0, none⟩) n n xs := by
  have hs : cs.size = n * 1 := by rw [← Array.length_toList, h, List.length_map, hn, Nat.mul_one]
  have := World.ownsRow_lit (size := 1) (e := 5) w cs n (Nat.le_refl _) hm hs
  rwa [h] at this
theorem OwnB.mono {base' : Nat} (h : OwnB w base A n c xs) (hb : base' ≤ base) : OwnB w base' A n c xs := own_mono h hb
theorem RdB.litM (w : World) (cs : Array Value) (m : Nat × Nat) (xs : List UInt8) (n : Nat) (h : cs.toList = xs.map vB) (hn : xs.length = n) (hm : n ≤ maxLen) :
    RdB (w.alloc (.cells cs 5 m)) (some ⟨w.heap.size, 0, none⟩) n n xs := ⟨by rw [← h]; exact Rd.newM w cs _ m, hn, Nat.le_refl _, hm⟩
theorem OwnB.below (h : OwnB w base A n c xs) (hb : Below w.heap.size w w') : OwnB w' base A n c xs := by
  refine ⟨h.1, ?_⟩
  rcases h.2 with h2 | ⟨g, cap, cur, hv, hg, hh, r⟩
  · exact .inl h2
  · refine .inr ⟨g, cap, cur, hv, hg, ?_, r⟩
    have hlt : g < w.heap.size := by
      rcases Nat.lt_or_ge g w.heap.size with hlt | hge
      · exact hlt
      · rw [Array.getElem?_eq_none hge] at hh; cases hh
    rw [hb.block g hlt, hh]
theorem OwnB.addr (h : OwnB w base A n c xs) (hn : 0 < n) : ∃ g, A = some ⟨g, 0, none⟩ ∧ base ≤ g ∧ g < w.heap.size := by
  obtain ⟨g, cap, hv, hb, hlt⟩ := World.ownsRow.form h hn
  injection hv with hA
  exact ⟨g, hA, hb, hlt⟩
theorem OwnB.cell_ {g : Nat} (h : OwnB w base (some ⟨g, 0, none⟩) n c xs) (k : Nat) (hk : k < n) : ∃ u, xs[k]? = some u ∧ w.cell? ⟨g, k, none⟩ = some (.int .u8 (u.toNat : Int)) := by
  have hl : k < xs.length := by rw [h.len]; exact hk
  refine ⟨xs[k], List.getElem?_eq_getElem hl, ?_⟩
  rw [World.ownsRow.cellAt h k (by omega)]
  simp [hl, vB]
theorem OwnB.free {g : Nat} (h : OwnB w base (some ⟨g, 0, none⟩) n c xs) (k : Nat) : w.frozen? ⟨g, k, none⟩ = false := World.ownsRow.frozenAt h k
theorem OwnB.set_ {g : Nat} (h : OwnB w base (some ⟨g, 0, none⟩) n c xs) (k : Nat) (u : UInt8) : OwnB (w.setCell ⟨g, k, none⟩ (.int .u8 (u.toNat : Int))) base (some ⟨g, 0, none⟩) n c (xs.set k u) := by
  have := (World.ownsRow.stored h k (vB u)).1
  unfold OwnB
  rw [List.map_set]
  exact this
/-- '[]byte(constant)': a law for the walk. -/
theorem kconst (w : World) (C : Array Value) (n c : Nat) : (convert 35 35 (.slice (some ⟨w.heap.size, 0, none⟩) n c)).run Try.prog (w.alloc (.cells C 5)) = .ok (.slice (some ⟨w.heap.size, 0, none⟩) n c) (w.alloc (.cells C 5 (C.size, C.size + 1))) :=
  Lib.run_convert_bytes_const (P := Try.prog) w 35 5 C n c Try.underlying35 Try.underlying5
theorem OwnB.nilB (w : World) (base : Nat) : OwnB w base none 0 0 [] := World.ownsRow_nil w base _ _
end

/-- '[]byte{}', just laid. -/
theorem own0 (W : World) : OwnB (W.alloc (.cells #[] 5)) W.heap.size (some ⟨W.heap.size, 0, none⟩) 0 0 [] :=
  World.ownsRow_lit (size := 1) (e := 5) W #[] 0 (Nat.le_refl _) (by simp [maxLen]) rfl
/-- 's = append(s, x...)' at []byte: s owned, x whatever bytes are read; what lay below the first world stays. -/
theorem wp_appB {ops : Array Oper} {rest : List Oper} {o : Oper} {a : Act} {w0 w : World} {Q : Exit → Act → World → Prop} (hgd : o.guard = none) (s x : Operand)
    (ho : o.op = .call { callee := .builtin .append, args := #[s, x], argTypes := #[35, 35] })
    (hb : Below w0.heap.size w0 w) {base : Nat} (hbase : w0.heap.size ≤ base) (hbw : base ≤ w.heap.size) (A : Option Addr) (n c : Nat) (xs : List UInt8) (hs : a.eval s = .slice A n c) (hown : OwnB w base A n c xs)
    (B : Option Addr) (m d : Nat) (ys : List UInt8) (hx : a.eval x = .slice B m d) (hr : RdB w B m d ys) (hm : n + m ≤ 70368744177664) (k : Nat) (zs : List UInt8) (hk : n + m = k) (hz : xs ++ ys = zs)
    (h : ∀ A' c' w', OwnB w' base A' k c' zs → Below w0.heap.size w0 w' → w.grownBy w' (Value.slice A n c).ownBlock → wpList Try.prog ops Q rest (a.put o.dst (.slice A' k c')) w') : wpList Try.prog ops Q (o :: rest) a w := by
  subst hk hz
  refine wp_app hgd s x _ _ ho elemB base _ n _ hs hown B m d _ hx hr.1 (by simpa using hr.2.1) (oneCell_vB _) (by unfold maxLen; omega) (by omega) hbw (fun A' c' w' h1 h2 => h A' c' w' ?_ ?_ h2)
  · unfold OwnB; rw [List.map_append]; exact h1
  · exact hb.grown h2 hb.size (fun q hq => Nat.le_trans hbase (hown.lt q hq).1)

/-- 'make([]byte, n)'. -/
theorem wp_makeB {ops : Array Oper} {rest : List Oper} {o : Oper} {a : Act} {w : World} {Q : Exit → Act → World → Prop} (hgd : o.guard = none) (l c : Operand) (ho : o.op = Op.makeSlice 35 l c)
    (kl kc : IntKind) (n : Nat) (hl : a.eval l = .int kl n) (hc : a.eval c = .int kc n) (hn : n ≤ 70368744177664)
    (h : ∀ w', OwnB w' w.heap.size (some ⟨w.heap.size, 0, none⟩) n n (List.replicate n 0) → Below w.heap.size w w' → wpList Try.prog ops Q rest (a.put o.dst (.slice (some ⟨w.heap.size, 0, none⟩) n n)) w') : wpList Try.prog ops Q (o :: rest) a w := by
  obtain ⟨i, hi, hz, hsz, hby⟩ := info_parts elemB.info
  refine wpList_make_full w hgd l c _ ho w.heap.size _ i _ 1 elemB.slice hi hz hsz kl kc n n n hl hc rfl rfl (by rw [hby]; omega) (by unfold maxLen; omega) (Nat.le_refl _) (fun w' h1 h2 => h w' ?_ ?_)
  · unfold OwnB
    have e : (madeCells (Value.int .u8 0).cells (n * 1)).toList = (List.replicate n (0 : UInt8)).map vB := by
      rw [Nat.mul_one, show (Value.int .u8 0).cells = #[Value.int .u8 0] from rfl, toList_madeCells_one, List.map_replicate]; rfl
    rw [← e]
    exact h1
  · exact ⟨h2.os, h2.tape, h2.output, h2.size, fun k hk => h2.block k hk (by simp)⟩
/-- One byte, just laid. -/
theorem rd1 (W : World) (x : Int) (u : UInt8) (h : x = (u.toNat : Int)) : RdB (W.alloc (.cells #[.int .u8 x] 5)) (some ⟨W.heap.size, 0, none⟩) 1 1 [u] := by
  subst h
  exact RdB.litM W _ (0, 0) [u] 1 rfl rfl (by simp [maxLen])

set_option maxRecDepth 10000 in
/-- 'copy(d, s)' at []byte, d a cut of a row of the call's own. -/
theorem wp_copyB {ops : Array Oper} {rest : List Oper} {o : Oper} {a : Act} {w0 w : World} {Q : Exit → Act → World → Prop} (hgd : o.guard = none) (d s : Operand)
    (ho : o.op = .call { callee := .builtin .copy, args := #[d, s], argTypes := #[35, 35] })
    (hb : Below w0.heap.size w0 w) {base : Nat} (hbase : w0.heap.size ≤ base) (A : Option Addr) (n c : Nat) (xs : List UInt8) (hown : OwnB w base A n c xs)
    (off m : Nat) (dp : Option Addr) (dn dc : Nat) (hd : a.eval d = .slice dp dn dc) (hdp : 0 < m → ∃ g, A = some ⟨g, 0, none⟩ ∧ dp = some ⟨g, off, none⟩)
    (sp : Option Addr) (sc : Nat) (ys : List UInt8) (hs : a.eval s = .slice sp m sc) (hr : RdB w sp m sc ys) (hle : m ≤ dn) (hoff : off + m ≤ n)
    (h : ∀ w', OwnB w' base A n c (xs.take off ++ (ys ++ xs.drop (off + m))) → Below w0.heap.size w0 w' → wpList Try.prog ops Q rest (a.put o.dst (.int .i64 m)) w') : wpList Try.prog ops Q (o :: rest) a w := by
  have hsz : (Try.prog.info? 5).map (·.size) = some 1 := by
    obtain ⟨i, hi, _, hz, _⟩ := info_parts elemB.info
    rw [hi]; simp [hz]
  rcases Nat.eq_zero_or_pos m with rfl | hm
  · have hy : ys = [] := List.eq_nil_of_length_eq_zero hr.2.1
    subst hy
    refine wpList_copy_nothing hgd d s _ _ ho _ elemB.slice hsz dp sp dn dc 0 sc hd hs (by simp) (h w ?_ hb)
    simpa using hown
  · obtain ⟨g, rfl, rfl⟩ := hdp hm
    have hlen := hown.len
    rcases hown.2 with ⟨h1, _⟩ | ⟨g', cap, cur, hv, hbg, hg, hnc, hcm, hcs, htake⟩
    · cases h1
    · injection hv with h1 _ h2
      injection h1 with h1
      injection h1 with h1
      subst h1 h2
      rw [Nat.mul_one] at hcs htake
      have hg' : w.heap[g]? = some (.cells cur.toList.toArray 5 (0, 0)) := by simpa using hg
      have hcl : cur.toList.length = c := by simpa using hcs
      refine wpList_copy_splice hgd d s _ _ ho _ elemB.slice hsz _ sp dn dc m sc hd hs g off cur.toList _ hg' (ys.map vB) (by rw [List.length_map, hr.2.1]; exact (Nat.min_eq_left hle).symm) (fun _ => ⟨rfl, ?_⟩) (by simp [hr.2.1]; omega) (oneCell_vB _) w0.heap.size w0 hb (Nat.le_trans hbase hbg) (fun w' hw hb' => ?_)
      · obtain ⟨b, o', u, rfl, _⟩ := hr.at_ 0 hm
        refine ⟨_, rfl, fun j v hj => ?_⟩
        have hj' : j < m := by have := (List.getElem?_eq_some_iff.1 hj).1; simpa [hr.2.1] using this
        obtain ⟨b2, o2, u2, he, _, hx, hc⟩ := hr.at_ j hj'
        injection he with he
        injection he with e1 e2
        subst e1 e2
        rw [Addr.add_lit, hc, ← hj]
        simp [hx, vB]
      · have hl : (ys.map vB).length = m := by simp [hr.2.1]
        have e : (goInt (ys.map vB).length) = .int .i64 m := by rw [hl]; rfl
        rw [e]
        refine h w' ⟨?_, .inr ⟨g, c, _, rfl, hbg, hw.out, hnc, hcm, ?_, ?_⟩⟩ hb'
        · simp [hlen, hr.2.1]; omega
        · simp only [List.size_toArray, Nat.mul_one]
          rw [length_splice _ _ _ (by rw [hl, hcl]; omega), hcl]
        · rw [Nat.mul_one]
          unfold splice
          have hx : xs.map vB = cur.toList.take n := htake.symm
          rw [List.map_append, List.map_append, List.map_take, List.map_drop, hx, hl]
          simp only [List.toList_toArray]
          rw [List.take_take, Nat.min_eq_left (by omega : off ≤ n)]
          have h1 : (cur.toList.take off).length = off := by rw [List.length_take]; omega
          rw [List.take_append, h1, List.take_of_length_le (by rw [h1]; omega)]
          congr 1
          rw [List.take_append, hl, List.take_of_length_le (by rw [hl]; omega)]
          congr 1
          rw [List.drop_take]
          congr 1
          omega
/-- The capacity is but a bound of what is read. -/
theorem RdB.cap {w : World} {A : Option Addr} {n c : Nat} {xs : List UInt8} (h : RdB w A n c xs) (c' : Nat) (h1 : n ≤ c') (h2 : c' ≤ maxLen) : RdB w A n c' xs := ⟨h.1, h.2.1, h1, h2⟩

/-! ### string(b) -/
/-- Bytes as a string. -/
def strOf (xs : List UInt8) : ByteArray := ⟨xs.toArray⟩
theorem strOf_nums (xs : List UInt8) : strOfNums (xs.map fun u => (u.toNat : Int)) = strOf xs := by
  unfold strOfNums strOf
  congr 2
  rw [List.map_map]
  exact List.map_id'' (fun u => by simp) xs
theorem strOf_eq (xs ys : List UInt8) : ((strOf xs).toList == (strOf ys).toList) = decide (xs = ys) := by
  have e : ∀ zs : List UInt8, (strOf zs).toList = zs := fun zs => by rw [Lib.toList_data]; rfl
  rw [e, e]
  by_cases h : xs = ys <;> simp [h]
theorem RdB.str {w : World} {A : Option Addr} {n c : Nat} {xs : List UInt8} (h : RdB w A n c xs) : (convert 35 9 (.slice A n c)).run Try.prog w = .ok (.string (strOf xs)) w := by
  have hb : Lib.BytesIn w A n (xs.map fun u => (u.toNat : Int)) := fun hn => by
    obtain ⟨b, o, _, rfl, _⟩ := h.at_ 0 hn
    refine ⟨b, o, rfl, fun i hi => ?_⟩
    obtain ⟨b', o', u, he, _, hx, hc⟩ := h.at_ i hi
    injection he with he
    injection he with hb ho
    subst hb ho
    rw [hc]
    simp [List.getD, hx]
  have := hb.convert (P := Try.prog) (by simpa using h.2.1) c 35 5 9 Try.underlying35 Try.underlying5 Try.underlying9
  rwa [strOf_nums] at this

/-! ### slices.Grow(nil, n) -/
def GrowRet (w : World) (e : Ending) (w' : World) : Prop := ∃ A c, e = .returned (.slice A 0 c) ∧ OwnB w' w.heap.size A 0 c [] ∧ Below w.heap.size w w'

/-- 'append(nil, make([]T, n)...)', one cell an element, n above 0. -/
theorem wp_appmake {P : Program} {w : World} {ops : Array Oper} {rest : List Oper} {o : Oper} {a : Act} {Q : Exit → Act → World → Prop} (hgd : o.guard = none) (s x : Operand) (t tn e : TypeId) {z : Value} {bytes : Nat}
    (ho : o.op = .call { callee := .builtin .append, args := #[s, x], argTypes := #[t, tn] }) (he : ElemAt P t e z bytes) (kn : IntKind) (htn : P.underlying tn = some (.int kn))
    (n : Nat) (hs : a.eval s = .slice none 0 0) (hx : a.eval x = .int .i64 n) (hn : 0 < n) (hb : n * bytes ≤ 140737488355328) (hm : n ≤ 70368744177664)
    (h : ∀ c w', n ≤ c → c ≤ maxLen → w'.ownsRow w.heap.size e 1 (.slice (some ⟨w.heap.size, 0, none⟩) 0 c) 0 [] → Below w.heap.size w w' → wpList P ops Q rest (a.put o.dst (.slice (some ⟨w.heap.size, 0, none⟩) n c)) w') : wpList P ops Q (o :: rest) a w := by
  obtain ⟨i, hi, hz, hsz, hby⟩ := info_parts he.info
  have hr := Lib.run_append_grow_zeros (P := P) w t tn o.type e i z .i64 kn he.slice htn hi hz none 0 0 [] (run_firstCells_none w.drew i.size 0 0 0) n hn (by omega) (by omega) (by omega)
      (by rw [hby]; omega) (growslice_fits (by omega) (by rw [hby, Nat.zero_add]; omega))
  rw [Nat.zero_add] at hr
  have hGn : n ≤ grownCap w n 0 e := grownCap_ge w _ _ _
  have hGm : grownCap w n 0 e ≤ maxLen := grownCap_le_maxLen w n 0 _ (by unfold maxLen; omega)
  generalize grownCap w n 0 e = G at hr hGn hGm
  refine wpList_plain hgd fun K hK => ?_
  unfold Oper.wp execOp
  simp only [ho, resolve, invoke, builtin, Sem.run_bind, Sem.run_pure, Result.andThen_ok, List.map_toArray, List.map_cons, List.map_nil, hs, hx, hr]
  refine hK _ _ (h G _ hGn hGm ⟨rfl, .inr ⟨w.heap.size, G, _, rfl, Nat.le_refl _, heap_alloc_new w.drew _, Nat.zero_le _, hGm, ?_, rfl⟩⟩ ?_)
  · simp [Builtin.zeroCells, he.one]; omega
  · exact ((Below.refl _ _).drew).alloc (Nat.le_refl _) _

/-! ### slices.Concat -/
/-- Values that are slices, each reading its bytes. -/
def Parts (w : World) : List Value → List (List UInt8) → Prop
  | [], [] => True
  | v :: vs, ys :: yss => (∃ A n c, v = .slice A n c ∧ RdB w A n c ys) ∧ Parts w vs yss
  | _, _ => False
theorem Parts.length {w : World} : ∀ {vs : List Value} {yss : List (List UInt8)}, Parts w vs yss → vs.length = yss.length
  | [], [], _ => rfl
  | _ :: _, _ :: _, h => by simp [Parts.length h.2]
theorem Parts.at_ {w : World} : ∀ {vs : List Value} {yss : List (List UInt8)}, Parts w vs yss → ∀ (k : Nat) (hv : k < vs.length) (hy : k < yss.length), ∃ A n c, vs[k] = .slice A n c ∧ RdB w A n c yss[k]
  | v :: vs, ys :: yss, h, 0, _, _ => h.1
  | v :: vs, ys :: yss, h, k + 1, hv, hy => by
    have := Parts.at_ h.2 k (by simpa using hv) (by simpa using hy)
    simpa using this
theorem Parts.below {w w' : World} (hb : Below w.heap.size w w') : ∀ {vs : List Value} {yss : List (List UInt8)}, Parts w vs yss → Parts w' vs yss
  | [], [], _ => trivial
  | _ :: _, _ :: _, ⟨⟨A, n, c, he, hr⟩, h⟩ => ⟨⟨A, n, c, he, hr.below hb⟩, Parts.below hb h⟩
theorem flat_take_le (yss : List (List UInt8)) (k : Nat) : (yss.take k).flatten.length ≤ yss.flatten.length := by
  conv => rhs; rw [← List.take_append_drop k yss]
  simp only [List.flatten_append, List.length_append]; omega
theorem flat_snoc (yss : List (List UInt8)) (k : Nat) (h : k < yss.length) : (yss.take (k + 1)).flatten = (yss.take k).flatten ++ yss[k] := by
  rw [take_snoc _ _ h]; simp only [List.flatten_append, List.flatten_cons, List.flatten_nil, List.append_nil]

def ConcatI (w : World) (yss : List (List UInt8)) (K : Nat) (v i : Value) (wr : World) : Prop :=
  ∃ k A n c, k ≤ K ∧ i = .int .i64 (k : Nat) ∧ v = .slice A n c ∧ OwnB wr w.heap.size A n c (yss.take k).flatten ∧ Below w.heap.size w wr

/-! ### bytes.Clone -/
theorem clone_any (A : Option Addr) (n c : Nat) (xs : List UInt8) (w : World) (hr : RdB w A n c xs) (hm : n ≤ 70368744177664) :
    Calls Try.prog 37 #[.slice A n c] w (RetB w xs) := by
  have kn := fun (W : World) (A : Option Addr) (n c n' c' : Nat) => Lib.run_eql_slice_nil (P := Try.prog) W 35 5 A n c n' c' Try.underlying35
  rcases A with _ | a
  · obtain ⟨h1, h2, h3, h4⟩ := hr
    have hx : xs = [] := by
      rcases h1 with h1 | ⟨b, o, h, _⟩
      · simpa using h1
      · cases h
    subst hx
    go_enter Try.func37, Try.ntmps37
    go_wp2
    go_ret
    exact ⟨none, 0, 0, rfl, OwnB.nilB _ _, Below.refl _ _⟩
  · have hown := World.ownsRow_lit (size := 1) (e := 5) w #[] 0 (Nat.le_refl _) (by simp [maxLen]) rfl
    have hlen := hr.2.1
    have HL := Lib.hid hlen
    clear hlen
    go_enter Try.func37, Try.ntmps37
    go_wp2_with (at_builtin; refine wp_app rfl _ _ 35 5 rfl elemB _ _ 0 _ rfl hown _ n c _ rfl (hr.1.alloc _) (by simpa using HL.out) (oneCell_vB _) (by unfold maxLen; omega) (by omega) (by simp) ?_; intro A4 c4 w4 ho4 hg4)
    have hb4 : Below w.heap.size w w4 := ((Below.refl _ _).alloc (Nat.le_refl _) _).grown hg4 (by simp) (fun q hq => by have := (hown.lt q hq).1; omega)
    go_wp2
    go_ret
    exact ⟨_, _, _, rfl, by simpa [OwnB] using ho4, hb4⟩

/-! ### slices.Equal -/
def EqI (w : World) (n : Nat) (xs ys : List UInt8) (i : Value) (wr : World) : Prop := ∃ k q, k ≤ n ∧ i = .int .i64 (k : Nat) ∧ xs.take k = ys.take k ∧ wr = w.drewN q
/-- Quiet: the world but for draws. -/
def RetQ (w : World) (v : Value) (e : Ending) (w' : World) : Prop := e = .returned v ∧ ∃ q, w' = w.drewN q

end Go.Proofs.Yteajboafcjeagaa
