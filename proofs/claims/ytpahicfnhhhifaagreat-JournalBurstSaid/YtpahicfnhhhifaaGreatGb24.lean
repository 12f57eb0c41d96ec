/-
 Proved here, for the statement JournalBurst:
 Layer 14: a journal over a disk in memory (the laws' play): its cells, its own r
 How an argument that came in is read: rows of elements of K cells, whatever thes
-/
import Derived.Deep.SlicePairs
import Derived.Deep.Grids
import Derived.Test.YtpahicfnhhhifaaGreatGb21
import Derived.Test.YtpahicfnhhhifaaGreatGb23
set_option linter.unusedVariables false
set_option linter.unusedSimpArgs false
namespace Go.Proofs.YtpahicfnhhhifaaGreat
set_option maxRecDepth 20000
open Go.RowKit
set_option maxHeartbeats 4000000
section
variable {P P' : Nat → Prop} {w w' W : World}
theorem AgrP.comp (h : AgrP P w w') (h' : AgrP P' w' W) (hs : ∀ j, P' j → P j ∨ w.heap.size ≤ j) : AgrP P w W :=
 ⟨Nat.le_trans h.1 h'.1, fun j hj hn => (h'.2 j (Nat.lt_of_lt_of_le hj h.1) (fun hp => by rcases hs j hp with q | q; exact hn q; omega)).trans (h.2 j hj hn)⟩
theorem BIn.to {A : Option Addr} {n c : Nat} {xs : List UInt8} (h : BIn P w A n c xs) (ha : AgrP P w w') (hs : ∀ j, P' j → P j ∨ w.heap.size ≤ j) : BIn P' w' A n c xs := fun W hW => h W (ha.comp hW hs)
theorem WsIn.to {A : Option Addr} {n c : Nat} {l : List Jb} (h : WsIn P w A n c l) (ha : AgrP P w w') (hs : ∀ j, P' j → P j ∨ w.heap.size ≤ j) : WsIn P' w' A n c l := by
 obtain ⟨us, h⟩ := h; exact ⟨us, fun W hW => h W (ha.comp hW hs)⟩
theorem JIn.to {m : Jm} {J : Jn} (h : JIn P w m J) (ha : AgrP P w w') (hs : ∀ j, P' j → P j ∨ w.heap.size ≤ j) : JIn P' w' m J := ⟨h.1, h.2.1, h.2.2.1.to ha hs, h.2.2.2.to ha hs⟩
theorem Agr.p (h : Agr P w w') : AgrP P w w' := ⟨h.2.2.2.1, h.2.2.2.2⟩
theorem Agr.comp (h : Agr P w w') (h' : Agr P' w' W) (hs : ∀ j, P' j → P j ∨ w.heap.size ≤ j) : Agr P w W :=
 ⟨h'.1.trans h.1, h'.2.1.trans h.2.1, h'.2.2.1.trans h.2.2.1, (h.p.comp h'.p hs).1, (h.p.comp h'.p hs).2⟩
theorem DkS.to {AV : Array Value} {D : Dk} (h : DkS P w AV D) (ha : Agr P w w') (hs : ∀ j, P' j → P j ∨ w.heap.size ≤ j) : DkS P' w' AV D := by
 obtain ⟨S, sn, sc, K, kn, kc, vs, us, e, f⟩ := h
 exact ⟨S, sn, sc, K, kn, kc, vs, us, e, fun W hW => f W (ha.comp hW hs)⟩
theorem Agr.of_below (P : Nat → Prop) (h : Below w.heap.size w w') : Agr P w w' := ⟨h.os, h.tape, h.output, h.size, fun j hj _ => h.block j hj⟩
theorem Agr.grown {r : Option Nat} (h : w.grownBy w' r) (hr : ∀ j, some j = r → P j) : Agr P w w' := ⟨h.os, h.tape, h.output, h.size, fun j hj hn => h.block j hj (fun e => hn (hr j e))⟩
theorem Agr.cellsT {g o : Nat} {vs : List Value} (hg : P g) (h : w' = w.setCells g o vs) : Agr P w w' := by
 subst h
 have key : ∀ (vs : List Value) (o : Nat) (w : World), Agr P w (w.setCells g o vs) := by
  intro vs
  induction vs with
  | nil => intro o w; exact ⟨rfl, rfl, rfl, Nat.le_refl _, fun _ _ _ => rfl⟩
  | cons v vs ih =>
   intro o w
   have h1 : Agr P w (w.setCell ⟨g, o, none⟩ v) := ⟨rfl, rfl, rfl, by simp, fun j hj hn => setc_rowO (fun e => hn (e ▸ hg))⟩
   exact h1.comp (ih (o + 1) _) (fun j hj => .inl hj)
 exact key vs o w
theorem Agr.cellT {g o : Nat} (v : Value) (hg : P g) : Agr P w (w.setCell ⟨g, o, none⟩ v) := ⟨rfl, rfl, rfl, by simp, fun j hj hn => setc_rowO (fun e => hn (e ▸ hg))⟩
theorem Agr.refl (P : Nat → Prop) (w : World) : Agr P w w := ⟨rfl, rfl, rfl, Nat.le_refl _, fun _ _ _ => rfl⟩
theorem Agr.below {B : Nat} (h : Agr P w w') (hB : ∀ j, P j → B ≤ j) (hw : B ≤ w.heap.size) : Below B w w' := ⟨h.1, h.2.1, h.2.2.1, h.2.2.2.1, fun j hj => h.2.2.2.2 j (by omega) (fun hp => by have := hB j hp; omega)⟩
theorem Agr.sub (h : Agr P w w') (hs : ∀ j, P j → P' j) : Agr P' w w' := ⟨h.1, h.2.1, h.2.2.1, h.2.2.2.1, fun j hj hn => h.2.2.2.2 j hj (fun hp => hn (hs j hp))⟩
end
section
variable {α : Type} {K : Nat} {E E' : List Value → α → Prop}
def Rows (K : Nat) (E : List Value → α → Prop) : List Value → List α → Prop
 | us, [] => us = []
 | us, x :: l => ∃ c r, us = c ++ r ∧ c.length = K ∧ (∀ v ∈ c, v.oneCell' = true) ∧ E c x ∧ Rows K E r l
theorem Rows.len : ∀ {us : List Value} {l : List α}, Rows K E us l → us.length = l.length * K
 | us, [], h => by rw [show us = [] from h]; simp
 | us, x :: l, ⟨c, r, h1, h2, _, _, h5⟩ => by rw [h1, List.length_append, h2, h5.len, List.length_cons, Nat.add_mul]; omega
theorem Rows.one : ∀ {us : List Value} {l : List α}, Rows K E us l → ∀ v ∈ us, v.oneCell' = true
 | us, [], h, v, hv => by rw [show us = [] from h] at hv; simp at hv
 | us, x :: l, ⟨c, r, h1, _, h3, _, h5⟩, v, hv => by
  rw [h1] at hv
  rcases List.mem_append.1 hv with h | h
  ·exact h3 v h
  ·exact h5.one v h
theorem Rows.imp (hi : ∀ c x, E c x → E' c x) : ∀ {us : List Value} {l : List α}, Rows K E us l → Rows K E' us l
 | us, [], h => h
 | us, x :: l, ⟨c, r, h1, h2, h3, h4, h5⟩ => ⟨c, r, h1, h2, h3, hi c x h4, h5.imp hi⟩
theorem Rows.app {vs : List Value} {m : List α} (k : Rows K E vs m) : ∀ {us : List Value} {l : List α}, Rows K E us l → Rows K E (us ++ vs) (l ++ m)
 | us, [], h => by rw [show us = [] from h]; exact k
 | us, x :: l, ⟨c, r, h1, h2, h3, h4, h5⟩ => ⟨c, r ++ vs, by rw [h1, List.append_assoc], h2, h3, h4, Rows.app k h5⟩
theorem Rows.mk1 {c : List Value} {x : α} (h2 : c.length = K) (h3 : ∀ v ∈ c, v.oneCell' = true) (h4 : E c x) : Rows K E c [x] := ⟨c, [], by simp, h2, h3, h4, rfl⟩
theorem Rows.take : ∀ {us : List Value} {l : List α} (k : Nat), Rows K E us l → Rows K E (us.take (k * K)) (l.take k)
 | us, [], k, h => by rw [show us = [] from h]; simp [Rows]
 | us, x :: l, 0, h => by simp [Rows]
 | us, x :: l, k + 1, ⟨c, r, h1, h2, h3, h4, h5⟩ => by
  refine ⟨c, r.take (k * K), ?_, h2, h3, h4, Rows.take k h5⟩
  rw [h1, List.take_append, h2, List.take_of_length_le (by rw [h2, Nat.add_mul]; omega)]
  congr 2; rw [Nat.add_mul]; omega
theorem Rows.drop : ∀ {us : List Value} {l : List α} (k : Nat), Rows K E us l → Rows K E (us.drop (k * K)) (l.drop k)
 | us, [], k, h => by rw [show us = [] from h]; simp [Rows]
 | us, x :: l, 0, h => by simpa using h
 | us, x :: l, k + 1, ⟨c, r, h1, h2, h3, h4, h5⟩ => by
  rw [h1, List.drop_append, h2, List.drop_of_length_le (by rw [h2, Nat.add_mul]; omega), List.nil_append, List.drop_succ_cons, show (k + 1) * K - K = k * K by rw [Nat.add_mul]; omega]
  exact Rows.drop k h5
theorem Rows.at_ (d : α) : ∀ {us : List Value} {l : List α} (k : Nat), Rows K E us l → k < l.length → ∃ c, c.length = K ∧ (∀ i, i < K → us[k * K + i]? = c[i]?) ∧ E c (l.getD k d)
 | us, x :: l, 0, ⟨c, r, h1, h2, h3, h4, h5⟩, _ => ⟨c, h2, fun i hi => by rw [h1, Nat.zero_mul, Nat.zero_add, List.getElem?_append_left (by omega)], h4⟩
 | us, x :: l, k + 1, ⟨c, r, h1, h2, h3, h4, h5⟩, hk => by
  obtain ⟨c', e1, e2, e3⟩ := Rows.at_ d k h5 (by simpa using hk)
  refine ⟨c', e1, fun i hi => ?_, e3⟩
  rw [h1, List.getElem?_append_right (by rw [h2, Nat.add_mul]; omega), h2, ← e2 i hi]
  congr 1; rw [Nat.add_mul]; omega
theorem Rows.set1 {v : Value} {x : α} (hv : v.oneCell' = true) (hx : E [v] x) : ∀ {us : List Value} {l : List α} (k : Nat), Rows 1 E us l → Rows 1 E (us.set k v) (l.set k x)
 | us, [], k, h => by rw [show us = [] from h]; simp [Rows]
 | us, y :: l, 0, ⟨c, r, h1, h2, h3, h4, h5⟩ => by
  obtain ⟨a, rfl⟩ := List.length_eq_one_iff.1 h2
  rw [h1]
  exact ⟨[v], r, by simp, rfl, by simpa using hv, hx, h5⟩
 | us, y :: l, k + 1, ⟨c, r, h1, h2, h3, h4, h5⟩ => by
  obtain ⟨a, rfl⟩ := List.length_eq_one_iff.1 h2
  rw [h1]
  exact ⟨[a], r.set k v, by simp, rfl, h3, h4, Rows.set1 hv hx k h5⟩
end
theorem run_appO {P : Program} {t e : TypeId} {z : Value} {K bytes : Nat} (he : ElemK P t e z K bytes) (hb0 : bytes ≤ 1000) {w : World} (ty : TypeId) (base : Nat) (v : Value) (n : Nat) (xs : List Value) (hown : w.ownsRow base e K v n xs)
  (A : Option Addr) (m c : Nat) (news : List Value) (hr : Rd w A news) (hm : news.length = m * K) (h1 : ∀ u ∈ news, u.oneCell' = true) (h63 : n + m ≤ 100000000) (hbase : base ≤ w.heap.size) :
  ∃ A' c' w', (Builtin.append_ #[t, t] ty #[v, .slice A m c]).run P w = .ok (.slice A' (n + m) c') w' ∧ w'.ownsRow base e K (.slice A' (n + m) c') (n + m) (xs ++ news) ∧ w.grownBy w' v.ownBlock ∧ ((Value.slice A' (n + m) c').ownBlock = v.ownBlock ∨ (Value.slice A' (n + m) c').ownBlock = some w.heap.size) := by
 obtain ⟨hsl, ⟨i, hi, hz, hsz, hby⟩, hzs, hpos⟩ := he
 have fin : ∀ (v' : Value) (w' : World), w'.ownsRow base e K v' (n + m) (xs ++ news) → ∃ A' c', v' = .slice A' (n + m) c' := fun v' w' h => by
  rcases h.2 with ⟨rfl, h0⟩ | ⟨g, cap, cur, rfl, _⟩
  ·exact ⟨none, 0, by rw [h0]⟩
  ·exact ⟨_, _, rfl⟩
 have hbyt : (n + m) * bytes ≤ 140737488355328 := Nat.le_trans (Nat.mul_le_mul h63 hb0) (by decide)
 by_cases h0 : news = []
 ·subst h0
  obtain rfl : m = 0 := by rcases Nat.eq_zero_or_pos m with h | h; exact h; have := Nat.mul_pos h hpos; simp at hm; omega
  rcases A with _ | a
  ·have hrun : (Builtin.append_ #[t, t] ty #[v, .slice none 0 c]).run P w = .ok v w := by
    rcases hown.2 with ⟨rfl, rfl⟩ | ⟨g, cap, cur, rfl, _, _, hnc, _⟩
    ·simp [Builtin.append_, run_underlying hsl, sizeOf, typeInfo, hi, Builtin.lenOf, Builtin.firstCells]
    ·simp [Builtin.append_, run_underlying hsl, sizeOf, typeInfo, hi, Builtin.lenOf, Builtin.firstCells, hnc, storeCells]
   obtain ⟨A', c', rfl⟩ := fin v w (by simpa using hown)
   exact ⟨A', c', w, by simpa using hrun, by simpa using hown, World.grownBy.refl _ _, .inl rfl⟩
  ·obtain ⟨v', w', hrun, ho, hg, _, hb2⟩ := run_append_own_at (P := P) w base t ty e i _ K bytes hsl hi hz hsz hby hzs hpos v n xs hown a 0 c [] (by simp) (by simp) (by simp) (by unfold maxLen; omega) hbyt hbase
   obtain ⟨A', c', rfl⟩ := fin v' w' ho
   exact ⟨A', c', w', hrun, ho, hg, hb2⟩
 ·rcases hr with h | ⟨b, o, rfl, hb, hc⟩
  ·exact absurd h h0
  ·obtain ⟨v', w', hrun, ho, hg, _, hb2⟩ := run_append_own_at (P := P) w base t ty e i _ K bytes hsl hi hz hsz hby hzs hpos v n xs hown ⟨b, o, none⟩ m c news hm (fun j u hj => by
    have := hc j u hj
    rwa [Addr.add_lit]) h1 (by unfold maxLen; omega) hbyt hbase
   obtain ⟨A', c', rfl⟩ := fin v' w' ho
   exact ⟨A', c', w', hrun, ho, hg, hb2⟩
theorem op_appO {P : Program} {t e : TypeId} {z : Value} {K bytes : Nat} (he : ElemK P t e z K bytes) (hb0 : bytes ≤ 1000) {o : Oper} {a : Act} {w : World} {Q : Exit → Act → World → Prop} {Kq : Act → World → Prop} (s x : Operand)
  (ho : o.op = .call { callee := .builtin .append, args := #[s, x], argTypes := #[t, t] }) (base : Nat) (v : Value) (n : Nat) (xs : List Value) (hs : a.eval s = v) (hown : w.ownsRow base e K v n xs)
  (A : Option Addr) (m c : Nat) (news : List Value) (hx : a.eval x = .slice A m c) (hr : Rd w A news) (hm : news.length = m * K) (h1 : ∀ u ∈ news, u.oneCell' = true) (h63 : n + m ≤ 100000000) (hbase : base ≤ w.heap.size)
  (h : ∀ A' c' w', w'.ownsRow base e K (.slice A' (n + m) c') (n + m) (xs ++ news) → w.grownBy w' v.ownBlock → ((Value.slice A' (n + m) c').ownBlock = v.ownBlock ∨ (Value.slice A' (n + m) c').ownBlock = some w.heap.size) → Kq (a.put o.dst (.slice A' (n + m) c')) w') : o.wp P a w Kq Q := by
 obtain ⟨A', c', w', hr, h2, h3, h4⟩ := run_appO he hb0 o.type base v n xs hown A m c news hr hm h1 h63 hbase
 unfold Oper.wp execOp
 simp only [ho, resolve, invoke, builtin, Sem.run_bind, Sem.run_pure, Result.andThen_ok, List.map_toArray, List.map_cons, List.map_nil, hs, hx, hr]
 exact h A' c' w' h2 h3 h4
theorem elJ : ElemK Tryz.prog 31 60 (.agg #[.int .i64 0, .slice none 0 0]) 2 32 := .of Tryz.underlying31 (by kernel_rfl) rfl (by decide)
theorem elF : ElemK Tryz.prog 41 4 (.bool false) 1 1 := .of Tryz.underlying41 (by kernel_rfl) rfl (by decide)
theorem elS : ElemK Tryz.prog 37 47 (.slice none 0 0) 1 24 := .of Tryz.underlying37 (by kernel_rfl) rfl (by decide)
theorem elV : ElemK Tryz.prog 87 49 (.agg #[.int .u64 0, .int .i64 0, .int .u64 0, .slice none 0 0]) 4 48 := .of Tryz.underlying87 (by kernel_rfl) rfl (by decide)
theorem elE : ElemK Tryz.prog 42 87 (.slice none 0 0) 1 24 := .of Tryz.underlying42 (by kernel_rfl) rfl (by decide)
structure Pf where
 m : Jm
 dS : Option Addr
 dn : Nat
 dc : Nat
 dK : Option Addr
 kn : Nat
 kc : Nat
 ta : Option Addr
 tn : Nat
 tc : Nat
 fa : Option Addr
 fn : Nat
 fc : Nat
 sa : Option Addr
 sn : Nat
 sc : Nat
 ea : Option Addr
 en : Nat
 ec : Nat
def Pf.AV (f : Pf) : Array Value := #[.slice f.dS f.dn f.dc, .slice f.dK f.kn f.kc]
def plV (f : Pf) : List Value := jmV f.m ++ [.slice f.dS f.dn f.dc, .slice f.dK f.kn f.kc, .slice f.ta f.tn f.tc, .slice f.fa f.fn f.fc, .slice f.sa f.sn f.sc, .slice f.ea f.en f.ec]
def PlAt (w : World) (g : Nat) (f : Pf) : Prop := w.heap[g]? = some (.cells (plV f).toArray 44 (0, 0))
theorem plV_len {f : Pf} (h : f.m.z) : (plV f).length = 84 := by simp [plV, jmV_len h]
section
variable {w w' : World} {g : Nat} {f : Pf}
theorem PlAt.lt (q : PlAt w g f) : g < w.heap.size := drw_lt q
theorem PlAt.up (q : PlAt w g f) (hb : Below w.heap.size w w') : PlAt w' g f := drw_up q hb
theorem PlAt.agr {P : Nat → Prop} (q : PlAt w g f) (h : AgrP P w w') (hn : ¬ P g) : PlAt w' g f := (h.2 g q.lt hn).trans q
theorem PlAt.cell (q : PlAt w g f) (h : f.m.z) (k : Nat) : w.cell? ⟨g, 78 + k, none⟩ = ([Value.slice f.dS f.dn f.dc, .slice f.dK f.kn f.kc, .slice f.ta f.tn f.tc, .slice f.fa f.fn f.fc, .slice f.sa f.sn f.sc, .slice f.ea f.en f.ec])[k]? := by
 rw [cell_of_row w g (78 + k) _ _ _ q]
 simp only [List.getElem?_toArray, plV]
 rw [List.getElem?_append_right (by rw [jmV_len h]; omega), jmV_len h, Nat.add_sub_cancel_left]
theorem PlAt.fr (q : PlAt w g f) (i : Nat) : w.frozen? ⟨g, i, none⟩ = false := frozen_of_row _ _ i _ _ q
theorem PlAt.c78 (q : PlAt w g f) (h : f.m.z) : w.cell? ⟨g, 78, none⟩ = some (.slice f.dS f.dn f.dc) := q.cell h 0
theorem PlAt.c79 (q : PlAt w g f) (h : f.m.z) : w.cell? ⟨g, 79, none⟩ = some (.slice f.dK f.kn f.kc) := q.cell h 1
theorem PlAt.c80 (q : PlAt w g f) (h : f.m.z) : w.cell? ⟨g, 80, none⟩ = some (.slice f.ta f.tn f.tc) := q.cell h 2
theorem PlAt.c81 (q : PlAt w g f) (h : f.m.z) : w.cell? ⟨g, 81, none⟩ = some (.slice f.fa f.fn f.fc) := q.cell h 3
theorem PlAt.c82 (q : PlAt w g f) (h : f.m.z) : w.cell? ⟨g, 82, none⟩ = some (.slice f.sa f.sn f.sc) := q.cell h 4
theorem PlAt.c83 (q : PlAt w g f) (h : f.m.z) : w.cell? ⟨g, 83, none⟩ = some (.slice f.ea f.en f.ec) := q.cell h 5
theorem PlAt.jr (q : PlAt w g f) (h : f.m.z) : w.rangeAt g 0 (jmV f.m) := fun j v hv => by
 rw [Nat.zero_add, cell_of_row w g j _ _ _ q]
 have hj := (List.getElem?_eq_some_iff.1 hv).1
 simp only [List.getElem?_toArray, plV]
 rw [List.getElem?_append_left hj]; exact hv
theorem PlAt.there (q : PlAt w g f) (h : f.m.z) (o k : Nat) (hk : o + k ≤ 84) : w.there g o k := fun j hj => ⟨by
 rw [cell_of_row w g (o + j) _ _ _ q]
 simp only [List.getElem?_toArray]
 rw [List.getElem?_eq_getElem (by rw [plV_len h]; omega)]; rfl, q.fr _⟩
theorem PlAt.sJ (q : PlAt w g f) (h : f.m.z) (m : Jm) (hm : m.z) : PlAt (w.setCells g 0 (jmV m)) g { f with m := m } := setcs_row (jmV m) 0 w [] (jmV f.m) _ rfl (by rw [jmV_len h, jmV_len hm]) q
theorem PlAt.sD (q : PlAt w g f) (h : f.m.z) (S : Option Addr) (sn sc : Nat) (K : Option Addr) (kn kc : Nat) : PlAt (w.setCells g 78 [.slice S sn sc, .slice K kn kc]) g { f with dS := S, dn := sn, dc := sc, dK := K, kn := kn, kc := kc } :=
 setcs_row [.slice S sn sc, .slice K kn kc] 78 w (jmV f.m) [.slice f.dS f.dn f.dc, .slice f.dK f.kn f.kc] _ (jmV_len h) rfl q
theorem PlAt.setK (q : PlAt w g f) (h : f.m.z) (f' : Pf) (k : Nat) (v : Value) (hv : plV f' = jmV f.m ++ ([Value.slice f.dS f.dn f.dc, .slice f.dK f.kn f.kc, .slice f.ta f.tn f.tc, .slice f.fa f.fn f.fc, .slice f.sa f.sn f.sc, .slice f.ea f.en f.ec].set k v)) : PlAt (w.setCell ⟨g, 78 + k, none⟩ v) g f' := by
 have h1 := setc_rowT (i := 78 + k) (v := v) q
 unfold PlAt
 rw [h1, hv, List.setIfInBounds_toArray]
 congr 2
 unfold plV
 rw [List.set_append_right _ _ (by rw [jmV_len h]; omega), jmV_len h, Nat.add_sub_cancel_left]
theorem PlAt.s80 (q : PlAt w g f) (h : f.m.z) (A : Option Addr) (n c : Nat) : PlAt (w.setCell ⟨g, 80, none⟩ (.slice A n c)) g { f with ta := A, tn := n, tc := c } := q.setK h _ 2 _ rfl
theorem PlAt.s81 (q : PlAt w g f) (h : f.m.z) (A : Option Addr) (n c : Nat) : PlAt (w.setCell ⟨g, 81, none⟩ (.slice A n c)) g { f with fa := A, fn := n, fc := c } := q.setK h _ 3 _ rfl
theorem PlAt.s82 (q : PlAt w g f) (h : f.m.z) (A : Option Addr) (n c : Nat) : PlAt (w.setCell ⟨g, 82, none⟩ (.slice A n c)) g { f with sa := A, sn := n, sc := c } := q.setK h _ 4 _ rfl
theorem PlAt.s83 (q : PlAt w g f) (h : f.m.z) (A : Option Addr) (n c : Nat) : PlAt (w.setCell ⟨g, 83, none⟩ (.slice A n c)) g { f with ea := A, en := n, ec := c } := q.setK h _ 5 _ rfl
end
def Blk (A : Option Addr) (j : Nat) : Prop := ∃ a, A = some a ∧ a.block = j
theorem blk_own {A : Option Addr} {n c j : Nat} : some j = (Value.slice A n c).ownBlock ↔ Blk A j := by
 rcases A with _ | a
 ·exact ⟨fun h => (by cases h), fun ⟨a, h, _⟩ => (by cases h)⟩
 ·exact ⟨fun h => ⟨a, rfl, (by simp [Value.ownBlock] at h; exact h.symm)⟩, fun ⟨b, h, e⟩ => (by injection h with h; subst h; simp [Value.ownBlock, e])⟩
def PlP (g : Nat) (f : Pf) (j : Nat) : Prop := j = g ∨ Blk f.ta j ∨ Blk f.fa j ∨ Blk f.sa j ∨ Blk f.ea j
def JbE (P : Nat → Prop) (w : World) (c : List Value) (x : Jb) : Prop := ∃ A n d, c = [.int .i64 x.1, .slice A n d] ∧ (-9223372036854775808 ≤ x.1 ∧ x.1 ≤ 9223372036854775807) ∧ BIn P w A n d x.2
def FlE (c : List Value) (b : Bool) : Prop := c = [.bool b]
def StE (P : Nat → Prop) (w : World) (c : List Value) (x : List UInt8) : Prop := ∃ A n d, c = [.slice A n d] ∧ BIn P w A n d x
def EvE (P : Nat → Prop) (w : World) (c : List Value) (e : Ev) : Prop := ∃ A n d, c = [.int .u64 (e.t : Int), .int .i64 e.k, .int .u64 (e.c : Int), .slice A n d] ∧ e.ok ∧ BIn P w A n d e.b
def EvIn (P : Nat → Prop) (w : World) (A : Option Addr) (n c : Nat) (l : List Ev) : Prop := ∃ us, (∀ W, AgrP P w W → Rd W A us) ∧ l.length = n ∧ n ≤ c ∧ c ≤ maxLen ∧ Rows 4 (EvE P w) us l
def EsE (P : Nat → Prop) (w : World) (c : List Value) (l : List Ev) : Prop := ∃ A n d, c = [.slice A n d] ∧ EvIn P w A n d l
structure Pl (base : Nat) (w : World) (g : Nat) (p : Py) (f : Pf) : Prop where
 row : PlAt w g f
 gb : base ≤ g
 j : JIn (PlP g f) w f.m p.J
 d : DkS (PlP g f) w f.AV p.D
 t : ∃ us, w.ownsRow base 60 2 (.slice f.ta f.tn f.tc) f.tn us ∧ Rows 2 (JbE (PlP g f) w) us p.todo
 l : ∃ us, w.ownsRow base 4 1 (.slice f.fa f.fn f.fc) f.fn us ∧ Rows 1 FlE us p.fl
 s : ∃ us, w.ownsRow base 47 1 (.slice f.sa f.sn f.sc) f.sn us ∧ Rows 1 (StE (PlP g f) w) us p.sts
 e : ∃ us, w.ownsRow base 87 1 (.slice f.ea f.en f.ec) f.en us ∧ Rows 1 (EsE (PlP g f) w) us p.evs
section
variable {P P' : Nat → Prop} {w w' : World}
theorem JbE.to {c : List Value} {x : Jb} (h : JbE P w c x) (ha : AgrP P w w') (hs : ∀ j, P' j → P j ∨ w.heap.size ≤ j) : JbE P' w' c x := by
 obtain ⟨A, n, d, h1, h2, h3⟩ := h; exact ⟨A, n, d, h1, h2, h3.to ha hs⟩
theorem StE.to {c : List Value} {x : List UInt8} (h : StE P w c x) (ha : AgrP P w w') (hs : ∀ j, P' j → P j ∨ w.heap.size ≤ j) : StE P' w' c x := by
 obtain ⟨A, n, d, h1, h3⟩ := h; exact ⟨A, n, d, h1, h3.to ha hs⟩
theorem EvE.to {c : List Value} {x : Ev} (h : EvE P w c x) (ha : AgrP P w w') (hs : ∀ j, P' j → P j ∨ w.heap.size ≤ j) : EvE P' w' c x := by
 obtain ⟨A, n, d, h1, h2, h3⟩ := h; exact ⟨A, n, d, h1, h2, h3.to ha hs⟩
theorem EvIn.to {A : Option Addr} {n c : Nat} {l : List Ev} (h : EvIn P w A n c l) (ha : AgrP P w w') (hs : ∀ j, P' j → P j ∨ w.heap.size ≤ j) : EvIn P' w' A n c l := by
 obtain ⟨us, h1, h2, h3, h4, h5⟩ := h
 exact ⟨us, fun W hW => h1 W (ha.comp hW hs), h2, h3, h4, h5.imp (fun _ _ h => h.to ha hs)⟩
theorem EsE.to {c : List Value} {x : List Ev} (h : EsE P w c x) (ha : AgrP P w w') (hs : ∀ j, P' j → P j ∨ w.heap.size ≤ j) : EsE P' w' c x := by
 obtain ⟨A, n, d, h1, h3⟩ := h; exact ⟨A, n, d, h1, h3.to ha hs⟩
theorem own_to {base : Nat} {e : TypeId} {v : Value} {n size : Nat} {xs : List Value} (h : w.ownsRow base e size v n xs) (ha : AgrP P w w') (hn : ∀ j, some j = v.ownBlock → ¬ P j) : w'.ownsRow base e size v n xs := by
 refine ⟨h.1, ?_⟩
 rcases h.2 with h0 | ⟨g, cap, cur, hv, hb, hg, r⟩
 ·exact .inl h0
 ·exact .inr ⟨g, cap, cur, hv, hb, (ha.2 g (drw_lt hg) (hn g (by rw [hv]; rfl))).trans hg, r⟩
end
section
variable {base : Nat} {w w' : World} {g : Nat} {p : Py} {f : Pf}
theorem Pl.z (h : Pl base w g p f) : f.m.z := h.j.z
theorem own_typ {e : TypeId} {size n : Nat} {A : Option Addr} {c : Nat} {xs : List Value} (h : w.ownsRow base e size (.slice A n c) n xs) {j : Nat} (hj : Blk A j) : base ≤ j ∧ ∃ cur, w.heap[j]? = some (.cells cur e (0, 0)) := by
 obtain ⟨a, rfl, e2⟩ := hj
 rcases h.2 with ⟨h1, _⟩ | ⟨g, cap, cur, hv, hb, hg, r⟩
 ·cases h1
 ·injection hv with hv; injection hv with hv; subst hv
  simp only at e2
  subst e2
  exact ⟨hb, cur, hg⟩
theorem Pl.base_ (h : Pl base w g p f) : ∀ j, PlP g f j → base ≤ j ∧ j < w.heap.size := by
 obtain ⟨tu, t1, t2⟩ := h.t
 obtain ⟨lu, l1, l2⟩ := h.l
 obtain ⟨su, s1, s2⟩ := h.s
 obtain ⟨eu, e1, e2⟩ := h.e
 rintro j (rfl | hj | hj | hj | hj)
 ·exact ⟨h.gb, h.row.lt⟩
 ·obtain ⟨a, cur, b⟩ := own_typ t1 hj; exact ⟨a, drw_lt b⟩
 ·obtain ⟨a, cur, b⟩ := own_typ l1 hj; exact ⟨a, drw_lt b⟩
 ·obtain ⟨a, cur, b⟩ := own_typ s1 hj; exact ⟨a, drw_lt b⟩
 ·obtain ⟨a, cur, b⟩ := own_typ e1 hj; exact ⟨a, drw_lt b⟩
theorem row_typ {T U : TypeId} {j : Nat} {cs ds : Array Value} (h1 : w.heap[j]? = some (.cells cs T (0, 0))) (h2 : w.heap[j]? = some (.cells ds U (0, 0))) (hne : T ≠ U) : False := by
 rw [h1] at h2
 injection h2 with h2
 injection h2 with _ h2
 exact hne h2
theorem Pl.below (h : Pl base w g p f) (hb : Below w.heap.size w w') : Pl base w' g p f := by
 have ha := Agr.of_below (PlP g f) hb
 have hs : ∀ j, PlP g f j → PlP g f j ∨ w.heap.size ≤ j := fun _ h => .inl h
 obtain ⟨tu, t1, t2⟩ := h.t
 obtain ⟨lu, l1, l2⟩ := h.l
 obtain ⟨su, s1, s2⟩ := h.s
 obtain ⟨eu, e1, e2⟩ := h.e
 exact ⟨h.row.up hb, h.gb, h.j.to ha.p hs, h.d.to ha hs, ⟨tu, own_up t1 hb, t2.imp fun _ _ x => x.to ha.p hs⟩, ⟨lu, own_up l1 hb, l2⟩, ⟨su, own_up s1 hb, s2.imp fun _ _ x => x.to ha.p hs⟩, ⟨eu, own_up e1 hb, e2.imp fun _ _ x => x.to ha.p hs⟩⟩
theorem Pl.var (h : Pl base w g p f) (ha : Agr (fun j => j = g) w w') : Agr (PlP g f) w w' ∧ DkS (PlP g f) w' f.AV p.D ∧ JIn (PlP g f) w' f.m p.J ∧
  (∃ us, w'.ownsRow base 60 2 (.slice f.ta f.tn f.tc) f.tn us ∧ Rows 2 (JbE (PlP g f) w') us p.todo) ∧
  (∃ us, w'.ownsRow base 4 1 (.slice f.fa f.fn f.fc) f.fn us ∧ Rows 1 FlE us p.fl) ∧
  (∃ us, w'.ownsRow base 47 1 (.slice f.sa f.sn f.sc) f.sn us ∧ Rows 1 (StE (PlP g f) w') us p.sts) ∧
  (∃ us, w'.ownsRow base 87 1 (.slice f.ea f.en f.ec) f.en us ∧ Rows 1 (EsE (PlP g f) w') us p.evs) := by
 have hA := ha.sub (P' := PlP g f) (fun j hj => .inl hj)
 have hs : ∀ j, PlP g f j → PlP g f j ∨ w.heap.size ≤ j := fun _ h => .inl h
 obtain ⟨tu, t1, t2⟩ := h.t
 obtain ⟨lu, l1, l2⟩ := h.l
 obtain ⟨su, s1, s2⟩ := h.s
 obtain ⟨eu, e1, e2⟩ := h.e
 have no : ∀ {e : TypeId} {size n c : Nat} {A : Option Addr} {xs : List Value}, w.ownsRow base e size (.slice A n c) n xs → e ≠ 44 → ∀ j, some j = (Value.slice A n c).ownBlock → ¬ j = g := fun ho hne j hj hg => by
  obtain ⟨_, cur, hr⟩ := own_typ ho (blk_own.1 hj)
  subst hg
  exact row_typ hr h.row hne
 exact ⟨hA, h.d.to hA hs, h.j.to hA.p hs, ⟨tu, own_to t1 ha.p (no t1 (by decide)), t2.imp fun _ _ x => x.to hA.p hs⟩, ⟨lu, own_to l1 ha.p (no l1 (by decide)), l2⟩, ⟨su, own_to s1 ha.p (no s1 (by decide)), s2.imp fun _ _ x => x.to hA.p hs⟩, ⟨eu, own_to e1 ha.p (no e1 (by decide)), e2.imp fun _ _ x => x.to hA.p hs⟩⟩
theorem Pl.setJ (h : Pl base w g p f) {m : Jm} {J : Jn} (hJ : JIn (PlP g f) w m J) : Pl base (w.setCells g 0 (jmV m)) g { p with J := J } { f with m := m } := by
 have ha : Agr (fun j => j = g) w (w.setCells g 0 (jmV m)) := Agr.cellsT rfl rfl
 obtain ⟨hA, h1, h2, h3, h4, h5, h6⟩ := h.var ha
 exact ⟨h.row.sJ h.z m hJ.z, h.gb, hJ.to hA.p (fun _ h => .inl h), h1, h3, h4, h5, h6⟩
theorem Pl.setD (h : Pl base w g p f) {S : Option Addr} {sn sc : Nat} {K : Option Addr} {kn kc : Nat} {D : Dk} (hD : DkS (PlP g f) w #[.slice S sn sc, .slice K kn kc] D) : Pl base (w.setCells g 78 [.slice S sn sc, .slice K kn kc]) g { p with D := D } { f with dS := S, dn := sn, dc := sc, dK := K, kn := kn, kc := kc } := by
 have ha : Agr (fun j => j = g) w (w.setCells g 78 [.slice S sn sc, .slice K kn kc]) := Agr.cellsT rfl rfl
 obtain ⟨hA, h1, h2, h3, h4, h5, h6⟩ := h.var ha
 exact ⟨h.row.sD h.z S sn sc K kn kc, h.gb, h2, hD.to hA (fun _ h => .inl h), h3, h4, h5, h6⟩
end
end Go.Proofs.YtpahicfnhhhifaaGreat
namespace Go.Proofs.YtpahicfnhhhifaaGreat
set_option maxRecDepth 20000
open Go.ChangeShapes Go.WideShapes Go.ChangeAt Go.RowKit Go.Deep
set_option maxHeartbeats 2000000
theorem flat_len {K : Nat} (C : Nat → List Value) : ∀ (is : List Nat), (∀ i ∈ is, (C i).length = K) → (is.flatMap C).length = is.length * K
 | [], _ => by simp
 | i :: is, h => by rw [List.flatMap_cons, List.length_append, h i (by simp), flat_len C is (fun j hj => h j (by simp [hj])), List.length_cons, Nat.add_mul]; omega
theorem flat_get {K : Nat} (C : Nat → List Value) : ∀ (is : List Nat) (k j : Nat), (∀ i ∈ is, (C i).length = K) → j < K → (is.flatMap C)[k * K + j]? = is[k]?.bind (fun i => (C i)[j]?)
 | [], k, j, _, _ => by simp
 | i :: is, 0, j, h, hj => by
  rw [List.flatMap_cons, Nat.zero_mul, Nat.zero_add, List.getElem?_append_left (by rw [h i (by simp)]; exact hj)]
  simp
 | i :: is, k + 1, j, h, hj => by
  have hi := h i (by simp)
  rw [List.flatMap_cons, List.getElem?_append_right (by rw [hi, Nat.add_mul]; omega), hi, show (k + 1) * K + j - K = k * K + j by rw [Nat.add_mul]; omega, flat_get C is k j (fun q hq => h q (by simp [hq])) hj]
  simp
theorem rows_of {α : Type} {K : Nat} {E : List Value → α → Prop} (C : Nat → List Value) (Y : Nat → α) : ∀ (is : List Nat), (∀ i ∈ is, (C i).length = K ∧ (∀ v ∈ C i, v.oneCell' = true) ∧ E (C i) (Y i)) → Rows K E (is.flatMap C) (is.map Y)
 | [], _ => rfl
 | i :: is, h => by
  obtain ⟨h1, h2, h3⟩ := h i (by simp)
  exact ⟨C i, is.flatMap C, by simp, h1, h2, h3, rows_of C Y is (fun j hj => h j (by simp [hj]))⟩
theorem rows_cellK {α : Type} [Inhabited α] {K : Nat} {E : List Value → α → Prop} {t e : TypeId} {H : Type} {enc : TypeId × Value → H} {W : World} (hK : 0 < K) (hsl : Tryz.prog.underlying t = some (.slice e)) (ce : Tryz.prog.cellsOf e = K)
  (elem : ∀ fuel cs y, cs.length = K → DataW.trod enc Tryz.prog W 0 (fun _ => true) true fuel e cs = some y → ∃ x, E cs x ∧ ∀ v ∈ cs, v.oneCell' = true) {fuel : Nat} {v : Value} {y : DataW H × List MemPlace} (hf : DataW.trod enc Tryz.prog W 0 (fun _ => true) true fuel t [v] = some y) :
  ∃ A n c us l, v = .slice A n c ∧ Rd W A us ∧ l.length = n ∧ n ≤ c ∧ c ≤ maxLen ∧ Rows K E us l := by
 rcases open_slice hsl hf with ⟨hcs, _⟩ | ⟨x, l, c, m, n, D, Pl, hcs, _, hl, hm, hmm, _, hx⟩
 ·injection hcs with hcs
  exact ⟨_, _, _, [], [], hcs, .inl rfl, rfl, Nat.le_refl _, by simp [maxLen], rfl⟩
 ·injection hcs with hcs
  have hmc : m = c := by simpa using hmm
  obtain ⟨Z, hZ⟩ := choose_lt (α := List Value × α) (n := m) (p := fun i z => z.1.length = K ∧ (∀ v ∈ z.1, v.oneCell' = true) ∧ E z.1 z.2 ∧ ∀ j v, z.1[j]? = some v → W.cell? ((x.add (i * K)).add j) = some v) (fun i hi => by
   obtain ⟨cs', h1, h2⟩ := hx i hi
   rw [ce] at h1 
   obtain ⟨_, hlen, hcell⟩ := World.cells?_some h1
   obtain ⟨q, hq, h1c⟩ := elem _ _ _ hlen h2
   refine ⟨(cs', q), hlen, h1c, hq, fun j v hj => ?_⟩
   have hjK : j < K := by have := (List.getElem?_eq_some_iff.1 hj).1; simp only at this; omega
   rw [hcell j hjK, hj])
  refine ⟨_, _, _, (List.range l).flatMap (fun i => (Z i).1), (List.range l).map (fun i => (Z i).2), hcs, ?_, by simp, hl, hm, rows_of _ _ _ (fun i hi => ?_)⟩
  ·rcases Nat.eq_zero_or_pos l with rfl | hpos
   ·left; simp
   ·right
    obtain ⟨b, o, spot⟩ := x
    obtain ⟨z1, -, -, z4⟩ := hZ 0 (by omega)
    have hc0 := z4 0 _ (List.getElem?_eq_getElem (by omega))
    have hspot : spot = none := by simpa [Addr.add] using World.cell?_spot hc0
    subst hspot
    refine ⟨b, o, rfl, by have := World.block_lt_of_cell? W _ hc0; simpa [Addr.add] using this, fun i v hv => ?_⟩
    have hlen := flat_len (K := K) (fun i => (Z i).1) (List.range l) (fun i hi => (hZ i (by have := List.mem_range.1 hi; omega)).1)
    have hi : i < l * K := by have := (List.getElem?_eq_some_iff.1 hv).1; rw [hlen] at this; simpa using this
    have hk : i / K < l := Nat.div_lt_of_lt_mul (by rw [Nat.mul_comm]; exact hi)
    have hj : i % K < K := Nat.mod_lt _ hK
    have hg := flat_get (K := K) (fun i => (Z i).1) (List.range l) (i / K) (i % K) (fun i hi => (hZ i (by have := List.mem_range.1 hi; omega)).1) hj
    have hdm : i / K * K + i % K = i := by rw [Nat.mul_comm]; exact Nat.div_add_mod i K
    rw [hdm, hv, List.getElem?_range hk] at hg
    simp only [Option.bind_some] at hg
    have hc := (hZ (i / K) (by omega)).2.2.2 (i % K) v hg.symm
    rw [Addr.add_lit, Addr.add_lit] at hc
    rw [show o + i / K * K + i % K = o + i by omega] at hc
    exact hc
  ·obtain ⟨h1, h2, h3, -⟩ := hZ i (by have := List.mem_range.1 hi; omega)
   exact ⟨h1, h2, h3⟩
def EvC (w : World) (c : List Value) (e : Ev) : Prop := ∃ A n d, c = [.int .u64 (e.t : Int), .int .i64 e.k, .int .u64 (e.c : Int), .slice A n d] ∧ e.ok ∧ RdB w A n d e.b
def RdEv (w : World) (A : Option Addr) (n c : Nat) (us : List Value) (l : List Ev) : Prop := Rd w A us ∧ l.length = n ∧ n ≤ c ∧ c ≤ maxLen ∧ Rows 4 (EvC w) us l
theorem ev_of_cells {H : Type} {enc : TypeId × Value → H} {W : World} {fuel : Nat} {cs : List Value} {y : DataW H × List MemPlace} (hl : cs.length = 4)
  (hf : DataW.trod enc Tryz.prog W 0 (fun _ => true) true fuel 49 cs = some y) : ∃ e, EvC W cs e ∧ ∀ v ∈ cs, v.oneCell' = true := by
 match cs, hl with
 | [c0, c1, c2, c3], _ =>
  obtain ⟨ys, m, _, _, _, hyl, hg⟩ := DataW.trod_struct Tryz.underlying49 hf
  match ys, hyl with
  | [y0, y1, y2, y3], _ =>
   have z_u : Tryz.prog.cellsOf 46 = 1 := by kernel_rfl
   have z_i : Tryz.prog.cellsOf 3 = 1 := by kernel_rfl
   have z_b : Tryz.prog.cellsOf 47 = 1 := by kernel_rfl
   have h0 : DataW.trod enc Tryz.prog W 0 (fun _ => true) true m 46 [c0] = some y0 := by
    have q : DataW.trod enc Tryz.prog W 0 (fun _ => true) true m 46 ((([c0, c1, c2, c3] : List Value).drop 0).take (Tryz.prog.cellsOf 46)) = [y0, y1, y2, y3][0]? := hg 0 _ rfl
    rw [z_u] at q; exact q
   have h1 : DataW.trod enc Tryz.prog W 0 (fun _ => true) true m 3 [c1] = some y1 := by
    have q : DataW.trod enc Tryz.prog W 0 (fun _ => true) true m 3 ((([c0, c1, c2, c3] : List Value).drop 1).take (Tryz.prog.cellsOf 3)) = [y0, y1, y2, y3][1]? := hg 1 _ rfl
    rw [z_i] at q; exact q
   have h2 : DataW.trod enc Tryz.prog W 0 (fun _ => true) true m 46 [c2] = some y2 := by
    have q : DataW.trod enc Tryz.prog W 0 (fun _ => true) true m 46 ((([c0, c1, c2, c3] : List Value).drop 2).take (Tryz.prog.cellsOf 46)) = [y0, y1, y2, y3][2]? := hg 2 _ rfl
    rw [z_u] at q; exact q
   have h3 : DataW.trod enc Tryz.prog W 0 (fun _ => true) true m 47 [c3] = some y3 := by
    have q : DataW.trod enc Tryz.prog W 0 (fun _ => true) true m 47 ((([c0, c1, c2, c3] : List Value).drop 3).take (Tryz.prog.cellsOf 47)) = [y0, y1, y2, y3][3]? := hg 3 _ rfl
    rw [z_b] at q; exact q
   obtain ⟨i0, e0, _, hw0⟩ := DataW.trod_int Tryz.underlying46 h0
   obtain rfl : c0 = .int .u64 i0 := by simpa using e0
   obtain ⟨n0, rfl, hn0⟩ := nat_u64 hw0
   obtain ⟨i1, e1, _, hw1⟩ := DataW.trod_int Tryz.underlying3 h1
   obtain rfl : c1 = .int .i64 i1 := by simpa using e1
   obtain ⟨i2, e2, _, hw2⟩ := DataW.trod_int Tryz.underlying46 h2
   obtain rfl : c2 = .int .u64 i2 := by simpa using e2
   obtain ⟨n2, rfl, hn2⟩ := nat_u64 hw2
   obtain ⟨A, n, c, xs, rfl, hx⟩ := bytes_cell h3
   exact ⟨⟨n0, i1, n2, xs⟩, ⟨A, n, c, rfl, ⟨hn0, int_i64 hw1, hn2⟩, hx⟩, by simp [Value.oneCell']⟩
instance : Inhabited Ev := ⟨⟨0, 0, 0, []⟩⟩
theorem open_evs {H : Type} {enc : TypeId × Value → H} {W : World} {base : Nat} {v : Value} {d0 : DataW H} {p : List MemPlace} (hv : Value.okWide Tryz.prog W .any base 87 v)
  (h : ∃ fuel, DataW.trod enc Tryz.prog W 0 (fun _ => true) true fuel 87 v.cells.toList = some (d0, p)) : ∃ A n c us l, v = .slice A n c ∧ RdEv W A n c us l := by
 obtain ⟨a0, len0, cap0, rfl⟩ := okWide_slice Tryz.underlying87 hv
 obtain ⟨fuel, hf⟩ := h
 obtain ⟨A, n, c, us, l, h1, h2⟩ := rows_cellK (E := EvC W) (by decide) Tryz.underlying87 (by kernel_rfl) (fun fuel cs y hl hf => ev_of_cells hl hf) hf
 exact ⟨A, n, c, us, l, h1, h2⟩
end Go.Proofs.YtpahicfnhhhifaaGreat
namespace Go.Proofs.YtpahicfnhhhifaaGreat
set_option maxRecDepth 20000
open Go.RowKit
set_option maxHeartbeats 4000000
theorem own_rdK {w : World} {base : Nat} {e : TypeId} {K : Nat} {A : Option Addr} {n c : Nat} {xs : List Value} (h : w.ownsRow base e K (.slice A n c) n xs) : Rd w A xs ∧ n ≤ c ∧ c ≤ maxLen := by
 rcases h.2 with ⟨h1, h2⟩ | ⟨g, cap, cur, hv, hb, hg, h1, h2, h3, h4⟩
 ·injection h1 with hA hn hc
  subst hA hn hc
  have : xs = [] := List.eq_nil_of_length_eq_zero (by have := h.1; simpa using this)
  exact ⟨.inl this, Nat.le_refl _, by simp [maxLen]⟩
 ·injection hv with hA _ hc
  subst hA hc
  refine ⟨.inr ⟨g, 0, rfl, drw_lt hg, fun i v hv => ?_⟩, h1, h2⟩
  rw [cell_of_row w g (0 + i) _ _ _ hg, Nat.zero_add]
  rw [← h4, List.getElem?_take] at hv
  split at hv
  ·simpa using hv
  ·cases hv
theorem own_emptyK {w : World} {g : Nat} {T : TypeId} {K : Nat} (h : w.heap[g]? = some (.cells #[] T (0, 0))) : w.ownsRow g T K (.slice (some ⟨g, 0, none⟩) 0 0) 0 [] :=
 ⟨by simp, .inr ⟨g, 0, #[], rfl, Nat.le_refl _, h, Nat.le_refl _, by simp [maxLen], by simp, by simp⟩⟩
theorem op_appQ {P : Program} {t e : TypeId} {z : Value} {K bytes : Nat} (he : ElemK P t e z K bytes) (hb0 : bytes ≤ 1000) {o : Oper} {a : Act} {w : World} {Q : Exit → Act → World → Prop} {Kq : Act → World → Prop} (s x : Operand)
  (ho : o.op = .call { callee := .builtin .append, args := #[s, x], argTypes := #[t, t] }) (base : Nat) (v : Value) (n : Nat) (xs : List Value) (hs : a.eval s = v) (hown : w.ownsRow base e K v n xs)
  (A : Option Addr) (m c : Nat) (news : List Value) (hx : a.eval x = .slice A m c) (hr : Rd w A news) (hm : news.length = m * K) (h1 : ∀ u ∈ news, u.oneCell' = true) (h63 : n + m ≤ 100000000) (hbase : base ≤ w.heap.size) (k : Nat) (zs : List Value) (hk : n + m = k) (hz : xs ++ news = zs)
  (h : ∀ A' c' w', w'.ownsRow base e K (.slice A' k c') k zs → w.grownBy w' v.ownBlock → ((Value.slice A' k c').ownBlock = v.ownBlock ∨ (Value.slice A' k c').ownBlock = some w.heap.size) → Kq (a.put o.dst (.slice A' k c')) w') : o.wp P a w Kq Q := by
 subst hk hz
 exact op_appO he hb0 s x ho base v n xs hs hown A m c news hx hr hm h1 h63 hbase h
theorem rd_rowC {w : World} {g : Nat} {cs : Array Value} {T : TypeId} (h : w.heap[g]? = some (.cells cs T (0, 0))) : Rd w (some ⟨g, 0, none⟩) cs.toList := .inr ⟨g, 0, rfl, drw_lt h, fun i v hv => by rw [cell_of_row w g (0 + i) _ _ _ h, Nat.zero_add]; simpa using hv⟩
theorem grown_beyond {X w w' : World} {A : Option Addr} {n c : Nat} (hb : Below X.heap.size X w) (hg : w.grownBy w' (Value.slice A n c).ownBlock) (hr : ∀ j, Blk A j → X.heap.size ≤ j) : Below X.heap.size X w' := hb.grown hg hb.size (fun q hq => hr q (blk_own.1 hq.symm))
theorem own_set1 {w : World} {base : Nat} {e : TypeId} {A : Option Addr} {n c : Nat} {xs : List Value} (h : w.ownsRow base e 1 (.slice A n c) n xs) (k : Nat) (hk : k < n) (v : Value) : ∃ b, A = some ⟨b, 0, none⟩ ∧ base ≤ b ∧ b < w.heap.size ∧ (w.setCell ⟨b, k, none⟩ v).ownsRow base e 1 (.slice A n c) n (xs.set k v) ∧ w.cell? ⟨b, k, none⟩ = xs[k]? ∧ w.frozen? ⟨b, k, none⟩ = false := by
 rcases h.2 with ⟨h1, h2⟩ | ⟨g, cap, cur, hv, hb, hg, h1, h2, h3, h4⟩
 ·omega
 ·injection hv with hA _ hc
  subst hA hc
  refine ⟨g, rfl, hb, drw_lt hg, ⟨by simpa using h.1, .inr ⟨g, _, _, rfl, hb, setc_rowT hg, h1, h2, by simp; omega, ?_⟩⟩, ?_, frozen_of_row _ _ k _ _ hg⟩
  ·rw [Array.toList_setIfInBounds, List.take_set, h4]
  ·rw [cell_of_row w g k _ _ _ hg, ← h4, List.getElem?_take, if_pos (by omega)]; simp
theorem evIn_new {P : Nat → Prop} {w : World} {base : Nat} {A : Option Addr} {n c : Nat} {us : List Value} {l : List Ev} (h : w.ownsRow base 49 4 (.slice A n c) n us) (hs : ∀ j, P j → j < base) (hr : Rows 4 (EvE P w) us l) : EvIn P w A n c l := by
 obtain ⟨h1, h2, h3⟩ := own_rdK h
 refine ⟨us, fun W hW => rd_agr h1 hW (fun a ha hp => ?_), ?_, h2, h3, hr⟩
 ·obtain ⟨hb, _⟩ := own_typ h ⟨a, ha, rfl⟩
  have := hs _ hp; omega
 ·have e1 := h.1; have e2 := hr.len; omega
section
variable {base : Nat} {w w' : World} {g : Nat} {p : Py} {f : Pf}
theorem Pl.setE (h : Pl base w g p f) (k : Nat) (hk : k < f.en) {A : Option Addr} {n c : Nat} {l : List Ev} (hv : EvIn (PlP g f) w A n c l) : ∃ b, f.ea = some ⟨b, 0, none⟩ ∧ b < w.heap.size ∧ (w.cell? ⟨b, k, none⟩).isSome = true ∧ w.frozen? ⟨b, k, none⟩ = false ∧ Pl base (w.setCell ⟨b, k, none⟩ (.slice A n c)) g { p with evs := p.evs.set k l } f := by
 obtain ⟨tu, t1, t2⟩ := h.t
 obtain ⟨lu, l1, l2⟩ := h.l
 obtain ⟨su, s1, s2⟩ := h.s
 obtain ⟨eu, e1, e2⟩ := h.e
 obtain ⟨b, hb, hbb, hlt, ho, hc, hfz⟩ := own_set1 e1 k hk (.slice A n c)
 have hblk : Blk f.ea b := ⟨_, hb, rfl⟩
 obtain ⟨_, cur, hcur⟩ := own_typ e1 hblk
 have ha : Agr (fun j => j = b) w (w.setCell ⟨b, k, none⟩ (.slice A n c)) := Agr.cellT _ rfl
 have hA : Agr (PlP g f) w (w.setCell ⟨b, k, none⟩ (.slice A n c)) := ha.sub (fun j hj => by rw [hj]; exact .inr (.inr (.inr (.inr hblk))))
 have hs : ∀ j, PlP g f j → PlP g f j ∨ w.heap.size ≤ j := fun _ h => .inl h
 have no : ∀ {e : TypeId} {size n c : Nat} {A : Option Addr} {xs : List Value}, w.ownsRow base e size (.slice A n c) n xs → e ≠ 87 → ∀ j, some j = (Value.slice A n c).ownBlock → ¬ j = b := fun ho hne j hj hg => by
  obtain ⟨_, cur2, hr⟩ := own_typ ho (blk_own.1 hj)
  subst hg
  exact row_typ hr hcur hne
 refine ⟨b, hb, hlt, ?_, hfz, h.row.agr ha.p (fun e => by subst e; exact row_typ h.row hcur (by decide)), h.gb, h.j.to hA.p hs, h.d.to hA hs, ⟨tu, own_to t1 ha.p (no t1 (by decide)), t2.imp fun _ _ x => x.to hA.p hs⟩, ⟨lu, own_to l1 ha.p (no l1 (by decide)), l2⟩, ⟨su, own_to s1 ha.p (no s1 (by decide)), s2.imp fun _ _ x => x.to hA.p hs⟩, ⟨_, ho, ?_⟩⟩
 ·rw [hc, List.getElem?_eq_getElem (by have := e1.1; omega)]; rfl
 ·exact Rows.set1 rfl ⟨A, n, c, rfl, hv.to hA.p hs⟩ k (e2.imp fun _ _ x => x.to hA.p hs)
theorem Pl.evAt (h : Pl base w g p f) (k : Nat) (hk : k < f.en) : ∃ b A n c, f.ea = some ⟨b, 0, none⟩ ∧ b < w.heap.size ∧ Blk f.ea b ∧ w.cell? ⟨b, k, none⟩ = some (.slice A n c) ∧ EvIn (PlP g f) w A n c (p.evs.getD k []) := by
 obtain ⟨eu, e1, e2⟩ := h.e
 obtain ⟨b, hb, hbb, hlt, ho, hc, hfz⟩ := own_set1 e1 k hk (.slice none 0 0)
 obtain ⟨cc, c1, c2, A, n, d, c3, c4⟩ := Rows.at_ [] k e2 (by have := e1.1; have := e2.len; omega)
 refine ⟨b, A, n, d, hb, hlt, ⟨_, hb, rfl⟩, ?_, c4⟩
 have := c2 0 (by omega)
 rw [Nat.mul_one, Nat.add_zero] at this
 rw [hc, this, c3]; rfl
theorem blk_new {A A' : Option Addr} {n c n' c' q j : Nat} (h : (Value.slice A' n' c').ownBlock = (Value.slice A n c).ownBlock ∨ (Value.slice A' n' c').ownBlock = some q) (hj : Blk A' j) : Blk A j ∨ j = q := by
 rcases h with h | h
 ·exact .inl (blk_own.1 ((blk_own (n := n') (c := c')).2 hj |>.trans h))
 ·right
  have := (blk_own (n := n') (c := c')).2 hj
  rw [h] at this
  injection this
theorem Pl.mk5 (h : Pl base w g p f) {p' : Py} {f' : Pf} (hA : Agr (PlP g f) w w') (hs : ∀ j, PlP g f' j → PlP g f j ∨ w.heap.size ≤ j) (hr : PlAt w' g f') (hm : f'.m = f.m) (hd : f'.AV = f.AV) (hJ : p'.J = p.J) (hD : p'.D = p.D)
  (t : ∃ us, w'.ownsRow base 60 2 (.slice f'.ta f'.tn f'.tc) f'.tn us ∧ Rows 2 (JbE (PlP g f') w') us p'.todo)
  (l : ∃ us, w'.ownsRow base 4 1 (.slice f'.fa f'.fn f'.fc) f'.fn us ∧ Rows 1 FlE us p'.fl)
  (s : ∃ us, w'.ownsRow base 47 1 (.slice f'.sa f'.sn f'.sc) f'.sn us ∧ Rows 1 (StE (PlP g f') w') us p'.sts)
  (e : ∃ us, w'.ownsRow base 87 1 (.slice f'.ea f'.en f'.ec) f'.en us ∧ Rows 1 (EsE (PlP g f') w') us p'.evs) : Pl base w' g p' f' :=
 ⟨hr, h.gb, by rw [hm, hJ]; exact h.j.to hA.p hs, by rw [hd, hD]; exact h.d.to hA hs, t, l, s, e⟩
theorem own_no {T U : TypeId} {size n c j : Nat} {A : Option Addr} {xs : List Value} {cs : Array Value} (ho : w.ownsRow base T size (.slice A n c) n xs) (hr : w.heap[j]? = some (.cells cs U (0, 0))) (hne : T ≠ U) : ¬ Blk A j := fun hb => by
 obtain ⟨_, cur, hc⟩ := own_typ ho hb
 exact row_typ hc hr hne
theorem own_apart {T U : TypeId} {s1 s2 n1 n2 c1 c2 j b2 : Nat} {A B : Option Addr} {xs ys : List Value} (ho : w.ownsRow base T s1 (.slice A n1 c1) n1 xs) (hp : w.ownsRow b2 U s2 (.slice B n2 c2) n2 ys) (hne : T ≠ U) : Blk A j → ¬ Blk B j := fun ha hb => by
 obtain ⟨_, cur, hc⟩ := own_typ ho ha
 obtain ⟨_, cur2, hc2⟩ := own_typ hp hb
 exact row_typ hc hc2 hne
theorem Pl.grow2 (h : Pl base w g p f) {w4 : World} (hA : Agr (fun j => Blk f.ta j ∨ Blk f.fa j) w w4) {tu lu : List Value} (ht : Rows 2 (JbE (PlP g f) w) tu p.todo) (hl : Rows 1 FlE lu p.fl) {A B : Option Addr} {n c n' c' : Nat} {x : Jb} {b : Bool} {X : Option Addr} {xn xd q1 q2 : Nat}
  (ot : w4.ownsRow base 60 2 (.slice A n c) n (tu ++ [.int .i64 x.1, .slice X xn xd])) (ol : w4.ownsRow base 4 1 (.slice B n' c') n' (lu ++ [.bool b]))
  (nt : (Value.slice A n c).ownBlock = (Value.slice f.ta f.tn f.tc).ownBlock ∨ (Value.slice A n c).ownBlock = some q1) (h1 : w.heap.size ≤ q1) (nl : (Value.slice B n' c').ownBlock = (Value.slice f.fa f.fn f.fc).ownBlock ∨ (Value.slice B n' c').ownBlock = some q2) (h2 : w.heap.size ≤ q2)
  (hx : -9223372036854775808 ≤ x.1 ∧ x.1 ≤ 9223372036854775807) (hX : BIn (PlP g f) w X xn xd x.2) (w5 : World) (hw5 : w5 = (w4.setCell ⟨g, 80, none⟩ (.slice A n c)).setCell ⟨g, 81, none⟩ (.slice B n' c')) :
  Agr (PlP g f) w w5 ∧ (∀ j, PlP g { f with ta := A, tn := n, tc := c, fa := B, fn := n', fc := c' } j → PlP g f j ∨ w.heap.size ≤ j) ∧ Pl base w5 g { p with todo := p.todo ++ [x], fl := p.fl ++ [b] } { f with ta := A, tn := n, tc := c, fa := B, fn := n', fc := c' } := by
 obtain ⟨tu0, t1, t2⟩ := h.t
 obtain ⟨lu0, l1, l2⟩ := h.l
 obtain ⟨su, s1, s2⟩ := h.s
 obtain ⟨eu, e1, e2⟩ := h.e
 have hA' : Agr (PlP g f) w w4 := hA.sub (fun j hj => by rcases hj with hj | hj; exact .inr (.inl hj); exact .inr (.inr (.inl hj)))
 have hg : ¬ (Blk f.ta g ∨ Blk f.fa g) := fun hh => by
  rcases hh with hh | hh
  ·exact own_no t1 h.row (by decide) hh
  ·exact own_no l1 h.row (by decide) hh
 have r4 : PlAt w4 g f := h.row.agr hA.p hg
 have hG : Agr (fun j => j = g) w4 w5 := by
  subst hw5
  exact (Agr.cellT (P := fun j => j = g) (g := g) (o := 80) (.slice A n c) rfl).comp (Agr.cellT (P := fun j => j = g) (g := g) (o := 81) (.slice B n' c') rfl) (fun j hj => .inl hj)
 have hA5 : Agr (PlP g f) w w5 := hA'.comp (hG.sub (P' := PlP g f) (fun j hj => .inl hj)) (fun j hj => .inl hj)
 have hAo : Agr (fun j => j = g ∨ Blk f.ta j ∨ Blk f.fa j) w w5 := (hA.sub (P' := fun j => j = g ∨ Blk f.ta j ∨ Blk f.fa j) (fun j hj => .inr hj)).comp (hG.sub (P' := fun j => j = g ∨ Blk f.ta j ∨ Blk f.fa j) (fun j hj => .inl hj)) (fun j hj => .inl hj)
 have hs : ∀ j, PlP g { f with ta := A, tn := n, tc := c, fa := B, fn := n', fc := c' } j → PlP g f j ∨ w.heap.size ≤ j := by
  rintro j (e | hj | hj | hj | hj)
  ·exact .inl (.inl e)
  ·rcases blk_new nt hj with hj | hj
   ·exact .inl (.inr (.inl hj))
   ·exact .inr (by omega)
  ·rcases blk_new nl hj with hj | hj
   ·exact .inl (.inr (.inr (.inl hj)))
   ·exact .inr (by omega)
  ·exact .inl (.inr (.inr (.inr (.inl hj))))
  ·exact .inl (.inr (.inr (.inr (.inr hj))))
 have r5 : PlAt w5 g { f with ta := A, tn := n, tc := c, fa := B, fn := n', fc := c' } := by
  subst hw5
  exact (r4.s80 h.z A n c).s81 h.z B n' c'
 refine ⟨hA5, hs, h.mk5 hA5 hs r5 rfl rfl rfl rfl ⟨_, own_to ot hG.p (fun j hj e => own_no ot r4 (by decide) (blk_own.1 (e ▸ hj))), ?_⟩ ⟨_, own_to ol hG.p (fun j hj e => own_no ol r4 (by decide) (blk_own.1 (e ▸ hj))), Rows.app (Rows.mk1 (K := 1) (E := FlE) rfl (by simp [Value.oneCell']) rfl) hl⟩ ⟨su, own_to s1 hAo.p ?_, s2.imp fun _ _ x => x.to hA5.p hs⟩ ⟨eu, own_to e1 hAo.p ?_, e2.imp fun _ _ x => x.to hA5.p hs⟩⟩
 ·exact Rows.app (Rows.mk1 (K := 2) (E := JbE _ w5) (x := x) rfl (by simp [Value.oneCell']) ⟨X, xn, xd, rfl, hx, hX.to hA5.p hs⟩) (ht.imp fun _ _ x => x.to hA5.p hs)
 ·intro j hj hh
  have hj := blk_own.1 hj
  rcases hh with e | hh | hh
  ·subst e; exact own_no s1 h.row (by decide) hj
  ·exact own_apart s1 t1 (by decide) hj hh
  ·exact own_apart s1 l1 (by decide) hj hh
 ·intro j hj hh
  have hj := blk_own.1 hj
  rcases hh with e | hh | hh
  ·subst e; exact own_no e1 h.row (by decide) hj
  ·exact own_apart e1 t1 (by decide) hj hh
  ·exact own_apart e1 l1 (by decide) hj hh
theorem Pl.lens (h : Pl base w g p f) : p.todo.length = f.tn ∧ p.fl.length = f.fn ∧ p.sts.length = f.sn ∧ p.evs.length = f.en := by
 obtain ⟨tu, t1, t2⟩ := h.t
 obtain ⟨lu, l1, l2⟩ := h.l
 obtain ⟨su, s1, s2⟩ := h.s
 obtain ⟨eu, e1, e2⟩ := h.e
 have a1 := t1.1; have a2 := t2.len
 have b1 := l1.1; have b2 := l2.len
 have c1 := s1.1; have c2 := s2.len
 have d1 := e1.1; have d2 := e2.len
 omega
end
end Go.Proofs.YtpahicfnhhhifaaGreat
