/-
 Proved here, for the statement JournalTells:
 Layer 14: journal: slices.Chunk at []byte, cut every 256, as an iterator; rows o
 Layer 14: journal: a state cut into jobs (split).
-/
import Derived.Test.YtpahicfnhhhifaaGreatGt19
set_option linter.unusedVariables false
set_option linter.unusedSimpArgs false
namespace Go.Proofs.YtpahicfnhhhifaaGreat
set_option maxRecDepth 20000
open Go.RowKit Go.Shelf
set_option maxHeartbeats 8000000
attribute [local go_sem] Oper.semAt_some
def KpP (n₁ : Nat) (G : Nat → Prop) (A B : World) : Prop := A.heap.size ≤ B.heap.size ∧ ∀ j, j < n₁ → ¬ G j → B.heap[j]? = A.heap[j]?
section
variable {n₁ : Nat} {G : Nat → Prop} {A B C : World}
theorem KpP.refl (n₁ : Nat) (G : Nat → Prop) (A : World) : KpP n₁ G A A := ⟨Nat.le_refl _, fun _ _ _ => rfl⟩
theorem KpP.trans (h : KpP n₁ G A B) (k : KpP n₁ G B C) : KpP n₁ G A C := ⟨Nat.le_trans h.1 k.1, fun j hj hg => (k.2 j hj hg).trans (h.2 j hj hg)⟩
theorem KpP.cell (h : KpP n₁ G A B) {p : Addr} (h1 : p.block < n₁) (h2 : ¬ G p.block) : B.cell? p = A.cell? p := World.cell?_of_block (h.2 _ h1 h2)
theorem kpP_put {w : World} (hN : n₁ ≤ w.heap.size) (W : World) (l : Nat) (o o' : Obj) (hl : w.heap.size ≤ l) (h : W.heap[l]? = some o) (_ : o.isCells = false) (_ : o.isWalk = false) : KpP n₁ G W (W.putObj l o') :=
 ⟨by simp, fun j hj _ => World.putObj_heap_other (by omega)⟩
end
def chLen (L k : Nat) : Nat := min 256 (L - 256 * k)
set_option maxRecDepth 100000 in
theorem chunk256_in (B n l Bs Bn n₁ b o L M c : Nat) (A : Option Addr) (G : Nat → Prop) (hn : 1 ≤ n) (hM : M = (L + 255) / 256) (hA : 0 < L → A = some ⟨b, o, none⟩) (hLc : L ≤ c) (hL6 : L ≤ 1000000) (hc : c ≤ 9223372036854775807) (hs : Bs < n₁ ∧ ¬ G Bs) (hn2 : Bn < n₁ ∧ ¬ G Bn) (J Jx : List Nat → World → Prop) (hJ : AbidesFrom B J)
  (hY : ∀ pre x W, J pre W → pre.length < M → YieldAt Fence.wide (n - 1) Tryz.prog l #[.slice (some ⟨b, o + 256 * (x % M), none⟩) (chLen L (x % M)) (chLen L (x % M))] W fun e W' =>
   (e = .returned (.bool true) ∧ J (pre ++ [x]) W' ∧ KpP n₁ G W W') ∨ (e = .returned (.bool false) ∧ Jx (pre ++ [x]) W'))
  (W : World) (hBs : W.cell? ⟨Bs, 0, none⟩ = some (.slice A L c)) (hBn : W.cell? ⟨Bn, 0, none⟩ = some (.int .i64 256)) (h0 : J [] W) :
  CallsIn Fence.wide n Tryz.prog 136 #[.func (.yield l) #[] #[], .pointer (some ⟨Bs, 0, none⟩), .pointer (some ⟨Bn, 0, none⟩)] W fun e W' => (∃ v, e = .returned v) ∧
   ((∃ ys, ys = List.range M ∧ J ys W') ∨ (∃ pre, (∃ k, k ≤ M ∧ pre = List.range k) ∧ Jx pre W')) := by
 refine callsIn_of_wp Tryz.func136 rfl trivial ?_ rfl
 simp only [Tryz.ntmps136, List.size_toArray, List.length_cons, List.length_nil, Nat.reduceAdd, Nat.reduceSub, Array.replicate_succ, Array.replicate_zero, List.push_toArray, List.append_toArray, List.nil_append, List.cons_append]
 have HM := Lib.hid hM
 clear hM
 gi_wp2
 gi_loopw [4] (fun i wr => ∃ k p : Nat, k ≤ M ∧ p = 256 * k ∧ i = .int .i64 p ∧ J (List.range k) wr ∧ KpP n₁ G W wr)
  (fun i _ => L - (intOf i).toNat)
 case atStart => exact ⟨0, 0, Nat.zero_le _, by simp, rfl, h0, KpP.refl _ _ _⟩
 case round =>
  obtain ⟨k, p, hk, hp, rfl, hJs, hnx⟩ := hrel
  have hBs' := (hnx.cell (p := ⟨Bs, 0, none⟩) hs.1 hs.2).trans hBs
  have hBn' := (hnx.cell (p := ⟨Bn, 0, none⟩) hn2.1 hn2.2).trans hBn
  have HP := Lib.hid hp
  have hMM := HM.out
  by_cases hlt : k < M
  ·have hY0 := hY _ k wr.drew (hJ _ _ wr.drew none hJs ⟨rfl, rfl, rfl, Nat.le_refl _, fun _ _ _ => rfl⟩ (fun r e => by cases e)) (by rw [List.length_range]; exact hlt)
   rw [Nat.mod_eq_of_lt hlt] at hY0
   have hkL : 256 * k < L := by omega
   have hpk : p = 256 * k := hp
   obtain ⟨T, hT⟩ : ∃ T, chLen L k = T := ⟨_, rfl⟩
   have hT2 : T = min 256 (L - p) := by rw [← hT, hpk]; rfl
   rw [hT, ← hpk] at hY0
   obtain ⟨fn, tmps, assign, body, hy, hR⟩ := hY0
   obtain ⟨q, hq⟩ : ∃ q, q = p + T := ⟨_, rfl⟩
   have hAA := hA (by omega)
   rw [hAA] at hBs'
   have a1 : (p : Int) + (T : Int) = (q : Int) := by omega
   have a2 : (q : Int) ≤ (c : Int) := by omega
   have a3 : (p : Int) ≤ (q : Int) := by omega
   have a4 : q - p = T := by omega
   have a5 : (p : Int) < (L : Int) := by omega
   have a6 : min (256 : Int) ((L - p : Nat) : Int) = (T : Int) := by omega
   have a7 : ¬ (c = p) := by omega
   have a8 : p < L := by omega
   have a9 : (p : Int) ≤ (L : Int) := by omega
   obtain ⟨u, hu⟩ : ∃ u, u = p + 256 := ⟨_, rfl⟩
   have b1 : IntKind.i64.wrap ((p : Int) + 256) = (u : Int) := by rw [IntWalk.i64_in _ (by omega)]; omega
   have HQ := Lib.hid (show u = 256 * (k + 1) by omega)
   have hmu : L - u < L - p := by omega
   have HMU := Lib.hid hmu
   have HT := Lib.hid (show 1 ≤ T by omega)
   clear hp hMM hq hT hT2 hpk hkL hmu hAA hu
   gi_wp2
   gi_region
   gi_wp2
   refine hR.mono ?_
   rintro e W3 (⟨rfl, hJ3, hk3⟩ | ⟨rfl, hJx3⟩)
   ·have hnx3 : KpP n₁ G W W3 := hnx.trans (KpP.trans ⟨Nat.le_refl _, fun _ _ _ => rfl⟩ hk3)
    have hBn3 := (hnx3.cell (p := ⟨Bn, 0, none⟩) hn2.1 hn2.2).trans hBn
    gi_wp2
    go_roundw
    case rel => exact ⟨k + 1, u, by omega, HQ.out, by simp [b1], by rw [List.range_succ]; exact hJ3, hnx3⟩
    case measure => have := HMU.out; simp [intOf, b1]; omega
   ·gi_wp2
    refine bodyPost_ret (results_none rfl _ _ _) rfl ?_
    exact ⟨⟨_, rfl⟩, .inr ⟨_, ⟨k + 1, by omega, by rw [List.range_succ]⟩, hJx3⟩⟩
  ·obtain rfl : k = M := by omega
   have a5 : ¬ ((p : Int) < (L : Int)) := by omega
   clear hp hMM
   gi_wp2
   go_end0
   exact ⟨⟨_, rfl⟩, .inl hJs⟩
def RetChk (w : World) (A : Option Addr) (L c : Nat) (e : Ending) (w' : World) : Prop :=
 e = .returned (.func (.func 136) #[] #[.pointer (some ⟨w.heap.size, 0, none⟩), .pointer (some ⟨w.heap.size + 1, 0, none⟩)]) ∧ w'.cell? ⟨w.heap.size, 0, none⟩ = some (.slice A L c) ∧ w'.cell? ⟨w.heap.size + 1, 0, none⟩ = some (.int .i64 256) ∧ Below w.heap.size w w' ∧ w.heap.size + 1 < w'.heap.size
theorem chunk256_any (A : Option Addr) (L c : Nat) (w : World) : Calls Tryz.prog 100 #[.slice A L c, .int .i64 256] w (RetChk w A L c) := by
 go_enter Tryz.func100, Tryz.ntmps100
 go_wp2
 go_ret
 exact ⟨rfl, cell_of_row _ _ 0 _ _ _ (row2a ..), cell_of_row _ _ 0 _ _ _ (row2b ..), ((below_self w).alloc (Nat.le_refl _) _).alloc (by simp) _, by simp⟩
theorem chunk256_stops (n Bs Bn n₁ b o L M c : Nat) (A : Option Addr) (G : Nat → Prop) (hn : 1 ≤ n) (hM : M = (L + 255) / 256) (hA : 0 < L → A = some ⟨b, o, none⟩) (hLc : L ≤ c) (hL6 : L ≤ 1000000) (hc : c ≤ 9223372036854775807) (hs : Bs < n₁ ∧ ¬ G Bs) (hn2 : Bn < n₁ ∧ ¬ G Bn) (w : World) (hz : n₁ ≤ w.heap.size)
  (hBs : w.cell? ⟨Bs, 0, none⟩ = some (.slice A L c)) (hBn : w.cell? ⟨Bn, 0, none⟩ = some (.int .i64 256)) :
  SeqStopsK Fence.wide n Tryz.prog 136 #[.pointer (some ⟨Bs, 0, none⟩), .pointer (some ⟨Bn, 0, none⟩)] (fun x : Nat => #[Value.slice (some ⟨b, o + 256 * (x % M), none⟩) (chLen L (x % M)) (chLen L (x % M))]) (KpP n₁ G) (fun ys => ys = List.range M) (fun pre => ∃ k, k ≤ M ∧ pre = List.range k) M w := by
 intro l J Jx W hW hJ hJx hY h0
 exact chunk256_in W.heap.size n l Bs Bn n₁ b o L M c A G hn hM hA hLc hL6 hc hs hn2 J Jx hJ hY W ((hW.cell (p := ⟨Bs, 0, none⟩) (by show Bs < _; omega)).trans hBs) ((hW.cell (p := ⟨Bn, 0, none⟩) (by show Bn < _; omega)).trans hBn) h0
def OwParts (w : World) (base : Nat) : List Value → List Jb → Prop
 | [], [] => True
 | a :: v :: vs, p :: l => a = .int .i64 p.1 ∧ (-9223372036854775808 ≤ p.1 ∧ p.1 ≤ 9223372036854775807) ∧ (∃ A n c, v = .slice A n c ∧ OwnB w base A n c p.2) ∧ OwParts w base vs l
 | _, _ => False
theorem OwParts.keep {w w' : World} {base : Nat} (hk : ∀ A n c xs, OwnB w base A n c xs → OwnB w' base A n c xs) : ∀ {vs : List Value} {l : List Jb}, OwParts w base vs l → OwParts w' base vs l
 | [], [], _ => trivial
 | a :: v :: vs, p :: l, ⟨h1, h2, ⟨A, n, c, h3, h4⟩, h5⟩ => ⟨h1, h2, ⟨A, n, c, h3, hk A n c _ h4⟩, OwParts.keep hk h5⟩
theorem OwParts.snoc {w : World} {base : Nat} {a : Int} {A : Option Addr} {n c : Nat} {ys : List UInt8} (ha : -9223372036854775808 ≤ a ∧ a ≤ 9223372036854775807) (h : OwnB w base A n c ys) : ∀ {vs : List Value} {l : List Jb}, OwParts w base vs l → OwParts w base (vs ++ [.int .i64 a, .slice A n c]) (l ++ [(a, ys)])
 | [], [], _ => ⟨rfl, ha, ⟨A, n, c, rfl, h⟩, trivial⟩
 | _ :: _ :: _, _ :: _, ⟨h1, h2, h3, h5⟩ => ⟨h1, h2, h3, OwParts.snoc ha h h5⟩
theorem OwParts.wparts {w : World} {base : Nat} : ∀ {vs : List Value} {l : List Jb}, OwParts w base vs l → WParts w vs l
 | [], [], _ => trivial
 | _ :: _ :: _, _ :: _, ⟨h1, h2, ⟨A, n, c, h3, h4⟩, h5⟩ => ⟨h1, h2, ⟨A, n, c, h3, h4.rd⟩, OwParts.wparts h5⟩
def OwJ (w : World) (base : Nat) (A : Option Addr) (n c : Nat) (l : List Jb) : Prop := ∃ us, w.ownsRow base 60 2 (.slice A n c) n us ∧ OwParts w base us l
theorem owJ_nil (w : World) (base : Nat) : OwJ w base none 0 0 [] := ⟨[], World.ownsRow_nil w base _ 2, trivial⟩
theorem OwJ.agr {P : Nat → Prop} {w W : World} {base : Nat} {A : Option Addr} {n c : Nat} {l : List Jb} (h : OwJ w base A n c l) (ha : AgrP P w W) (hs : ∀ j, P j → j < base) : OwJ W base A n c l := by
 obtain ⟨us, h1, h2⟩ := h
 exact ⟨us, own_agr0 h1 ha hs, h2.keep (fun A n c xs hx => show OwnB W base A n c xs from own_agr0 hx ha hs)⟩
theorem below_agr {w w' : World} (h : Below w.heap.size w w') (P : Nat → Prop) : AgrP P w w' := ⟨h.size, fun j hj _ => h.block j hj⟩
theorem OwJ.below {w w' : World} {base : Nat} {A : Option Addr} {n c : Nat} {l : List Jb} (h : OwJ w base A n c l) (hb : Below w.heap.size w w') : OwJ w' base A n c l := h.agr (below_agr hb (fun _ => False)) (fun _ h => h.elim)
theorem OwJ.rd {w : World} {base : Nat} {A : Option Addr} {n c : Nat} {l : List Jb} (h : OwJ w base A n c l) : ∃ us, RdWs w A n c us l := by
 obtain ⟨us, h1, h2⟩ := h
 obtain ⟨f1, f2, f3, f4⟩ := own2_rd h1
 exact ⟨us, f1, f2, f3, f4, h2.wparts⟩
theorem OwJ.inn {P : Nat → Prop} {w : World} {base : Nat} {A : Option Addr} {n c : Nat} {l : List Jb} (h : OwJ w base A n c l) (hs : ∀ j, P j → j < base) : WsIn P w A n c l := by
 obtain ⟨us, h1, h2⟩ := h
 refine ⟨us, fun W hW => ?_⟩
 obtain ⟨f1, f2, f3, f4⟩ := own2_rd (own_agr0 h1 hW hs)
 exact ⟨f1, f2, f3, f4, (h2.keep (fun A n c xs hx => show OwnB W base A n c xs from own_agr0 hx hW hs)).wparts⟩
theorem OwJ.app {w w' : World} {base : Nat} {A A' B : Option Addr} {n c c' k d : Nat} {l : List Jb} {a : Int} {ys : List UInt8} {us : List Value} (h1 : w.ownsRow base 60 2 (.slice A n c) n us) (h2 : OwParts w base us l) (ho : w'.ownsRow base 60 2 (.slice A' (n + 1) c') (n + 1) (us ++ [.int .i64 a, .slice B k d])) (hg : w.grownBy w' (Value.slice A n c).ownBlock) (hd : OwnB w base B k d ys) (ha : -9223372036854775808 ≤ a ∧ a ≤ 9223372036854775807) : OwJ w' base A' (n + 1) c' (l ++ [(a, ys)]) := by
 have hk : ∀ A n c xs, OwnB w base A n c xs → OwnB w' base A n c xs := fun A n c xs hx => own_grown h1 (show w.ownsRow base 5 1 (.slice A n c) n (xs.map vB) from hx) (by decide) hg
 exact ⟨_, ho, (h2.keep hk).snoc ha (hk _ _ _ _ hd)⟩
end Go.Proofs.YtpahicfnhhhifaaGreat
namespace Go.Proofs.YtpahicfnhhhifaaGreat
set_option maxRecDepth 20000
open Go.RowKit Go.Shelf
set_option maxHeartbeats 8000000
attribute [local go_sem] Oper.semAt_some
section
variable {F : Fence} {n : Nat} {ops : Array Oper} {rest : List Oper} {o : Oper} {a : Act} {w : World} {Q : Exit → Act → World → Prop}
theorem makeIn (hgd : o.guard = none) (l c : Operand) (ho : o.op = Op.makeSlice 47 l c) (kl kc : IntKind) (k : Nat) (hl : a.eval l = .int kl k) (hc : a.eval c = .int kc k) (hn : k ≤ 70368744177664)
  (h : ∀ w', OwnB w' w.heap.size (some ⟨w.heap.size, 0, none⟩) k k (List.replicate k 0) → Below w.heap.size w w' → wpListIn F n Tryz.prog ops Q rest (a.put o.dst (.slice (some ⟨w.heap.size, 0, none⟩) k k)) w') : wpListIn F n Tryz.prog ops Q (o :: rest) a w := by
 refine wpListIn_plain hgd fun K hK' => ?_
 obtain ⟨i, hi, hz, hsz, hby⟩ := info_parts elemB.info
 obtain ⟨w', hrun, r1, r2⟩ := run_make_full (P := Tryz.prog) w w.heap.size 47 _ i _ 1 elemB.slice hi hz hsz kl kc k (by rw [hby]; omega) (by unfold maxLen; omega) (Nat.le_refl _)
 have hb : Below w.heap.size w w' := ⟨r2.os, r2.tape, r2.output, r2.size, fun q hq => r2.block q hq (by simp)⟩
 have hO : OwnB w' w.heap.size (some ⟨w.heap.size, 0, none⟩) k k (List.replicate k 0) := by
  unfold OwnB
  have e : (madeCells (Value.int .u8 0).cells (k * 1)).toList = (List.replicate k (0 : UInt8)).map vB := by
   rw [Nat.mul_one, show (Value.int .u8 0).cells = #[Value.int .u8 0] from rfl, toList_madeCells_one, List.map_replicate]; rfl
  rw [← e]; exact r1
 unfold Oper.wpIn
 refine ⟨?_, ?_⟩
 ·simp [Oper.about, ho]
 ·rw [Oper.semAt_plain F _ _ (by rw [ho]; intro c hc'; cases hc')]
  simp [execOp, ho, hl, hc, hrun, Result.andThen]
  exact hK' _ _ (h w' hO hb)
theorem copyIn (hgd : o.guard = none) (d s : Operand) (ho : o.op = .call { callee := .builtin .copy, args := #[d, s], argTypes := #[47, 47] })
  (g base k : Nat) (xs : List UInt8) (hown : OwnB w base (some ⟨g, 0, none⟩) k k xs) (m : Nat) (hd : a.eval d = .slice (some ⟨g, 0, none⟩) k k) (sp : Option Addr) (sc : Nat) (ys : List UInt8) (hs : a.eval s = .slice sp m sc) (hr : RdB w sp m sc ys) (hm : 0 < m) (hle : m ≤ k)
  (h : ∀ w', OwnB w' base (some ⟨g, 0, none⟩) k k (ys ++ xs.drop m) → (∀ j, j ≠ g → w'.heap[j]? = w.heap[j]?) → w'.heap.size = w.heap.size → Below g w w' → wpListIn F n Tryz.prog ops Q rest (a.put o.dst (.int .i64 m)) w') : wpListIn F n Tryz.prog ops Q (o :: rest) a w := by
 refine wpListIn_plain hgd fun K hK' => ?_
 have hsz : (Tryz.prog.info? 5).map (·.size) = some 1 := by
  obtain ⟨i, hi, _, hz, _⟩ := info_parts elemB.info
  rw [hi]; simp [hz]
 have hlen := hown.len
 have hl : (ys.map vB).length = m := by simp [hr.2.1]
 have hn : (ys.map vB).length = Nat.min m k := by rw [hl]; exact (Nat.min_eq_left hle).symm
 rcases hown.2 with ⟨h1, _⟩ | ⟨g', cap, cur, hv, hbg, hg, hnc, hcm, hcs, htake⟩
 ·cases h1
 ·injection hv with h1 _ h2
  injection h1 with h1
  injection h1 with h1
  subst h1 h2
  rw [Nat.mul_one] at hcs htake
  obtain ⟨b, o', u, rfl, _⟩ := hr.at_ 0 hm
  have hrun := run_copy_row (P := Tryz.prog) w 47 47 o.type _ g 0 k k ⟨b, o', none⟩ m sc _ _ (ys.map vB) elemB.slice hsz hg hn (fun j v hj => by
   have hj' : j < m := by have := (List.getElem?_eq_some_iff.1 hj).1; simpa [hr.2.1] using this
   obtain ⟨b2, o2, u2, he, _, hx2, hc⟩ := hr.at_ j hj'
   injection he with he
   injection he with e1 e2
   subst e1 e2
   rw [Addr.add_lit, hc, ← hj]
   simp [hx2, vB]) (by rw [hl]; omega) (oneCell_vB _)
  have e : (goInt ys.length) = .int .i64 m := by rw [hr.2.1]; rfl
  have hcur : cur.toList = xs.map vB := by
   rw [← htake]; exact (List.take_of_length_le (by simpa using Nat.le_of_eq hcs)).symm
  unfold Oper.wpIn
  refine ⟨?_, ?_⟩
  ·simp [Oper.about, ho, resolve, Target.leads, Sem.run_pure]
  ·rw [Oper.semAt_plain F _ _ (by rw [ho]; intro c hc'; cases hc')]
   simp [execOp, ho, resolve, invoke, builtin, hd, hs, hrun, Result.andThen]
   rw [e]
   refine hK' _ _ (h _ ?_ (fun j hj => setRow_other _ _ _ _ hj) (by simp) (below_setRow (Below.refl _ _) (Nat.le_refl _) _))
   refine ⟨by simp [hr.2.1]; omega, .inr ⟨g, k, _, rfl, hbg, setRow_heap w g _ _ _ _ hg, Nat.le_refl _, hcm, ?_, ?_⟩⟩
   ·simp [hr.2.1, hcs]; omega
   ·have hxl : xs.length = k := hlen
    simp [hr.2.1, hcur]
    rw [List.take_of_length_le (by simp [hr.2.1]; omega)]
theorem appJIn (hgd : o.guard = none) (s x : Operand) (ho : o.op = .call { callee := .builtin .append, args := #[s, x], argTypes := #[31, 31] })
  (base : Nat) (v : Value) (k : Nat) (xs : List Value) (hs : a.eval s = v) (hown : w.ownsRow base 60 2 v k xs)
  (A : Option Addr) (m c : Nat) (news : List Value) (hx : a.eval x = .slice A m c) (hr : Rd w A news) (hm : news.length = 2 * m) (h1 : ∀ u ∈ news, u.oneCell' = true)
  (h63 : k + m ≤ 1000000) (hbase : base ≤ w.heap.size)
  (h : ∀ A' c' w', w'.ownsRow base 60 2 (.slice A' (k + m) c') (k + m) (xs ++ news) → w.grownBy w' v.ownBlock → wpListIn F n Tryz.prog ops Q rest (a.put o.dst (.slice A' (k + m) c')) w') : wpListIn F n Tryz.prog ops Q (o :: rest) a w := by
 refine wpListIn_plain hgd fun K hK' => ?_
 obtain ⟨A', c', w', hrun, h2, h3⟩ := run_appJ (w := w) o.type base v k xs hown A m c news hr hm h1 h63 hbase
 unfold Oper.wpIn
 refine ⟨?_, ?_⟩
 ·simp [Oper.about, ho, resolve, Target.leads, Sem.run_pure]
 ·rw [Oper.semAt_plain F _ _ (by rw [ho]; intro c hc'; cases hc')]
  simp [execOp, ho, resolve, invoke, builtin, hs, hx, hrun, Result.andThen]
  exact hK' _ _ (h A' c' w' h2 h3)
end
theorem own_monoK {w : World} {base base' : Nat} {e : TypeId} {size n : Nat} {v : Value} {xs : List Value} (h : w.ownsRow base e size v n xs) (hb : base' ≤ base) : w.ownsRow base' e size v n xs := by
 refine ⟨h.1, ?_⟩
 rcases h.2 with h1 | ⟨g, cap, cur, hv, hbb, r⟩
 ·exact .inl h1
 ·exact .inr ⟨g, cap, cur, hv, Nat.le_trans hb hbb, r⟩
theorem OwParts.keep' {w : World} {base base' : Nat} (hb : base' ≤ base) : ∀ {vs : List Value} {l : List Jb}, OwParts w base vs l → OwParts w base' vs l
 | [], [], _ => trivial
 | a :: v :: vs, p :: l, ⟨h1, h2, ⟨A, n, c, h3, h4⟩, h5⟩ => ⟨h1, h2, ⟨A, n, c, h3, own_mono h4 hb⟩, OwParts.keep' hb h5⟩
def spJobs (state : List UInt8) (at0 M : Nat) (pre : List Nat) : List Jb := (List.range pre.length).map (fun (j : Nat) => (((at0 + j : Nat) : Int), jnSec state (pre.getD j 0 % M)))
theorem spJobs_snoc (state : List UInt8) (at0 M : Nat) (pre : List Nat) (x : Nat) : spJobs state at0 M (pre ++ [x]) = spJobs state at0 M pre ++ [(((at0 + pre.length : Nat) : Int), jnSec state (x % M))] := by
 unfold spJobs
 rw [List.length_append, List.length_singleton, List.range_succ, List.map_append]
 congr 1
 ·apply List.map_congr_left
  intro j hj
  have hj' : j < pre.length := by simpa using hj
  rw [List.getD, List.getD, List.getElem?_append_left hj']
 ·simp [List.getD]
theorem spJobs_range (state : List UInt8) (at0 M : Nat) : spJobs state at0 M (List.range M) = jnSplitK state (at0 : Int) M := by
 unfold spJobs jnSplitK
 rw [List.length_range]
 apply List.map_congr_left
 intro j hj
 have hj' : j < M := by simpa using hj
 simp [List.getD, hj', Nat.mod_eq_of_lt hj']
def SpI (w0 w5 : World) (g h : Nat) (state : List UInt8) (at0 M : Nat) (pre : List Nat) (W : World) : Prop :=
 ∃ A c, W.heap[g]? = some (.cells #[.slice A pre.length c] 31 (0, 0)) ∧ W.heap[h]? = some (.cells #[.int .i64 ((at0 + pre.length : Nat) : Int)] 3 (0, 0)) ∧ OwJ W w5.heap.size A pre.length c (spJobs state at0 M pre) ∧ KpP w5.heap.size (fun j => j = g ∨ j = h) w5 W ∧ Below w0.heap.size w0 W
theorem OwJ.grow {A B : World} {base n c Bd : Nat} {S : Option Addr} {l : List Jb} {row : Option Nat} (h : OwJ A base S n c l) (hg : A.grownBy B row) (hr : ∀ r, row = some r → Bd ≤ r ∧ ∃ o : Obj, A.heap[r]? = some o ∧ o.isCells = false) : OwJ B base S n c l := by
 obtain ⟨us, h1, h2⟩ := h
 exact ⟨us, down_keepT h1 (fun g' cur' _ hg' => (row_kept hg' hg hr).trans hg'.symm), h2.keep (fun A n c xs hx => down_keepT hx (fun g' cur' _ hg' => (row_kept hg' hg hr).trans hg'.symm))⟩
theorem spI_own {w0 w5 : World} {g h : Nat} (state : List UInt8) (at0 M : Nat) (hg : g < w5.heap.size) (hh : h < w5.heap.size) (hw : w0.heap.size ≤ w5.heap.size) : OwnFrom w5.heap.size (SpI w0 w5 g h state at0 M) := by
 rintro pre A B row ⟨S, c, h1, h2, h3, h4, h5⟩ hgr hr
 exact ⟨S, c, row_kept h1 hgr hr, row_kept h2 hgr hr, h3.grow hgr hr, ⟨Nat.le_trans h4.1 hgr.size, fun j hj hjg => (hgr.block j (by have := h4.1; omega) (fun e => by have := (hr j e.symm).1; omega)).trans (h4.2 j hj hjg)⟩, h5.grown hgr h5.size (fun r e => Nat.le_trans hw (hr r e).1)⟩
def RetJs (w : World) (l : List Jb) (e : Ending) (w' : World) : Prop := ∃ A n c, e = .returned (.slice A n c) ∧ OwJ w' w.heap.size A n c l ∧ Below w.heap.size w w'
theorem sec_copy (state : List UInt8) (i : Nat) (h : 256 * i < state.length) : (state.drop (256 * i)).take (chLen state.length i) ++ (List.replicate 256 (0 : UInt8)).drop (chLen state.length i) = jnSec state i := by
 unfold jnSec chLen
 have e : (state.drop (256 * i)).take (min 256 (state.length - 256 * i)) = (state.drop (256 * i)).take 256 := by
  rw [List.take_eq_take_iff]; simp
 rw [e]
 have hl : ((state.drop (256 * i)).take 256).length = min 256 (state.length - 256 * i) := by simp
 generalize (state.drop (256 * i)).take 256 = T at hl
 rw [List.take_append, List.take_of_length_le (by rw [hl]; omega), hl, List.drop_replicate, List.take_replicate]
 congr 2
 omega
theorem one_rd {w : World} {g : Nat} {u v : Value} {T : TypeId} (q : w.heap[g]? = some (.cells #[u, v] T (0, 0))) : Rd w (some ⟨g, 0, none⟩) [u, v] :=
 .inr ⟨g, 0, rfl, drw_lt q, fun i z hz => by rw [cell_of_row w g (0 + i) _ _ _ q]; simpa using hz⟩
set_option maxRecDepth 100000 in
theorem jrnSplit_any (A : Option Addr) (L c : Nat) (state : List UInt8) (slot : Int) (w : World) (hr : RdB w A L c state) (hL : L ≤ 100000) :
  Calls Tryz.prog 59 #[.slice A L c, .int .i64 slot] w (RetJs w (jnSplit state slot)) := by
 obtain ⟨at0, hat⟩ : ∃ k : Nat, (if slot = 0 then (2 : Int) else 50) = (k : Int) := by
  by_cases h : slot = 0
  ·exact ⟨2, by rw [if_pos h]; rfl⟩
  ·exact ⟨50, by rw [if_neg h]; rfl⟩
 have hat2 : at0 ≤ 50 := by split at hat <;> omega
 have hR : jnSplit state slot = jnSplitK state (at0 : Int) ((L + 255) / 256) := by unfold jnSplit; rw [hat, hr.2.1]
 rw [hR]
 have C1 := Lib.hid (fun W => suPlace_any slot W)
 rw [hat] at C1
 obtain ⟨M, hM⟩ : ∃ M, M = (L + 255) / 256 := ⟨_, rfl⟩
 rw [← hM]
 have HM := Lib.hid hM
 obtain ⟨b, o, hA⟩ : ∃ b o, 0 < L → A = some ⟨b, o, none⟩ := by
  rcases hr.1 with h0 | ⟨b, o, h, _⟩
  ·refine ⟨0, 0, fun h => ?_⟩
   have := hr.2.1
   rw [List.map_eq_nil_iff.1 h0] at this
   simp at this; omega
  ·exact ⟨b, o, fun _ => h⟩
 have hbw : 0 < L → b < w.heap.size := fun h => by
  obtain ⟨b', o', u, e, hb, _⟩ := hr.at_ 0 h
  rw [hA h] at e
  injection e with e
  injection e with e1 e2
  omega
 have hLc := hr.2.2.1
 have hcm := hr.2.2.2
 unfold maxLen at hcm
 have HA := Lib.hid hA
 have HBW := Lib.hid hbw
 have HR := Lib.hid hr
 clear hat hR hM hA hbw
 obtain ⟨V, hV⟩ : ∃ V, V = w.alloc (.cells #[.slice none 0 0] 31) := ⟨_, rfl⟩
 have bV : Below w.heap.size w V := by rw [hV]; exact (below_self w).alloc (Nat.le_refl _) _
 have qV : Hid (V.heap[w.heap.size]? = some (.cells #[.slice none 0 0] 31 (0, 0))) := by rw [hV]; exact Lib.hid (drw_at _ rfl)
 have zV : Hid (V.heap.size = w.heap.size + 1) := by rw [hV]; exact Lib.hid (by simp)
 have HV := Lib.hid hV
 clear hV
 refine (callsIn_wide (n := 3)).1 ?_
 refine callsIn_of_wp_marks Tryz.func59 rfl trivial ?_ rfl
 simp only [Tryz.ntmps59, List.size_toArray, List.length_cons, List.length_nil, Nat.reduceAdd, Nat.reduceSub, Array.replicate_succ, Array.replicate_zero, List.push_toArray, List.append_toArray, List.nil_append, List.cons_append]
 refine wpIn_wide.2 ?_
 go_wp2_with fail
 rw [← HV.out]
 refine (C1.out V).mono ?_
 rintro e w2 ⟨rfl, rfl⟩
 obtain ⟨W3, hW3⟩ : ∃ W, W = V.alloc (.cells #[.int .i64 (at0 : Int)] 3) := ⟨_, rfl⟩
 have b3 : Below V.heap.size V W3 := by rw [hW3]; exact (below_self V).alloc (Nat.le_refl _) _
 have q3 : Hid (W3.heap[V.heap.size]? = some (.cells #[.int .i64 (at0 : Int)] 3 (0, 0))) := by rw [hW3]; exact Lib.hid (drw_at _ rfl)
 have HW3 := Lib.hid hW3
 clear hW3
 go_wp2_with fail
 rw [← HW3.out]
 refine (chunk256_any A L c W3).mono ?_
 rintro e w5 ⟨rfl, hcs, hcn, hb5, hz5⟩
 have B5 : Below w.heap.size w w5 := below_then bV (below_then b3 hb5)
 have zz := zV.out
 have z3 : W3.heap.size = w.heap.size + 2 := by rw [HW3.out]; simp [zz]
 have hz55 : w.heap.size + 4 ≤ w5.heap.size := by omega
 have q0 : Hid (w5.heap[w.heap.size]? = some (.cells #[.slice none 0 0] 31 (0, 0))) := Lib.hid ((hb5.block _ (by omega)).trans ((b3.block _ (by omega)).trans qV.out))
 have q1 : Hid (w5.heap[w.heap.size + 1]? = some (.cells #[.int .i64 (at0 : Int)] 3 (0, 0))) := Lib.hid ((hb5.block _ (by omega)).trans (by rw [← zz]; exact q3.out))
 have hr5 := HR.out.below B5
 rw [zz]
 rw [z3] at hcs hcn
 rw [show (W3.heap.size : Nat) = w.heap.size + 2 from z3]
 go_wp2_with fail
 refine (wpIn_wide (n := 3)).1 ?_
 refine wpIn_rangeFunc_ownF rfl (by omega) (gf := 136) (lb := #[.pointer (some ⟨w.heap.size + 2, 0, none⟩), .pointer (some ⟨w.heap.size + 2 + 1, 0, none⟩)]) rfl trivial (enters_of Tryz.func136 (by kernel_rfl) rfl)
  (chunk256_stops 2 (w.heap.size + 2) (w.heap.size + 2 + 1) w5.heap.size b o L M c A (fun j => j = w.heap.size ∨ j = w.heap.size + 1) (by omega) HM.out HA.out hLc (by omega) (by omega) ⟨by omega, by omega⟩ ⟨by omega, by omega⟩ w5 (Nat.le_refl _) hcs hcn) (fun h k => h.trans k) (kpP_put (Nat.le_refl _)) (Below.refl _ _) (fun _ => rfl)
  (SpI w w5 w.heap.size (w.heap.size + 1) state at0 M) (fun _ _ _ => False) (spI_own state at0 M (by omega) (by omega) B5.size) (fun _ _ _ _ _ hs _ _ => hs) ⟨none, 0, q0.out, q1.out, owJ_nil _ _, KpP.refl _ _ _, B5⟩ ?act ?assign ?body ?done ?stop
 case assign =>
  intro l x W K hK
  gi_wp2
  exact hK
 case body =>
  rintro l pre x W ⟨S, sc, h1, h2, h3, hk, hB⟩ hlt
  have hi : x % M < M := Nat.mod_lt _ (by omega)
  have hwz := B5.size
  obtain ⟨i, hix⟩ : ∃ i, x % M = i := ⟨x % M, rfl⟩
  have HM' := HM.out
  rw [hix] at hi ⊢
  have hL0 : 0 < L := by omega
  have hiL : 256 * i < L := by omega
  obtain ⟨T, hT⟩ : ∃ T, chLen L i = T := ⟨chLen L i, rfl⟩
  have hT2 : T = min 256 (L - 256 * i) := by rw [← hT]; rfl
  have hsec := sec_copy state i (by rw [hr5.2.1]; exact hiL)
  rw [hr5.2.1, hT] at hsec
  rw [hT]
  have hwW := hk.1
  have hrd : RdB W (some ⟨b, o + 256 * i, none⟩) T T ((state.drop (256 * i)).take T) := by
   have hbl := HBW.out hL0
   have hr6 := hr5
   rw [HA.out hL0] at hr6
   have h1 := rdB_block hr6 hk.1 (hk.2 b (by omega) (by omega))
   have h2 := h1.cutS (256 * i) (L - 256 * i) (by omega) (by omega)
   exact (h2.take T (by omega)).cap T (Nat.le_refl _) (by unfold maxLen; omega)
  obtain ⟨kk, hkk⟩ : ∃ k, pre.length = k := ⟨_, rfl⟩
  rw [hkk] at h1 h2 h3
  obtain ⟨NA, hNA⟩ : ∃ k, k = at0 + kk := ⟨_, rfl⟩
  obtain ⟨NB, hNB⟩ : ∃ k, k = at0 + (kk + 1) := ⟨_, rfl⟩
  rw [← hNA] at h2
  have eN : IntKind.i64.wrap (NB : Int) = (NB : Int) := IntWalk.i64_in _ (by omega)
  have eN2 : (NA : Int) + 1 = (NB : Int) := by omega
  have hJ2 : spJobs state at0 M (pre ++ [x]) = spJobs state at0 M pre ++ [((NA : Int), jnSec state i)] := by rw [spJobs_snoc, hkk, hix, hNA]
  have HJ2 := Lib.hid hJ2
  have HNB := Lib.hid hNB
  have HKK := Lib.hid hkk
  have HSEC := Lib.hid hsec
  have HRD := Lib.hid hrd
  have H1 := Lib.hid h1
  have H2 := Lib.hid h2
  have H3 := Lib.hid h3
  have HT1 := Lib.hid (show 0 < T ∧ T ≤ 256 by omega)
  have HKM := Lib.hid (show kk < M by omega)
  have HNR := Lib.hid (show NA ≤ 1000000 by omega)
  have hM5 : M ≤ 500 := by omega
  clear hJ2 hNB hkk hsec hrd h1 h2 h3 hT2 hT hix hNA hiL hi HM'
  have hx1 : w.heap.size < W.heap.size := by omega
  have hx2 : w.heap.size + 1 < W.heap.size := by omega
  gi_wp2_with (first
   | (refine makeIn rfl _ _ rfl .i64 .i64 256 rfl rfl (by omega) ?_; intro W1 o1 b1)
   | (refine copyIn rfl _ _ rfl W.heap.size W.heap.size 256 _ o1 T rfl _ T _ rfl (HRD.out.below b1) HT1.out.1 HT1.out.2 ?_; intro W2 o2 n2 z2 bb2; rw [HSEC.out] at o2; have r0 : Hid (W2.heap[w.heap.size]? = _) := Lib.hid ((n2 _ (by omega)).trans (drw_up H1.out b1)); have r1 : Hid (W2.heap[w.heap.size + 1]? = _) := Lib.hid ((n2 _ (by omega)).trans (drw_up H2.out b1)); have k0 := (cell_of_row _ _ 0 _ _ _ r0.out).trans rfl; have k1 := (cell_of_row _ _ 0 _ _ _ r1.out).trans rfl; have Z2 := Lib.hid z2; clear z2
      obtain ⟨X, hX⟩ : ∃ X, X = W2.alloc (.cells #[.int .i64 (NA : Int), .slice (some ⟨W.heap.size, 0, none⟩) 256 256] 60) := ⟨_, rfl⟩
      have bX : Below W2.heap.size W2 X := by rw [hX]; exact (below_self W2).alloc (Nat.le_refl _) _
      have xr : Hid (X.heap[W2.heap.size]? = some (.cells #[.int .i64 (NA : Int), .slice (some ⟨W.heap.size, 0, none⟩) 256 256] 60 (0, 0))) := by rw [hX]; exact Lib.hid (drw_at _ rfl)
      have HX := Lib.hid hX
      have ag2 : AgrP (fun j => j = W.heap.size) W1 W2 := ⟨Nat.le_of_eq Z2.out.symm, fun j _ hn => n2 j hn⟩
      have h3x : OwJ X w5.heap.size S kk sc (spJobs state at0 M pre) := by
       obtain ⟨us, u1, u2⟩ := H3.out.below b1
       have hne : ∀ {base n size : Nat} {e : TypeId} {v : Value} {xs : List Value}, W.ownsRow base e size v n xs → W2.ownsRow base e size v n xs := fun h => down_keepT h (fun g' cur' _ hg' => (n2 g' (by have := drw_lt hg'; omega)).trans (b1.block _ (drw_lt hg')))
       obtain ⟨us, u1, u2⟩ := H3.out
       exact OwJ.below ⟨us, hne u1, u2.keep (fun A n c xs hx => hne hx)⟩ bX
      obtain ⟨us, u1, u2⟩ := h3x
      have U := Lib.hid (And.intro u1 u2)
      clear u1 u2 hX)
   | (rw [← HX.out]; refine appJIn rfl _ _ rfl w5.heap.size _ kk us rfl U.out.1 _ 1 1 [.int .i64 (NA : Int), .slice (some ⟨W.heap.size, 0, none⟩) 256 256] rfl (one_rd xr.out) rfl (by simp [Value.oneCell']) (by have := HKM.out; omega) (by have := bX.size; have := b1.size; have := Z2.out; omega) ?_; intro A4 c4 w4 ho4 hg4
      have q0 : Hid (w4.heap[w.heap.size]? = _) := Lib.hid ((hg4.block _ (by have := bX.size; have := b1.size; have := Z2.out; omega) (fun e => by have := (U.out.1.lt _ e.symm).1; omega)).trans (drw_up r0.out bX))
      have q1 : Hid (w4.heap[w.heap.size + 1]? = _) := Lib.hid ((hg4.block _ (by have := bX.size; have := b1.size; have := Z2.out; omega) (fun e => by have := (U.out.1.lt _ e.symm).1; omega)).trans (drw_up r1.out bX))
      have k0 := (cell_of_row _ _ 0 _ _ _ q0.out).trans rfl
      have k1 := (cell_of_row _ _ 0 _ _ _ q1.out).trans rfl
      have f0 := frozen_of_row _ _ 0 _ _ q0.out
      have f1 := frozen_of_row _ _ 0 _ _ q1.out))
  have hg5 : X.grownBy w4 (Value.slice S kk sc).ownBlock := hg4
  have zX : W.heap.size ≤ X.heap.size := by have := bX.size; have := b1.size; have := Z2.out; omega
  have hmid : ∀ k, k < W.heap.size → X.heap[k]? = W.heap[k]? := fun k hk' => (bX.block k (by have := b1.size; have := Z2.out; omega)).trans ((n2 k (by omega)).trans (b1.block k hk'))
  have hblk : ∀ k, k < W.heap.size → (Value.slice S kk sc).ownBlock ≠ some k → k ≠ w.heap.size → k ≠ w.heap.size + 1 → ((w4.setCell ⟨w.heap.size, 0, none⟩ (.slice A4 (kk + 1) c4)).setCell ⟨w.heap.size + 1, 0, none⟩ (.int .i64 (NB : Int))).heap[k]? = W.heap[k]? := fun k hk' h1 h2 h3 =>
   (setc_rowO (fun e => h3 e.symm)).trans ((setc_rowO (fun e => h2 e.symm)).trans ((hg5.block k (by omega) (fun e => h1 e.symm)).trans (hmid k hk')))
  have hsz : W.heap.size ≤ ((w4.setCell ⟨w.heap.size, 0, none⟩ (.slice A4 (kk + 1) c4)).setCell ⟨w.heap.size + 1, 0, none⟩ (.int .i64 (NB : Int))).heap.size := by have := hg5.size; simp; omega
  have hown : ∀ q, (Value.slice S kk sc).ownBlock = some q → w5.heap.size ≤ q := fun q e => (U.out.1.lt _ e).1
  have hd : OwnB X w5.heap.size (some ⟨W.heap.size, 0, none⟩) 256 256 (jnSec state i) := own_mono (o2.upB bX) hwW
  have hJ4 := OwJ.app U.out.1 U.out.2 ho4 hg5 hd (by have := HNR.out; omega)
  refine ⟨⟨hsz, fun k o hk' ho' => ?_⟩, ⟨hsz, fun j hj hn => ?_⟩, A4, c4, ?_, ?_, ?_, ?_, ?_⟩
  ·have hlt' := drw_lt hk'
   by_cases e1 : k = w.heap.size
   ·subst e1; rw [H1.out] at hk'; cases hk'; cases ho'
   ·by_cases e2 : k = w.heap.size + 1
    ·subst e2; rw [H2.out] at hk'; cases hk'; cases ho'
    ·refine (hblk k hlt' (fun e => ?_) e1 e2).trans hk'
     rcases U.out.1.2 with ⟨h0, _⟩ | ⟨gg, cap, cur, hv, hbb, hgg, _⟩
     ·rw [h0] at e; simp [Value.ownBlock] at e
     ·rw [hv] at e
      simp [Value.ownBlock] at e
      subst e
      rw [hmid gg hlt', hk'] at hgg
      cases hgg; cases ho'
  ·exact hblk j (by omega) (fun e => by have := hown j e; omega) (fun e => hn (.inl e)) (fun e => hn (.inr e))
  ·rw [List.length_append, List.length_singleton, HKK.out]
   exact (setc_rowO (by omega)).trans (setc_rowT q0.out)
  ·rw [List.length_append, List.length_singleton, HKK.out, ← HNB.out]
   exact setc_rowT ((setc_rowO (by omega)).trans q1.out)
  ·rw [List.length_append, List.length_singleton, HKK.out, HJ2.out]
   exact hJ4.agr (P := fun j => j = w.heap.size ∨ j = w.heap.size + 1) (((AgrP.refl _ w4).set (.inl rfl) _).set (.inr rfl) _) (fun j hj => by omega)
  ·exact hk.trans ⟨hsz, fun j hj hn => hblk j (by omega) (fun e => by have := hown j e; omega) (fun e => hn (.inl e)) (fun e => hn (.inr e))⟩
  ·have hb4 : Below w.heap.size w w4 := by
    have hbX : Below w.heap.size w X := below_then (below_then hB b1 |>.trans (bb2.mono (by omega))) bX
    exact hbX.grown hg5 hbX.size (fun q hq => by have := hown q hq; omega)
   exact (hb4.setCell (p := ⟨w.heap.size, 0, none⟩) (Nat.le_refl _) _).setCell (p := ⟨w.heap.size + 1, 0, none⟩) (by show _ ≤ _ + 1; omega) _
 case done =>
  rintro D ys W hD rfl ⟨A9, c9, h1, h2, h3, hk, hB⟩ hDf
  rw [List.length_range] at h1 h2 h3
  rw [spJobs_range] at h3
  have k0 := (cell_of_row _ _ 0 _ _ _ h1).trans (show (#[.slice A9 M c9] : Array Value)[0]? = some (.slice A9 M c9) from rfl)
  have HD := Lib.hid hDf
  have H3 := Lib.hid h3
  clear h1 h2 h3 hDf
  go_wp2_with fail
  refine ⟨by simp, .inl ⟨_, _, rfl, run_takeDeferred HD.out, ?_⟩⟩
  refine ⟨.slice A9 M c9, by simp [results, Tryz.results59, go_sem], ?_⟩
  refine ⟨A9, M, c9, rfl, ?_, hB.trans (belowK_b (w := w) (Nat.le_refl _) _ D _ _ (by omega) HD.out rfl rfl)⟩
  have hj := H3.out.grow (Bd := 0) (grownBy_putObj' _ D (.deferred none)) (fun r e => by cases e; exact ⟨Nat.zero_le _, _, HD.out, rfl⟩)
  obtain ⟨us, u1, u2⟩ := hj
  exact ⟨us, own_monoK u1 B5.size, u2.keep' B5.size⟩
 case stop =>
  rintro D c pre W _ _ h _
  exact h.elim
end Go.Proofs.YtpahicfnhhhifaaGreat
