/-
 Proved here, for the statement JournalForged:
 Layer 14: journal: rows of jobs: append, Clone, what is left of a row.
-/
import Derived.Test.YtpahicfnhhhifaaGreatGf15
set_option linter.unusedVariables false
set_option linter.unusedSimpArgs false
namespace Go.Proofs.YtpahicfnhhhifaaGreat
set_option maxRecDepth 20000
open Go.RowKit
set_option maxHeartbeats 8000000
theorem run_appJ {w : World} (ty : TypeId) (base : Nat) (v : Value) (n : Nat) (xs : List Value) (hown : w.ownsRow base 60 2 v n xs)
  (A : Option Addr) (m c : Nat) (news : List Value) (hr : Rd w A news) (hm : news.length = 2 * m) (h1 : ∀ u ∈ news, u.oneCell' = true)
  (h63 : n + m ≤ 1000000) (hbase : base ≤ w.heap.size) :
  ∃ A' c' w', (Builtin.append_ #[31, 31] ty #[v, .slice A m c]).run Tryz.prog w = .ok (.slice A' (n + m) c') w' ∧ w'.ownsRow base 60 2 (.slice A' (n + m) c') (n + m) (xs ++ news) ∧ w.grownBy w' v.ownBlock := by
 obtain ⟨i, hi, hz, hsz, hby⟩ := jinfo
 have hsl : Tryz.prog.underlying 31 = some (.slice 60) := Tryz.underlying31
 have fin : ∀ (v' : Value) (w' : World), w'.ownsRow base 60 2 v' (n + m) (xs ++ news) → ∃ A' c', v' = .slice A' (n + m) c' := fun v' w' h => own2_form h
 by_cases h0 : news = []
 ·subst h0
  obtain rfl : m = 0 := by simp at hm; omega
  rcases A with _ | a
  ·have hrun : (Builtin.append_ #[31, 31] ty #[v, .slice none 0 c]).run Tryz.prog w = .ok v w := by
    rcases hown.2 with ⟨rfl, rfl⟩ | ⟨g, cap, cur, rfl, _, _, hnc, _⟩
    ·simp [Builtin.append_, run_underlying hsl, sizeOf, typeInfo, hi, Builtin.lenOf, Builtin.firstCells]
    ·simp [Builtin.append_, run_underlying hsl, sizeOf, typeInfo, hi, Builtin.lenOf, Builtin.firstCells, hnc, storeCells]
   obtain ⟨A', c', rfl⟩ := fin v w (by simpa using hown)
   exact ⟨A', c', w, by simpa using hrun, by simpa using hown, World.grownBy.refl _ _⟩
  ·obtain ⟨v', w', hrun, ho, hg, _⟩ := run_append_own_at (P := Tryz.prog) w base 31 ty 60 i _ 2 32 hsl hi hz hsz hby rfl (by decide) v n xs hown a 0 c [] (by simp) (by simp) (by simp) (by unfold maxLen; omega) (by omega) hbase
   obtain ⟨A', c', rfl⟩ := fin v' w' ho
   exact ⟨A', c', w', hrun, ho, hg⟩
 ·rcases hr with h | ⟨b, o, rfl, hb, hc⟩
  ·exact absurd h h0
  ·obtain ⟨v', w', hrun, ho, hg, _⟩ := run_append_own_at (P := Tryz.prog) w base 31 ty 60 i _ 2 32 hsl hi hz hsz hby rfl (by decide) v n xs hown ⟨b, o, none⟩ m c news (by omega) (fun j u hj => by
    have := hc j u hj
    rwa [Addr.add_lit]) h1 (by unfold maxLen; omega) (by omega) hbase
   obtain ⟨A', c', rfl⟩ := fin v' w' ho
   exact ⟨A', c', w', hrun, ho, hg⟩
theorem wp_appJ {w : World} {ops : Array Oper} {rest : List Oper} {o : Oper} {a : Act} {Q : Exit → Act → World → Prop} (hgd : o.guard = none) (s x : Operand)
  (ho : o.op = .call { callee := .builtin .append, args := #[s, x], argTypes := #[31, 31] })
  (base : Nat) (v : Value) (n : Nat) (xs : List Value) (hs : a.eval s = v) (hown : w.ownsRow base 60 2 v n xs)
  (A : Option Addr) (m c : Nat) (news : List Value) (hx : a.eval x = .slice A m c) (hr : Rd w A news) (hm : news.length = 2 * m) (h1 : ∀ u ∈ news, u.oneCell' = true)
  (h63 : n + m ≤ 1000000) (hbase : base ≤ w.heap.size) (k : Nat) (zs : List Value) (hk : n + m = k) (hz : xs ++ news = zs)
  (h : ∀ A' c' w', w'.ownsRow base 60 2 (.slice A' k c') k zs → w.grownBy w' v.ownBlock → wpList Tryz.prog ops Q rest (a.put o.dst (.slice A' k c')) w') : wpList Tryz.prog ops Q (o :: rest) a w := by
 subst hk hz
 refine wpList_plain hgd fun K hK => ?_
 obtain ⟨A', c', w', hr, h2, h3⟩ := run_appJ (w := w) o.type base v n xs hown A m c news hr hm h1 h63 hbase
 unfold Oper.wp execOp
 simp only [ho, resolve, invoke, builtin, Sem.run_bind, Sem.run_pure, Result.andThen_ok, List.map_toArray, List.map_cons, List.map_nil, hs, hx, hr]
 exact hK _ _ (h A' c' w' h2 h3)
theorem cloneJ_any (A : Option Addr) (n c : Nat) (us : List Value) (l : List Jb) (w : World) (hr : RdWs w A n c us l) (hm : n ≤ 1000) :
  Calls Tryz.prog 54 #[.slice A n c] w (fun e w' => ∃ A' c', e = .returned (.slice A' n c') ∧ w'.ownsRow w.heap.size 60 2 (.slice A' n c') n us ∧ Below w.heap.size w w') := by
 have kn := fun (W : World) (A : Option Addr) (n c n' c' : Nat) => Lib.run_eql_slice_nil (P := Tryz.prog) W 31 60 A n c n' c' Tryz.underlying31
 rcases A with _ | a
 ·obtain ⟨h1, h2, h3, h4, h5⟩ := hr
  have hx : us = [] := by
   rcases h1 with h1 | ⟨b, o, h, _⟩
   ·exact h1
   ·cases h
  subst hx
  obtain rfl : 0 = n := by simp at h2; omega
  go_enter Tryz.func54, Tryz.ntmps54
  go_wp2
  go_ret
  exact ⟨none, 0, rfl, World.ownsRow_nil _ _ _ _, Below.refl _ _⟩
 ·have hown := World.ownsRow_lit (size := 2) (e := 60) w #[] 0 (Nat.le_refl _) (by simp [maxLen]) rfl
  have HL := Lib.hid hr.2.1
  have H1 := Lib.hid (wcells_one hr.2.2.2.2)
  go_enter Tryz.func54, Tryz.ntmps54
  go_wp2_with (at_builtin; refine wp_appJ rfl _ _ rfl w.heap.size _ 0 _ rfl hown _ n c _ rfl (hr.1.alloc _) HL.out H1.out (by omega) (by simp) n _ (by omega) rfl ?_; intro A4 c4 w4 ho4 hg4)
  have hb4 : Below w.heap.size w w4 := ((Below.refl _ _).alloc (Nat.le_refl _) _).grown hg4 (by simp) (fun q hq => by have := (hown.lt q hq).1; omega)
  go_wp2
  go_ret
  exact ⟨A4, c4, rfl, by simpa using ho4, hb4⟩
theorem ws_first {P : Nat → Prop} {w : World} {A : Option Addr} {n c : Nat} {x : Jb} {l : List Jb} {us : List Value} (h : ∀ W, AgrP P w W → RdWs W A n c us (x :: l)) :
  ∃ b o B k d, A = some ⟨b, o, none⟩ ∧ w.cell? ⟨b, o, none⟩ = some (.int .i64 x.1) ∧ w.cell? ⟨b, o + 1, none⟩ = some (.slice B k d) ∧ (-9223372036854775808 ≤ x.1 ∧ x.1 ≤ 9223372036854775807) ∧ BIn P w B k d x.2 ∧ n = l.length + 1 ∧ us.length = 2 * n ∧ n ≤ c ∧ c ≤ maxLen ∧ b < w.heap.size ∧
  RdWs w (some ⟨b, o + 2, none⟩) l.length (c - 1) (us.drop 2) l := by
 have h0 := h w (AgrP.refl _ _)
 have hn : n = l.length + 1 := by have := h0.len; simp at this; omega
 obtain ⟨h1, h2, h3, h4, h5⟩ := h0
 match us, h5 with
 | a :: v :: vs, hp =>
  obtain ⟨e1, e2, ⟨B, k, d, e3, e4⟩, e5⟩ := hp
  rcases h1 with h1 | ⟨b, o, rfl, hb, hc⟩
  ·cases h1
  ·refine ⟨b, o, B, k, d, rfl, by rw [← e1]; exact hc 0 a rfl, by rw [← e3]; exact hc 1 v rfl, e2, fun W hW => ?_, hn, h2, h3, h4, hb, .inr ⟨b, o + 2, rfl, hb, fun i u hu => ?_⟩, by simp at h2 ⊢; omega, by omega, by omega, e5⟩
   ·obtain ⟨_, _, ⟨B', k', d', f3, f4⟩, _⟩ := (h W hW).2.2.2.2
    rw [e3] at f3
    injection f3 with g1 g2 g3
    subst g1 g2 g3
    exact f4
   ·rw [Nat.add_assoc, Nat.add_comm 2 i, ← Nat.add_assoc]
    have := hc (i + 2) u (by simpa using hu)
    rw [← this, Nat.add_assoc]
theorem ws_rest {P : Nat → Prop} {w w' : World} {base : Nat} {e : TypeId} {A0 A' : Option Addr} {n c0 c' m : Nat} {us : List Value} {x : Jb} {l : List Jb} (h : ∀ W, AgrP P w W → RdWs W A0 m c0 us (x :: l)) (hb : Below w.heap.size w w') (ho : w'.ownsRow base e 2 (.slice A' n c') n (us.drop 2)) (hs : ∀ j, P j → j < base) : WsIn P w' A' n c' l :=
 ⟨us.drop 2, fun W hW => by
  obtain ⟨f1, f2, f3, f4⟩ := own2_rd (own_agr0 ho hW hs)
  have h5 := (h W (hW.of hb)).2.2.2.2
  match us, h5 with
  | a :: v :: vs, hp => exact ⟨f1, f2, f3, f4, hp.2.2.2⟩⟩
theorem bin_nil (P : Nat → Prop) (w : World) : BIn P w none 0 0 [] := fun W _ => ⟨.inl rfl, rfl, Nat.le_refl _, by simp [maxLen]⟩
theorem dresults4 {P : Program} {fn : Func} {p r q s : Tmp} {ty ty2 : TypeId} (h : fn.results = #[.cell p ty, .cell r ty2, .tmp q, .tmp s]) (tmps : Array Value) (w : World) (g g2 : Nat) (t t2 : TypeId) (cs cs2 : Array Value) (fr fr2 : Nat × Nat) (d d2 : TypeDesc)
  (hp : tmps.getD p undef = .pointer (some ⟨g, 0, none⟩)) (hg : w.heap[g]? = some (.cells cs t fr))
  (hu : P.underlying ty = some d) (hd : (match d with | .struct _ | .array _ _ => true | _ => false) = true) (hi : (P.info? ty).map (·.size) = some cs.size)
  (hr : tmps.getD r undef = .pointer (some ⟨g2, 0, none⟩)) (hg2 : w.heap[g2]? = some (.cells cs2 t2 fr2))
  (hu2 : P.underlying ty2 = some d2) (hd2 : (match d2 with | .struct _ | .array _ _ => true | _ => false) = true) (hi2 : (P.info? ty2).map (·.size) = some cs2.size) :
  (results fn tmps).run P w = .ok (.tuple #[.agg cs, .agg cs2, tmps.getD q undef, tmps.getD s undef]) w := by
 have hp' : tmps[p]?.getD undef = .pointer (some ⟨g, 0, none⟩) := by simpa using hp
 have hr' : tmps[r]?.getD undef = .pointer (some ⟨g2, 0, none⟩) := by simpa using hr
 simp [results, h, hp', hr', asAddr, run_loadVar_row w g t ty cs fr d hg hu hd hi, run_loadVar_row w g2 t2 ty2 cs2 fr2 d2 hg2 hu2 hd2 hi2]
def RetAk (P : Nat → Prop) (w : World) (R : Jn × Jb × Bool × Bool) (e : Ending) (w' : World) : Prop := ∃ m A n c, e = .returned (.tuple #[.agg (jmV m).toArray, .agg #[.int .i64 R.2.1.1, .slice A n c], .bool R.2.2.1, .bool R.2.2.2]) ∧ JIn P w' m R.1 ∧ BIn P w' A n c R.2.1.2 ∧ (-9223372036854775808 ≤ R.2.1.1 ∧ R.2.1.1 ≤ 9223372036854775807) ∧ Below w.heap.size w w'
end Go.Proofs.YtpahicfnhhhifaaGreat
