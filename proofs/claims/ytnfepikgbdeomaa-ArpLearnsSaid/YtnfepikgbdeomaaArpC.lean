/-
  Layer 19: arp: rows of neighbours of the call's own; slices.Clone.
-/
import Derived.Test.YtnfepikgbdeomaaArpB
import Derived.ArgAppend
import Derived.LoopTactic
namespace Go.Proofs.Ytnfepikgbdeomaa
set_option maxRecDepth 20000
open Go.RowKit
set_option linter.unusedVariables false
set_option linter.unusedSimpArgs false
set_option maxHeartbeats 4000000

theorem drw_at {w : World} {k : Nat} (o : Obj) (h : w.heap.size = k) : (w.alloc o).heap[k]? = some o := by subst h; exact heap_alloc_new w o
theorem drw_old {w : World} {g : Nat} {o : Obj} (o' : Obj) (h : w.heap[g]? = some o) : (w.alloc o').heap[g]? = some o := (heap_alloc_old _ _ (Array.getElem?_eq_some_iff.1 h).1).trans h
theorem drw_up {w w' : World} {g : Nat} {o : Obj} (h : w.heap[g]? = some o) (hb : Below w.heap.size w w') : w'.heap[g]? = some o := (hb.block g (Array.getElem?_eq_some_iff.1 h).1).trans h
theorem drw_lt {w : World} {g : Nat} {o : Obj} (h : w.heap[g]? = some o) : g < w.heap.size := (Array.getElem?_eq_some_iff.1 h).1
theorem own8_form {w : World} {base : Nat} {e : TypeId} {v : Value} {n : Nat} {xs : List Value} (h : w.ownsRow base e 8 v n xs) : ∃ A c, v = .slice A n c := by
  rcases h.2 with ⟨rfl, rfl⟩ | ⟨g, cap, cur, rfl, _⟩
  · exact ⟨none, 0, by have := h.1; simp at this; subst this; rfl⟩
  · exact ⟨_, _, rfl⟩
theorem own8_rd {w : World} {base : Nat} {e : TypeId} {A : Option Addr} {n c : Nat} {xs : List Value} (h : w.ownsRow base e 8 (.slice A n c) n xs) : Rd w A xs ∧ xs.length = 8 * n ∧ n ≤ c ∧ c ≤ maxLen := by
  have hl := h.1
  rcases h.2 with ⟨h1, h2⟩ | ⟨g, cap, cur, hv, hb, hg, hc, hm, hs, ht⟩
  · injection h1 with e1 e2 e3
    subst e1 e2 e3
    have : xs = [] := List.eq_nil_of_length_eq_zero (by simpa using hl)
    subst this
    exact ⟨.inl rfl, rfl, Nat.le_refl _, by simp [maxLen]⟩
  · injection hv with e1 e2 e3
    subst e1 e3
    refine ⟨.inr ⟨g, 0, rfl, drw_lt hg, fun i u hu => ?_⟩, by omega, hc, hm⟩
    rw [Nat.zero_add, cell_of_row w g i cur e (0, 0) hg, ← hu, ← ht, List.getElem?_take]
    have hi : i < xs.length := (List.getElem?_eq_some_iff.1 hu).1
    rw [if_pos (by omega)]; simp
theorem nbInfo : ∃ i : TypeInfo, Try.prog.info? 109 = some i ∧ i.zero = some (.agg #[.int .u32 0, .int .u8 0, .int .u8 0, .int .u8 0, .int .u8 0, .int .u8 0, .int .u8 0, .int .u64 0]) ∧ i.size = 8 ∧ i.bytes = 24 := by
  have h : (Try.prog.info? 109).map (fun i => (i.zero, i.size, i.bytes)) = some (some (.agg #[.int .u32 0, .int .u8 0, .int .u8 0, .int .u8 0, .int .u8 0, .int .u8 0, .int .u8 0, .int .u64 0]), 8, 24) := by kernel_rfl
  obtain ⟨i, hi, he⟩ := Option.map_eq_some_iff.1 h
  injection he with e1 e2
  injection e2 with e2 e3
  exact ⟨i, hi, e1, e2, e3⟩
theorem run_app8 {w : World} (ty : TypeId) (base : Nat) (v : Value) (n : Nat) (xs : List Value) (hown : w.ownsRow base 109 8 v n xs)
    (A : Option Addr) (m c : Nat) (news : List Value) (hr : Rd w A news) (hm : news.length = 8 * m) (h1 : ∀ u ∈ news, u.oneCell' = true)
    (h63 : n + m ≤ 1000000) (hbase : base ≤ w.heap.size) :
    ∃ A' c' w', (Builtin.append_ #[94, 94] ty #[v, .slice A m c]).run Try.prog w = .ok (.slice A' (n + m) c') w' ∧ w'.ownsRow base 109 8 (.slice A' (n + m) c') (n + m) (xs ++ news) ∧ w.grownBy w' v.ownBlock := by
  obtain ⟨i, hi, hz, hsz, hby⟩ := nbInfo
  have hsl : Try.prog.underlying 94 = some (.slice 109) := Try.underlying94
  have fin : ∀ (v' : Value) (w' : World), w'.ownsRow base 109 8 v' (n + m) (xs ++ news) → ∃ A' c', v' = .slice A' (n + m) c' := fun v' w' h => own8_form h
  by_cases h0 : news = []
  · subst h0
    obtain rfl : m = 0 := by simp at hm; omega
    rcases A with _ | a
    · have hrun : (Builtin.append_ #[94, 94] ty #[v, .slice none 0 c]).run Try.prog w = .ok v w := by
        rcases hown.2 with ⟨rfl, rfl⟩ | ⟨g, cap, cur, rfl, _, _, hnc, _⟩
        · simp [Builtin.append_, run_underlying hsl, sizeOf, typeInfo, hi, Builtin.lenOf, Builtin.firstCells]
        · simp [Builtin.append_, run_underlying hsl, sizeOf, typeInfo, hi, Builtin.lenOf, Builtin.firstCells, hnc, storeCells]
      obtain ⟨A', c', rfl⟩ := fin v w (by simpa using hown)
      exact ⟨A', c', w, by simpa using hrun, by simpa using hown, World.grownBy.refl _ _⟩
    · obtain ⟨v', w', hrun, ho, hg, _⟩ := run_append_own_at (P := Try.prog) w base 94 ty 109 i _ 8 24 hsl hi hz hsz hby rfl (by decide) v n xs hown a 0 c [] (by simp) (by simp) (by simp) (by unfold maxLen; omega) (by omega) hbase
      obtain ⟨A', c', rfl⟩ := fin v' w' ho
      exact ⟨A', c', w', hrun, ho, hg⟩
  · rcases hr with h | ⟨b, o, rfl, hb, hc⟩
    · exact absurd h h0
    · obtain ⟨v', w', hrun, ho, hg, _⟩ := run_append_own_at (P := Try.prog) w base 94 ty 109 i _ 8 24 hsl hi hz hsz hby rfl (by decide) v n xs hown ⟨b, o, none⟩ m c news (by omega) (fun j u hj => by
        have := hc j u hj
        rwa [Addr.add_lit]) h1 (by unfold maxLen; omega) (by omega) hbase
      obtain ⟨A', c', rfl⟩ := fin v' w' ho
      exact ⟨A', c', w', hrun, ho, hg⟩
/-- 'append(s, x...)' of writes: s owned, x whatever is read. -/
theorem wp_app8 {w : World} {ops : Array Oper} {rest : List Oper} {o : Oper} {a : Act} {Q : Exit → Act → World → Prop} (hgd : o.guard = none) (s x : Operand)
    (ho : o.op = .call { callee := .builtin .append, args := #[s, x], argTypes := #[94, 94] })
    (base : Nat) (v : Value) (n : Nat) (xs : List Value) (hs : a.eval s = v) (hown : w.ownsRow base 109 8 v n xs)
    (A : Option Addr) (m c : Nat) (news : List Value) (hx : a.eval x = .slice A m c) (hr : Rd w A news) (hm : news.length = 8 * m) (h1 : ∀ u ∈ news, u.oneCell' = true)
    (h63 : n + m ≤ 1000000) (hbase : base ≤ w.heap.size) (k : Nat) (zs : List Value) (hk : n + m = k) (hz : xs ++ news = zs)
    (h : ∀ A' c' w', w'.ownsRow base 109 8 (.slice A' k c') k zs → w.grownBy w' v.ownBlock → wpList Try.prog ops Q rest (a.put o.dst (.slice A' k c')) w') : wpList Try.prog ops Q (o :: rest) a w := by
  subst hk hz
  refine wpList_plain hgd fun K hK => ?_
  obtain ⟨A', c', w', hr, h2, h3⟩ := run_app8 (w := w) o.type base v n xs hown A m c news hr hm h1 h63 hbase
  unfold Oper.wp execOp
  simp only [ho, resolve, invoke, builtin, Sem.run_bind, Sem.run_pure, Result.andThen_ok, List.map_toArray, List.map_cons, List.map_nil, hs, hx, hr]
  exact hK _ _ (h A' c' w' h2 h3)
theorem nb_one (l : List Nb) : ∀ v ∈ l.flatMap nbV, v.oneCell' = true := fun v hv => by
  obtain ⟨x, _, hx⟩ := List.mem_flatMap.1 hv
  simp only [nbV, List.mem_cons, List.not_mem_nil, or_false] at hx
  rcases hx with rfl | rfl | rfl | rfl | rfl | rfl | rfl | rfl <;> rfl
/-- Neighbours of the call's own. -/
def OwNb (w : World) (base : Nat) (A : Option Addr) (n c : Nat) (l : List Nb) : Prop := w.ownsRow base 109 8 (.slice A n c) n (l.flatMap nbV)
theorem OwNb.rd {w : World} {base : Nat} {A : Option Addr} {n c : Nat} {l : List Nb} (h : OwNb w base A n c l) (hok : ∀ x ∈ l, x.ok) : RdNb w A n c l := by
  obtain ⟨h1, h2, h3, h4⟩ := own8_rd h
  rw [nbs_len] at h2
  exact ⟨h1, by omega, h3, h4, hok⟩
theorem cloneNb_any (A : Option Addr) (n c : Nat) (l : List Nb) (w : World) (hr : RdNb w A n c l) (hm : n ≤ 1000) :
    Calls Try.prog 110 #[.slice A n c] w (fun e w' => ∃ A' c', e = .returned (.slice A' n c') ∧ OwNb w' w.heap.size A' n c' l ∧ Below w.heap.size w w') := by
  have kn := fun (W : World) (A : Option Addr) (n c n' c' : Nat) => Lib.run_eql_slice_nil (P := Try.prog) W 94 109 A n c n' c' Try.underlying94
  rcases A with _ | a
  · obtain ⟨h1, h2, h3, h4, h5⟩ := hr
    have hx : l = [] := by
      rcases h1 with h1 | ⟨b, o, h, _⟩
      · have := nbs_len l
        rw [h1] at this
        exact List.eq_nil_of_length_eq_zero (by simp at this; omega)
      · cases h
    subst hx
    obtain rfl : 0 = n := h2
    go_enter Try.func110, Try.ntmps110
    go_wp2
    go_ret
    exact ⟨none, 0, rfl, World.ownsRow_nil _ _ _ _, Below.refl _ _⟩
  · have hown := World.ownsRow_lit (size := 8) (e := 109) w #[] 0 (Nat.le_refl _) (by simp [maxLen]) rfl
    have HL := Lib.hid hr.2.1
    go_enter Try.func110, Try.ntmps110
    go_wp2_with (at_builtin; refine wp_app8 rfl _ _ rfl w.heap.size _ 0 _ rfl hown _ n c _ rfl (hr.1.alloc _) (by rw [nbs_len, HL.out]) (nb_one l) (by omega) (by simp) n _ (by omega) rfl ?_; intro A4 c4 w4 ho4 hg4)
    have hb4 : Below w.heap.size w w4 := ((Below.refl _ _).alloc (Nat.le_refl _) _).grown hg4 (by simp) (fun q hq => by have := (hown.lt q hq).1; omega)
    go_wp2
    go_ret
    exact ⟨A4, c4, rfl, by unfold OwNb; simpa using ho4, hb4⟩
end Go.Proofs.Ytnfepikgbdeomaa
