/-
  Layer 3: chains: plain; rows of texts that grow.
-/
import Derived.Test.YtmbdfanaegadjaaShaR
namespace Go.Proofs.Ytmbdfanaegadjaa
set_option maxRecDepth 20000
open Go.RowKit
set_option linter.unusedVariables false
set_option linter.unusedSimpArgs false
set_option maxHeartbeats 2000000

/-! ### Plain -/
def chP (c : List UInt8) (ats : List (List UInt8)) : Nat → List UInt8
  | 0 => c
  | k + 1 => shLink (chP c ats k) (ats.getD k [])
def chX (c : List UInt8) (ats : List (List UInt8)) (k : Nat) : List UInt8 := chP c ats k ++ ats.getD k []
theorem chP_len {c : List UInt8} (h : c.length = 32) (ats : List (List UInt8)) : ∀ k, (chP c ats k).length = 32
  | 0 => h
  | k + 1 => shLink_len _ _
theorem chP_succ (c : List UInt8) (ats : List (List UInt8)) (k : Nat) : chP c ats (k + 1) = shOf (chX c ats k) := rfl
def chSame (c d : List UInt8) (ats bts : List (List UInt8)) : Nat → Bool
  | 0 => decide (c = d)
  | k + 1 => chSame c d ats bts k && decide (ats.getD k [] = bts.getD k [])
theorem ch_same {c d : List UInt8} {ats bts : List (List UInt8)} : ∀ k, chSame c d ats bts k = true → chP c ats k = chP d bts k
  | 0, h => of_decide_eq_true h
  | k + 1, h => by
    rw [chSame, Bool.and_eq_true] at h
    have h2 := of_decide_eq_true h.2
    show shLink _ _ = shLink _ _
    rw [ch_same k h.1, h2]
theorem ch_back {c d : List UInt8} {ats bts : List (List UInt8)} (hc : c.length = 32) (hd : d.length = 32) : ∀ n, (∀ i, i < n → shOf (chX c ats i) = shOf (chX d bts i) → chX c ats i = chX d bts i) → chP c ats n = chP d bts n → chSame c d ats bts n = true
  | 0, _, h => decide_eq_true h
  | n + 1, hx, h => by
    have e := hx n (by omega) h
    have := List.append_inj e (by rw [chP_len hc, chP_len hd])
    rw [chSame, ch_back hc hd n (fun i hi => hx i (by omega)) this.1, this.2]
    simp
/-! ### A row of texts as an argument -/
def RdSS (w : World) (A : Option Addr) (n c : Nat) (vs : List Value) (yss : List (List UInt8)) : Prop := Rd w A vs ∧ vs.length = n ∧ n ≤ c ∧ c ≤ maxLen ∧ Parts w vs yss
theorem RdSS.at_ {w : World} {A : Option Addr} {n c : Nat} {vs : List Value} {yss : List (List UInt8)} (h : RdSS w A n c vs yss) (k : Nat) (hk : k < n) :
    ∃ b o B m d, A = some ⟨b, o, none⟩ ∧ b < w.heap.size ∧ w.cell? ⟨b, o + k, none⟩ = some (.slice B m d) ∧ RdB w B m d (yss.getD k []) := by
  obtain ⟨hr, hl, _, _, hp⟩ := h
  obtain ⟨b, o, rfl, hb, hc⟩ := hr.at_ k (by omega)
  have hy := hp.length
  obtain ⟨B, m, d, he, hrr⟩ := hp.at_ k (by omega) (by omega)
  refine ⟨b, o, B, m, d, rfl, hb, ?_, ?_⟩
  · rw [hc, he]
  · rw [List.getD, List.getElem?_eq_getElem (by omega)]; exact hrr
/-! ### Texts that the call owns -/
def PartsO (w : World) (base : Nat) : List Value → List (List UInt8) → Prop
  | [], [] => True
  | v :: vs, ys :: yss => (∃ A n c, v = .slice A n c ∧ OwnB w base A n c ys) ∧ PartsO w base vs yss
  | _, _ => False
theorem PartsO.snoc {w : World} {base : Nat} : ∀ {vs : List Value} {yss : List (List UInt8)} {A n c ys}, PartsO w base vs yss → OwnB w base A n c ys → PartsO w base (vs ++ [.slice A n c]) (yss ++ [ys])
  | [], [], _, _, _, _, _, h => ⟨⟨_, _, _, rfl, h⟩, trivial⟩
  | _ :: _, _ :: _, _, _, _, _, hp, h => ⟨hp.1, PartsO.snoc hp.2 h⟩
  | _ :: _, [], _, _, _, _, hp, _ => hp.elim
  | [], _ :: _, _, _, _, _, hp, _ => hp.elim
theorem PartsO.at_ {w : World} {base : Nat} : ∀ {vs : List Value} {yss : List (List UInt8)}, PartsO w base vs yss → ∀ k, k < vs.length → ∃ A n c, vs[k]? = some (.slice A n c) ∧ OwnB w base A n c (yss.getD k [])
  | v :: vs, ys :: yss, ⟨⟨A, n, c, e, h⟩, _⟩, 0, _ => ⟨A, n, c, by simp [e], by simpa using h⟩
  | v :: vs, ys :: yss, ⟨_, h⟩, k + 1, hk => by
    obtain ⟨A, n, c, e, ho⟩ := PartsO.at_ h k (by simpa using hk)
    exact ⟨A, n, c, by simpa using e, by simpa using ho⟩
theorem own_keepT {w w' : World} {base : Nat} {e : TypeId} {v : Value} {n : Nat} {xs : List Value} (h : w.ownsRow base e 1 v n xs) (hk : ∀ (g : Nat) (cur : Array Value), v.ownBlock = some g → w.heap[g]? = some (.cells cur e (0, 0)) → w'.heap[g]? = w.heap[g]?) : w'.ownsRow base e 1 v n xs := by
  refine ⟨h.1, ?_⟩
  rcases h.2 with h0 | ⟨g, cap, cur, rfl, hb, hg, rest⟩
  · exact .inl h0
  · exact .inr ⟨g, cap, cur, rfl, hb, (hk g cur rfl hg).trans hg, rest⟩
theorem PartsO.keep {w w' : World} {base : Nat} (hk : ∀ (g : Nat) (cur : Array Value), w.heap[g]? = some (.cells cur 5 (0, 0)) → w'.heap[g]? = w.heap[g]?) : ∀ {vs : List Value} {yss : List (List UInt8)}, PartsO w base vs yss → PartsO w' base vs yss
  | [], [], h => h
  | _ :: _, _ :: _, ⟨⟨A, n, c, e, h⟩, hp⟩ => ⟨⟨A, n, c, e, own_keepT h (fun g cur _ hg => hk g cur hg)⟩, PartsO.keep hk hp⟩
  | _ :: _, [], h => h.elim
  | [], _ :: _, h => h.elim
theorem own_block {w : World} {base : Nat} {e : TypeId} {v : Value} {n : Nat} {xs : List Value} (h : w.ownsRow base e 1 v n xs) {g : Nat} (hv : v.ownBlock = some g) : base ≤ g ∧ ∃ cur, w.heap[g]? = some (.cells cur e (0, 0)) := by
  rcases h.2 with ⟨rfl, _⟩ | ⟨g', cap, cur, rfl, hb, hg, _⟩
  · cases hv
  · injection hv with hv; subst hv; exact ⟨hb, cur, hg⟩
theorem elemSS : ElemAt Try.prog 42 30 (.slice none 0 0) 24 := ⟨Try.underlying42, by kernel_rfl, rfl⟩
/-- 's = append(s, x)' at rows of texts, one operation. -/
theorem op_appS {o : Oper} {a : Act} {w : World} {K : Act → World → Prop} {Q : Exit → Act → World → Prop} (s x : Operand)
    (ho : o.op = .call { callee := .builtin .append, args := #[s, x], argTypes := #[42, 42] })
    (B : Nat) (v : Value) (n : Nat) (vs : List Value) (hs : a.eval s = v) (hown : w.ownsRow B 30 1 v n vs)
    (g : Nat) (u : Value) (hx : a.eval x = .slice (some ⟨g, 0, none⟩) 1 1) (hr : w.heap[g]? = some (.cells #[u] 30 (0, 0))) (hu : u.oneCell' = true) (hn : n ≤ 1000) (hB : B ≤ w.heap.size)
    (h : ∀ v' w', w'.ownsRow B 30 1 v' (n + 1) (vs ++ [u]) → w.grownBy w' v.ownBlock → (v'.ownBlock = v.ownBlock ∨ v'.ownBlock = some w.heap.size) → K (a.put o.dst v') w') : o.wp Try.prog a w K Q := by
  obtain ⟨i, hi, hz, hsz, hby⟩ := info_parts elemSS.info
  obtain ⟨v', w', hrun, ho2, hg, _, hf⟩ := run_append_own_at (P := Try.prog) w B 42 o.type 30 i _ 1 24 elemSS.slice hi hz hsz hby elemSS.one (by decide) v n vs hown ⟨g, 0, none⟩ 1 1 [u] rfl (fun j u' hj => by
    rw [Addr.add_lit]
    match j, hj with
    | 0, hj => exact (cell_of_row w g _ _ _ _ hr).trans (by simpa using hj)) (by simpa using hu) (by unfold maxLen; omega) (by omega) hB
  unfold Oper.wp execOp
  simp only [ho, resolve, invoke, builtin, Sem.run_bind, Sem.run_pure, Result.andThen_ok, List.map_toArray, List.map_cons, List.map_nil, hs, hx, hrun]
  exact h v' w' ho2 hg hf
/-! ### What stands between two rounds -/
def ChS (w : World) (gp gq : Nat) (P Q : List UInt8) (vx vy : Value) (kx ky : Nat) (vxs vys : List Value) (X Y : List (List UInt8)) (wr : World) : Prop :=
  wr.ownsRow w.heap.size 30 1 vx kx vxs ∧ wr.ownsRow w.heap.size 30 1 vy ky vys ∧ (∀ a, vx.ownBlock = some a → vy.ownBlock ≠ some a) ∧ PartsO wr w.heap.size vxs X ∧ PartsO wr w.heap.size vys Y ∧
  wr.heap[gp]? = some (.cells (dgA P) 24 (0, 0)) ∧ wr.heap[gq]? = some (.cells (dgA Q) 24 (0, 0)) ∧ Below w.heap.size w wr
theorem ChS.next {w : World} {gp gq : Nat} {P Q : List UInt8} {vx vy : Value} {kx ky : Nat} {vxs vys : List Value} {X Y : List (List UInt8)} {wr w' : World} (h : ChS w gp gq P Q vx vy kx ky vxs vys X Y wr) (hb : Below wr.heap.size wr w') : ChS w gp gq P Q vx vy kx ky vxs vys X Y w' := by
  obtain ⟨hx, hy, hd, px, py, rp, rq, B⟩ := h
  have lt : ∀ {g : Nat} {o : Obj}, wr.heap[g]? = some o → g < wr.heap.size := fun h => (Array.getElem?_eq_some_iff.1 h).1
  exact ⟨own_keepT hx (fun g cur _ hg => hb.block g (lt hg)), own_keepT hy (fun g cur _ hg => hb.block g (lt hg)), hd, px.keep (fun g cur hg => hb.block g (lt hg)), py.keep (fun g cur hg => hb.block g (lt hg)), (hb.block _ (lt rp)).trans rp, (hb.block _ (lt rq)).trans rq, B.trans (hb.mono B.size)⟩
theorem typ_ne {w : World} {g h : Nat} {cs ds : Array Value} {T U : TypeId} (h1 : w.heap[g]? = some (.cells cs T (0, 0))) (h2 : w.heap[h]? = some (.cells ds U (0, 0))) (hne : T ≠ U) : g ≠ h := by
  rintro rfl
  rw [h1] at h2
  injection h2 with h2
  injection h2 with _ h2
  exact hne h2
theorem grown_below {w wr w' : World} {r : Option Nat} (B : Below w.heap.size w wr) (hg : wr.grownBy w' r) (hr : ∀ g, r = some g → w.heap.size ≤ g) : Below w.heap.size w w' := B.grown hg B.size hr
theorem ChS.addx {w : World} {gp gq : Nat} {P Q : List UInt8} {vx vy vx' : Value} {kx ky : Nat} {vxs vys : List Value} {X Y : List (List UInt8)} {wr w' : World} (h : ChS w gp gq P Q vx vy kx ky vxs vys X Y wr) {A : Option Addr} {n c : Nat} {ys : List UInt8} (hp : OwnB wr w.heap.size A n c ys)
    (h1 : w'.ownsRow w.heap.size 30 1 vx' (kx + 1) (vxs ++ [.slice A n c])) (hg : wr.grownBy w' vx.ownBlock) (hf : vx'.ownBlock = vx.ownBlock ∨ vx'.ownBlock = some wr.heap.size) : ChS w gp gq P Q vx' vy (kx + 1) ky (vxs ++ [.slice A n c]) vys (X ++ [ys]) Y w' := by
  obtain ⟨hx, hy, hd, px, py, rp, rq, B⟩ := h
  have lt : ∀ {g : Nat} {o : Obj}, wr.heap[g]? = some o → g < wr.heap.size := fun h => (Array.getElem?_eq_some_iff.1 h).1
  have ku : ∀ (T : TypeId), T ≠ 30 → ∀ (g : Nat) (cur : Array Value), wr.heap[g]? = some (.cells cur T (0, 0)) → w'.heap[g]? = wr.heap[g]? := fun T hT g cur hgr => hg.block g (lt hgr) (fun e => by
    obtain ⟨_, cur2, h2⟩ := own_block hx e.symm
    exact typ_ne hgr h2 hT rfl)
  have ky' : ∀ (g : Nat) (cur : Array Value), vy.ownBlock = some g → wr.heap[g]? = some (.cells cur 30 (0, 0)) → w'.heap[g]? = wr.heap[g]? := fun g cur hgv hgr => hg.block g (lt hgr) (fun e => hd g e.symm hgv)
  refine ⟨h1, own_keepT hy ky', fun a ha hya => ?_, PartsO.snoc (px.keep (ku _ (by decide))) (own_keepT hp (fun g cur _ hgr => ku _ (by decide) g cur hgr)), py.keep (ku _ (by decide)), (ku _ (by decide) _ _ rp).trans rp, (ku _ (by decide) _ _ rq).trans rq, grown_below B hg (fun g e => (own_block hx e).1)⟩
  rcases hf with hf | hf
  · exact hd a (hf ▸ ha) hya
  · rw [hf] at ha
    injection ha with ha
    obtain ⟨_, cur, hc⟩ := own_block hy hya
    have := lt hc
    omega
theorem ChS.swap {w : World} {gp gq : Nat} {P Q : List UInt8} {vx vy : Value} {kx ky : Nat} {vxs vys : List Value} {X Y : List (List UInt8)} {wr : World} (h : ChS w gp gq P Q vx vy kx ky vxs vys X Y wr) : ChS w gq gp Q P vy vx ky kx vys vxs Y X wr := by
  obtain ⟨hx, hy, hd, px, py, rp, rq, B⟩ := h
  exact ⟨hy, hx, fun a h1 h2 => hd a h2 h1, py, px, rq, rp, B⟩
theorem ChS.storep {w : World} {gp gq : Nat} {P Q P' : List UInt8} {vx vy : Value} {kx ky : Nat} {vxs vys : List Value} {X Y : List (List UInt8)} {wr : World} (h : ChS w gp gq P Q vx vy kx ky vxs vys X Y wr) (hgp : w.heap.size ≤ gp) (hne : gp ≠ gq) : ChS w gp gq P' Q vx vy kx ky vxs vys X Y (wr.setRow gp (dgA P')) := by
  obtain ⟨hx, hy, hd, px, py, rp, rq, B⟩ := h
  have ku : ∀ (T : TypeId), T ≠ 24 → ∀ (g : Nat) (cur : Array Value), wr.heap[g]? = some (.cells cur T (0, 0)) → (wr.setRow gp (dgA P')).heap[g]? = wr.heap[g]? := fun T hT g cur hgr => setRow_other _ _ _ _ (fun e => by subst e; exact typ_ne hgr rp hT rfl)
  exact ⟨own_keepT hx (fun g cur _ hg => ku _ (by decide) g cur hg), own_keepT hy (fun g cur _ hg => ku _ (by decide) g cur hg), hd, px.keep (ku _ (by decide)), py.keep (ku _ (by decide)), setRow_heap _ _ _ (dgA P') _ _ rp, (setRow_other _ _ _ _ (Ne.symm hne)).trans rq, below_setRow B hgp _⟩
end Go.Proofs.Ytmbdfanaegadjaa
