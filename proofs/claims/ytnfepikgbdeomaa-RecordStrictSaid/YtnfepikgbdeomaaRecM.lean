/-
  Layer 12: records: the law RecordStrict.
-/
import Derived.Test.YtnfepikgbdeomaaRecK
import Derived.Test.YtnfepikgbdeomaaRecN
namespace Go.Proofs.Ytnfepikgbdeomaa
set_option maxRecDepth 20000
open Go.RowKit
set_option linter.unusedVariables false
set_option linter.unusedSimpArgs false
set_option maxHeartbeats 8000000

/-! ### Two rows of bytes that grow -/
def OwnR (w : World) (B : Nat) (v : Value) (xs : List UInt8) : Prop := w.ownsRow B 5 1 v xs.length (xs.map vB)
def Apart (vx vy : Value) : Prop := ∀ a, vx.ownBlock = some a → vy.ownBlock ≠ some a
theorem Apart.sym {vx vy : Value} (h : Apart vx vy) : Apart vy vx := fun a h1 h2 => h a h2 h1
theorem OwnR.blk {w : World} {B : Nat} {v : Value} {xs : List UInt8} (h : OwnR w B v xs) {g : Nat} (hv : v.ownBlock = some g) : B ≤ g ∧ ∃ cur, w.heap[g]? = some (.cells cur 5 (0, 0)) := by
  rcases h.2 with ⟨rfl, _⟩ | ⟨g', cap, cur, rfl, hb, hg, _⟩
  · cases hv
  · injection hv with hv; subst hv; exact ⟨hb, cur, hg⟩
theorem OwnR.keep {w w' : World} {B : Nat} {v : Value} {xs : List UInt8} (h : OwnR w B v xs) (hk : ∀ (g : Nat) (cur : Array Value), v.ownBlock = some g → w.heap[g]? = some (.cells cur 5 (0, 0)) → w'.heap[g]? = w.heap[g]?) : OwnR w' B v xs := by
  refine ⟨h.1, ?_⟩
  rcases h.2 with h0 | ⟨g, cap, cur, rfl, hb, hg, rest⟩
  · exact .inl h0
  · exact .inr ⟨g, cap, cur, rfl, hb, (hk g cur rfl hg).trans hg, rest⟩
theorem OwnR.up {w w' : World} {B : Nat} {v : Value} {xs : List UInt8} (h : OwnR w B v xs) (hb : Below w.heap.size w w') : OwnR w' B v xs := h.keep (fun g cur _ hg => hb.block g (rw_lt hg))
theorem OwnR.oth {w w' : World} {B : Nat} {v vx : Value} {xs : List UInt8} (h : OwnR w B v xs) (hd : Apart vx v) (hg : w.grownBy w' vx.ownBlock) : OwnR w' B v xs := h.keep (fun g cur hv hgr => hg.block g (rw_lt hgr) (fun e => hd g e.symm hv))
theorem apart_new {w : World} {B g : Nat} {v : Value} {xs : List UInt8} (h : OwnR w B v xs) (hg : w.heap.size = g) : Apart (.slice (some ⟨g, 0, none⟩) 0 0) v := fun a ha hv => by
  obtain ⟨_, cur, hc⟩ := h.blk hv
  have := rw_lt hc
  injection ha with ha
  simp at ha
  omega
theorem apart_step {w : World} {B : Nat} {vx vx' v : Value} {xs : List UInt8} (hd : Apart vx v) (h : OwnR w B v xs) (hf : vx'.ownBlock = vx.ownBlock ∨ vx'.ownBlock = some w.heap.size) : Apart vx' v := fun a ha hv => by
  rcases hf with hf | hf
  · exact hd a (hf ▸ ha) hv
  · rw [hf] at ha
    injection ha with ha
    obtain ⟨_, cur, hc⟩ := h.blk hv
    have := rw_lt hc
    omega
theorem own_zero {w : World} {g : Nat} (h : w.heap[g]? = some (.cells #[] 5 (0, 0))) {B : Nat} (hb : B ≤ g) : OwnR w B (.slice (some ⟨g, 0, none⟩) 0 0) [] := own_at0 h hb
theorem OwnR.grownB {w0 w w' : World} {v : Value} {xs : List UInt8} (h : OwnR w w0.heap.size v xs) (hb : Below w0.heap.size w0 w) (hg : w.grownBy w' v.ownBlock) : Below w0.heap.size w0 w' := hb.grown hg hb.size (fun q hq => (h.blk hq).1)
theorem op_appR {o : Oper} {a : Act} {w : World} {K : Act → World → Prop} {Q : Exit → Act → World → Prop} (s x : Operand)
    (ho : o.op = .call { callee := .builtin .append, args := #[s, x], argTypes := #[26, 26] })
    (B : Nat) (v : Value) (xs : List UInt8) (hs : a.eval s = v) (hown : OwnR w B v xs)
    (A : Option Addr) (m d : Nat) (ys : List UInt8) (hx : a.eval x = .slice A m d) (hr : RdB w A m d ys) (hm : 0 < m) (hsm : xs.length + m ≤ 1000000) (hB : B ≤ w.heap.size)
    (h : ∀ v' w', OwnR w' B v' (xs ++ ys) → w.grownBy w' v.ownBlock → (v'.ownBlock = v.ownBlock ∨ v'.ownBlock = some w.heap.size) → K (a.put o.dst v') w') : o.wp Try.prog a w K Q := by
  obtain ⟨i, hi, hz, hsz, hby⟩ := info_parts elemB.info
  obtain ⟨b0, o0, u0, rfl, _⟩ := hr.at_ 0 hm
  have hyl := hr.2.1
  obtain ⟨v', w', hrun, ho2, hg, _, hf⟩ := run_append_own_at (P := Try.prog) w B 26 o.type 5 i _ 1 1 elemB.slice hi hz hsz hby elemB.one (by decide) v xs.length (xs.map vB) hown ⟨b0, o0, none⟩ m d (ys.map vB) (by simp [hyl]) (fun j u hj => by
    have hj' : j < m := by have := (List.getElem?_eq_some_iff.1 hj).1; simpa [hyl] using this
    obtain ⟨b2, o2, u2, he, _, hx2, hc⟩ := hr.at_ j hj'
    injection he with he
    injection he with e1 e2
    subst e1 e2
    rw [Addr.add_lit, hc, ← hj]
    simp [hx2, vB]) (oneCell_vB _) (by unfold maxLen; omega) (by omega) hB
  unfold Oper.wp execOp
  simp only [ho, resolve, invoke, builtin, Sem.run_bind, Sem.run_pure, Result.andThen_ok, List.map_toArray, List.map_cons, List.map_nil, hs, hx, hrun]
  refine h v' w' ?_ hg hf
  unfold OwnR
  rw [List.length_append, hyl, List.map_append]
  exact ho2
theorem OwnR.form {w : World} {B : Nat} {v : Value} {xs : List UInt8} (h : OwnR w B v xs) : ∃ A c, v = .slice A xs.length c ∧ RdB w A xs.length c xs := by
  obtain ⟨A, c, rfl, h1, h2, _⟩ := own_form h
  exact ⟨A, c, rfl, Rd.of_own h, rfl, h1, h2⟩

theorem rcFol_D (P : List UInt8) (g s : Nat) (xs : List UInt8) : (rcFol P g s xs).D.length = 32 := by
  unfold rcFol
  by_cases h : rcFolE P g s xs = 0
  · rw [if_pos h]; exact (rcGet_okk _).1.2.2.2.2.2.2
  · rw [if_neg h]; exact rcZD
theorem OwnR.form252 {w : World} {B : Nat} {v : Value} {xs : List UInt8} (h : OwnR w B v xs) (hl : xs.length = 252) : ∃ A c, v = .slice A 252 c ∧ RdB w A 252 c xs := by
  obtain ⟨A, c, e, r⟩ := h.form
  rw [hl] at e r
  exact ⟨A, c, e, r⟩
theorem recStrict_long (t : Nat) (k : Int) (cl : Nat) (A : Option Addr) (n c : Nat) (b : List UInt8) (P Q : List UInt8) (g s og os : Nat) (w : World) (ht : t < 18446744073709551616) (hk : -9223372036854775808 ≤ k ∧ k ≤ 9223372036854775807) (hcl : cl < 18446744073709551616) (hr : RdB w A n c b) (hP : P.length = 32) (hQ : Q.length = 32) (hg : g < 4294967296) (hs : s < 4294967296) (hog : og < 4294967296) (hos : os < 4294967296) (h4 : 400 < n) :
    Calls Try.prog 6 #[.agg #[.int .u64 (t : Int), .int .i64 k, .int .u64 (cl : Int), .slice A n c], .agg (dgA P), .agg (dgA Q), .int .u32 (g : Int), .int .u32 (s : Int), .int .u32 (og : Int), .int .u32 (os : Int)] w (RetV w (.bool true)) := by
  have hn63 := hr.n63
  have hL := hr.2.1
  obtain ⟨r0, hr0⟩ : ∃ r, r = (⟨g, s, 0, t, k, cl, b, List.replicate 32 0⟩ : Rc) := ⟨_, rfl⟩
  have hok0 : r0.ok := by rw [hr0]; exact ⟨hg, hs, (by show (0 : Nat) < 4294967296; decide), ht, hk, hcl, by simp⟩
  have hck : r0.chk = rcChk k cl b.length := by rw [hr0]; rfl
  have hg0 : r0.g = g := by rw [hr0]
  have hs0 : r0.s = s := by rw [hr0]
  obtain ⟨R, hR⟩ : ∃ R, R = rcMkR P r0 := ⟨_, rfl⟩
  obtain ⟨E, hE⟩ : ∃ E, E = rcMkE r0 := ⟨_, rfl⟩
  have hRD : R.D.length = 32 := by
    rw [hR]; unfold rcMkR; split
    · exact shLink_len _ _
    · exact rcZD
  obtain ⟨W0, hW0⟩ : ∃ W, W = ((w.alloc (.cells #[.int .u64 (t : Int), .int .i64 k, .int .u64 (cl : Int), .slice A n c] 65)).alloc (.cells (dgA P) 67)).alloc (.cells (dgA Q) 67) := ⟨_, rfl⟩
  have b0 : Below w.heap.size w W0 := by rw [hW0]; exact (((below_self w).alloc (Nat.le_refl _) _).alloc (by simp) _).alloc (by simp; omega) _
  have z0 : W0.heap.size = w.heap.size + 3 := by rw [hW0]; simp
  have qe : Hid (W0.heap[w.heap.size]? = some (.cells #[.int .u64 (t : Int), .int .i64 k, .int .u64 (cl : Int), .slice A n c] 65 (0, 0))) := by rw [hW0]; exact Lib.hid (rw_old _ (rw_old _ (rw_at _ rfl)))
  have qP : Hid (W0.heap[w.heap.size + 1]? = some (.cells (dgA P) 67 (0, 0))) := by rw [hW0]; exact Lib.hid (rw_old _ (rw_at _ (by simp)))
  have qQ : Hid (W0.heap[w.heap.size + 2]? = some (.cells (dgA Q) 67 (0, 0))) := by rw [hW0]; exact Lib.hid (rw_at _ (by simp))
  have H1 := Lib.hid (recMake_any P hP g s 0 t k cl A n c b W0 hg hs (by omega) ht hk hcl (hr.below b0))
  rw [← hr0, ← hR, ← hE] at H1
  have HRD := Lib.hid hRD
  have HP := Lib.hid hP
  have HQ := Lib.hid hQ
  have HW0 := Lib.hid hW0
  have ZZ0 := Lib.hid z0
  have d4 : decide ((400 : Int) < (n : Int)) = true := decide_eq_true (by omega)
  clear hr0 hok0 hck hR hE hRD hW0 hP hQ z0 hg0 hs0
  go_enter Try.func6, Try.ntmps6
  go_wp2_with (rw [← HW0.out]; refine dig_load rfl _ rfl (w.heap.size + 1) rfl P 67 qP.out HP.out ?_; have e0 := (cell_of_row W0 _ 0 _ _ _ qe.out).trans (show (#[.int .u64 (t : Int), .int .i64 k, .int .u64 (cl : Int), .slice A n c] : Array Value)[0]? = some (.int .u64 (t : Int)) from rfl); have e1 := (cell_of_row W0 _ 1 _ _ _ qe.out).trans (show (#[.int .u64 (t : Int), .int .i64 k, .int .u64 (cl : Int), .slice A n c] : Array Value)[1]? = some (.int .i64 k) from rfl); have e2 := (cell_of_row W0 _ 2 _ _ _ qe.out).trans (show (#[.int .u64 (t : Int), .int .i64 k, .int .u64 (cl : Int), .slice A n c] : Array Value)[2]? = some (.int .u64 (cl : Int)) from rfl); have e3 := (cell_of_row W0 _ 3 _ _ _ qe.out).trans (show (#[.int .u64 (t : Int), .int .i64 k, .int .u64 (cl : Int), .slice A n c] : Array Value)[3]? = some (.slice A n c) from rfl))
  refine H1.out.mono ?_
  rintro e w2 ⟨A2, n2, c2, rfl, r2, _, hb2⟩
  have qe2 := Lib.hid (rw_up qe.out hb2)
  have qP2 := Lib.hid (rw_up qP.out hb2)
  have qQ2 := Lib.hid (rw_up qQ.out hb2)
  clear e0 e1 e2 e3
  go_wp2_with (refine rc_fresh rfl _ _ rfl rfl rfl w2 rfl rfl HRD.out ?_; intro X2 q2 x2; have y3 := (cell_of_row X2 w.heap.size 3 _ _ _ (rw_up qe2.out x2)).trans (show (#[.int .u64 (t : Int), .int .i64 k, .int .u64 (cl : Int), .slice A n c] : Array Value)[3]? = some (.slice A n c) from rfl))
  refine (heads12 _).mono ?_
  rintro e w9 ⟨rfl, hb9⟩
  go_wp2
  go_ret
  exact ⟨rfl, below_then (below_then (below_then b0 hb2) x2) hb9⟩
theorem recStrict_no (t : Nat) (k : Int) (cl : Nat) (A : Option Addr) (n c : Nat) (b : List UInt8) (P Q : List UInt8) (g s og os : Nat) (w : World) (ht : t < 18446744073709551616) (hk : -9223372036854775808 ≤ k ∧ k ≤ 9223372036854775807) (hcl : cl < 18446744073709551616) (hr : RdB w A n c b) (hP : P.length = 32) (hQ : Q.length = 32) (hg : g < 4294967296) (hs : s < 4294967296) (hog : og < 4294967296) (hos : os < 4294967296) (h4 : n ≤ 400) (hc : rcChk k cl b.length = false) :
    Calls Try.prog 6 #[.agg #[.int .u64 (t : Int), .int .i64 k, .int .u64 (cl : Int), .slice A n c], .agg (dgA P), .agg (dgA Q), .int .u32 (g : Int), .int .u32 (s : Int), .int .u32 (og : Int), .int .u32 (os : Int)] w (RetV w (.bool true)) := by
  have hn63 := hr.n63
  have hL := hr.2.1
  obtain ⟨r0, hr0⟩ : ∃ r, r = (⟨g, s, 0, t, k, cl, b, List.replicate 32 0⟩ : Rc) := ⟨_, rfl⟩
  have hok0 : r0.ok := by rw [hr0]; exact ⟨hg, hs, (by show (0 : Nat) < 4294967296; decide), ht, hk, hcl, by simp⟩
  have hck : r0.chk = rcChk k cl b.length := by rw [hr0]; rfl
  have hg0 : r0.g = g := by rw [hr0]
  have hs0 : r0.s = s := by rw [hr0]
  obtain ⟨R, hR⟩ : ∃ R, R = rcMkR P r0 := ⟨_, rfl⟩
  obtain ⟨E, hE⟩ : ∃ E, E = rcMkE r0 := ⟨_, rfl⟩
  have hRD : R.D.length = 32 := by
    rw [hR]; unfold rcMkR; split
    · exact shLink_len _ _
    · exact rcZD
  obtain ⟨W0, hW0⟩ : ∃ W, W = ((w.alloc (.cells #[.int .u64 (t : Int), .int .i64 k, .int .u64 (cl : Int), .slice A n c] 65)).alloc (.cells (dgA P) 67)).alloc (.cells (dgA Q) 67) := ⟨_, rfl⟩
  have b0 : Below w.heap.size w W0 := by rw [hW0]; exact (((below_self w).alloc (Nat.le_refl _) _).alloc (by simp) _).alloc (by simp; omega) _
  have z0 : W0.heap.size = w.heap.size + 3 := by rw [hW0]; simp
  have qe : Hid (W0.heap[w.heap.size]? = some (.cells #[.int .u64 (t : Int), .int .i64 k, .int .u64 (cl : Int), .slice A n c] 65 (0, 0))) := by rw [hW0]; exact Lib.hid (rw_old _ (rw_old _ (rw_at _ rfl)))
  have qP : Hid (W0.heap[w.heap.size + 1]? = some (.cells (dgA P) 67 (0, 0))) := by rw [hW0]; exact Lib.hid (rw_old _ (rw_at _ (by simp)))
  have qQ : Hid (W0.heap[w.heap.size + 2]? = some (.cells (dgA Q) 67 (0, 0))) := by rw [hW0]; exact Lib.hid (rw_at _ (by simp))
  have H1 := Lib.hid (recMake_any P hP g s 0 t k cl A n c b W0 hg hs (by omega) ht hk hcl (hr.below b0))
  rw [← hr0, ← hR, ← hE] at H1
  have HRD := Lib.hid hRD
  have HP := Lib.hid hP
  have HQ := Lib.hid hQ
  have HW0 := Lib.hid hW0
  have ZZ0 := Lib.hid z0
  have d4 : decide ((400 : Int) < (n : Int)) = false := decide_eq_false (by omega)
  have e2 : E = 2 := by rw [hE]; unfold rcMkE; rw [hck, hc]; rfl
  subst e2
  clear hr0 hok0 hck hR hE hRD hW0 hP hQ z0 hg0 hs0
  go_enter Try.func6, Try.ntmps6
  go_wp2_with (rw [← HW0.out]; refine dig_load rfl _ rfl (w.heap.size + 1) rfl P 67 qP.out HP.out ?_; have e0 := (cell_of_row W0 _ 0 _ _ _ qe.out).trans (show (#[.int .u64 (t : Int), .int .i64 k, .int .u64 (cl : Int), .slice A n c] : Array Value)[0]? = some (.int .u64 (t : Int)) from rfl); have e1 := (cell_of_row W0 _ 1 _ _ _ qe.out).trans (show (#[.int .u64 (t : Int), .int .i64 k, .int .u64 (cl : Int), .slice A n c] : Array Value)[1]? = some (.int .i64 k) from rfl); have e2 := (cell_of_row W0 _ 2 _ _ _ qe.out).trans (show (#[.int .u64 (t : Int), .int .i64 k, .int .u64 (cl : Int), .slice A n c] : Array Value)[2]? = some (.int .u64 (cl : Int)) from rfl); have e3 := (cell_of_row W0 _ 3 _ _ _ qe.out).trans (show (#[.int .u64 (t : Int), .int .i64 k, .int .u64 (cl : Int), .slice A n c] : Array Value)[3]? = some (.slice A n c) from rfl))
  refine H1.out.mono ?_
  rintro e w2 ⟨A2, n2, c2, rfl, r2, _, hb2⟩
  have qe2 := Lib.hid (rw_up qe.out hb2)
  have qP2 := Lib.hid (rw_up qP.out hb2)
  have qQ2 := Lib.hid (rw_up qQ.out hb2)
  clear e0 e1 e2 e3
  go_wp2_with (refine rc_fresh rfl _ _ rfl rfl rfl w2 rfl rfl HRD.out ?_; intro X2 q2 x2; have y3 := (cell_of_row X2 w.heap.size 3 _ _ _ (rw_up qe2.out x2)).trans (show (#[.int .u64 (t : Int), .int .i64 k, .int .u64 (cl : Int), .slice A n c] : Array Value)[3]? = some (.slice A n c) from rfl))
  refine (heads12 _).mono ?_
  rintro e w9 ⟨rfl, hb9⟩
  go_wp2
  go_ret
  exact ⟨rfl, below_then (below_then (below_then b0 hb2) x2) hb9⟩
theorem recStrict_gen (t : Nat) (k : Int) (cl : Nat) (A : Option Addr) (n c : Nat) (b : List UInt8) (P Q : List UInt8) (g s og os : Nat) (w : World) (ht : t < 18446744073709551616) (hk : -9223372036854775808 ≤ k ∧ k ≤ 9223372036854775807) (hcl : cl < 18446744073709551616) (hr : RdB w A n c b) (hP : P.length = 32) (hQ : Q.length = 32) (hg : g < 4294967296) (hs : s < 4294967296) (hog : og < 4294967296) (hos : os < 4294967296) (h4 : n ≤ 400) (hc : rcChk k cl b.length = true) (h1 : g ≠ og) :
    Calls Try.prog 6 #[.agg #[.int .u64 (t : Int), .int .i64 k, .int .u64 (cl : Int), .slice A n c], .agg (dgA P), .agg (dgA Q), .int .u32 (g : Int), .int .u32 (s : Int), .int .u32 (og : Int), .int .u32 (os : Int)] w (RetV w (.bool true)) := by
  have hn63 := hr.n63
  have hL := hr.2.1
  obtain ⟨r0, hr0⟩ : ∃ r, r = (⟨g, s, 0, t, k, cl, b, List.replicate 32 0⟩ : Rc) := ⟨_, rfl⟩
  have hok0 : r0.ok := by rw [hr0]; exact ⟨hg, hs, (by show (0 : Nat) < 4294967296; decide), ht, hk, hcl, by simp⟩
  have hck : r0.chk = rcChk k cl b.length := by rw [hr0]; rfl
  have hg0 : r0.g = g := by rw [hr0]
  have hs0 : r0.s = s := by rw [hr0]
  obtain ⟨R, hR⟩ : ∃ R, R = rcMkR P r0 := ⟨_, rfl⟩
  obtain ⟨E, hE⟩ : ∃ E, E = rcMkE r0 := ⟨_, rfl⟩
  have hRD : R.D.length = 32 := by
    rw [hR]; unfold rcMkR; split
    · exact shLink_len _ _
    · exact rcZD
  obtain ⟨W0, hW0⟩ : ∃ W, W = ((w.alloc (.cells #[.int .u64 (t : Int), .int .i64 k, .int .u64 (cl : Int), .slice A n c] 65)).alloc (.cells (dgA P) 67)).alloc (.cells (dgA Q) 67) := ⟨_, rfl⟩
  have b0 : Below w.heap.size w W0 := by rw [hW0]; exact (((below_self w).alloc (Nat.le_refl _) _).alloc (by simp) _).alloc (by simp; omega) _
  have z0 : W0.heap.size = w.heap.size + 3 := by rw [hW0]; simp
  have qe : Hid (W0.heap[w.heap.size]? = some (.cells #[.int .u64 (t : Int), .int .i64 k, .int .u64 (cl : Int), .slice A n c] 65 (0, 0))) := by rw [hW0]; exact Lib.hid (rw_old _ (rw_old _ (rw_at _ rfl)))
  have qP : Hid (W0.heap[w.heap.size + 1]? = some (.cells (dgA P) 67 (0, 0))) := by rw [hW0]; exact Lib.hid (rw_old _ (rw_at _ (by simp)))
  have qQ : Hid (W0.heap[w.heap.size + 2]? = some (.cells (dgA Q) 67 (0, 0))) := by rw [hW0]; exact Lib.hid (rw_at _ (by simp))
  have H1 := Lib.hid (recMake_any P hP g s 0 t k cl A n c b W0 hg hs (by omega) ht hk hcl (hr.below b0))
  rw [← hr0, ← hR, ← hE] at H1
  have HRD := Lib.hid hRD
  have HP := Lib.hid hP
  have HQ := Lib.hid hQ
  have HW0 := Lib.hid hW0
  have ZZ0 := Lib.hid z0
  have d4 : decide ((400 : Int) < (n : Int)) = false := decide_eq_false (by omega)
  have e2 : E = 0 := by rw [hE]; unfold rcMkE; rw [hck, hc]; rfl
  subst e2
  have hR2 : R = rcMk P r0 := by rw [hR]; unfold rcMkR; rw [if_pos (by rw [hck]; exact hc)]
  have hRok : R.ok := by rw [hR2]; exact rcMk_ok _ _ hok0
  have hRc : R.chk = true := by rw [hR2]; show r0.chk = true; rw [hck]; exact hc
  have hRl : R.b.length ≤ 180 := (rcChk_len hRc).1
  have hRbd : rcBody R = rcBody r0 := by rw [hR2]; rfl
  obtain ⟨Y, hY⟩ : ∃ Y, Y = rcPutL R := ⟨_, rfl⟩
  have hYl : Y.length = 256 := by rw [hY]; unfold rcPutL; rw [if_pos hRc]; exact rcL_len R (by omega) hRD
  have hYt : Y.take 220 = rcBody r0 := by rw [hY, ← hRbd]; unfold rcPutL; rw [if_pos hRc]; exact rcL_take R (by omega)
  have hPE : rcPutE R = 0 := by unfold rcPutE; rw [if_pos hRc]
  have hF := rcFol_put P Q r0 og os hok0 (by rw [hck]; exact hc)
  rw [← hR2, ← hY] at hF
  have hFE : rcFolE Q og os Y = 120 := by rw [hF]; rw [if_pos (by rw [hg0]; exact h1)]
  obtain ⟨R9, hR9⟩ : ∃ r, r = rcFol Q og os Y := ⟨_, rfl⟩
  have hR9D : R9.D.length = 32 := by rw [hR9]; exact rcFol_D _ _ _ _
  have H2 := Lib.hid (fun A n c W (h : RdB W A n c R.b) => recPut_any R A n c W hRok h)
  rw [← hY, hPE] at H2
  have H3 := Lib.hid (fun A c W (h : RdB W A 256 c Y) => recFollow_any Q hQ og os A 256 c Y W h)
  rw [hFE, ← hR9] at H3
  have n0 : ¬ ((og : Int) = (g : Int)) := by omega
  have n1 : ((og : Int) != (g : Int)) = true := bne_iff_ne.2 n0
  have HYL := Lib.hid hYl
  have HYT := Lib.hid hYt
  have HR9 := Lib.hid hR9D
  clear hr0 hok0 hck hR hE hRD hW0 hP hQ z0 hg0 hs0 hR2 hRok hRc hRl hRbd hY hYl hYt hPE hF hFE hR9 hR9D
  go_enter Try.func6, Try.ntmps6
  go_wp2_with (rw [← HW0.out]; refine dig_load rfl _ rfl (w.heap.size + 1) rfl P 67 qP.out HP.out ?_; have e0 := (cell_of_row W0 _ 0 _ _ _ qe.out).trans (show (#[.int .u64 (t : Int), .int .i64 k, .int .u64 (cl : Int), .slice A n c] : Array Value)[0]? = some (.int .u64 (t : Int)) from rfl); have e1 := (cell_of_row W0 _ 1 _ _ _ qe.out).trans (show (#[.int .u64 (t : Int), .int .i64 k, .int .u64 (cl : Int), .slice A n c] : Array Value)[1]? = some (.int .i64 k) from rfl); have e2 := (cell_of_row W0 _ 2 _ _ _ qe.out).trans (show (#[.int .u64 (t : Int), .int .i64 k, .int .u64 (cl : Int), .slice A n c] : Array Value)[2]? = some (.int .u64 (cl : Int)) from rfl); have e3 := (cell_of_row W0 _ 3 _ _ _ qe.out).trans (show (#[.int .u64 (t : Int), .int .i64 k, .int .u64 (cl : Int), .slice A n c] : Array Value)[3]? = some (.slice A n c) from rfl))
  refine H1.out.mono ?_
  rintro e w2 ⟨A2, n2, c2, rfl, r2, _, hb2⟩
  have qe2 := Lib.hid (rw_up qe.out hb2)
  have qP2 := Lib.hid (rw_up qP.out hb2)
  have qQ2 := Lib.hid (rw_up qQ.out hb2)
  clear e0 e1 e2 e3
  go_wp2_with (first | (refine rc_fresh rfl _ _ rfl rfl rfl w2 rfl rfl HRD.out ?_; intro X2 q2 x2; have y3 := (cell_of_row X2 w.heap.size 3 _ _ _ (rw_up qe2.out x2)).trans (show (#[.int .u64 (t : Int), .int .i64 k, .int .u64 (cl : Int), .slice A n c] : Array Value)[3]? = some (.slice A n c) from rfl)) | (refine rc_load rfl _ rfl rfl q2.out HRD.out ?_))
  have B2 := below_then (below_then b0 hb2) x2
  have qP2 := Lib.hid (rw_up qP2.out x2)
  have qQ2 := Lib.hid (rw_up qQ2.out x2)
  refine (H2.out _ _ _ X2 (r2.below x2)).mono ?_
  rintro e w3 ⟨A3, n3, c3, rfl, ho3, hb3⟩
  have hn3 : n3 = 256 := by rw [← ho3.len, HYL.out]
  subst hn3
  have B3 := below_then B2 hb3
  have r3 := ho3.rd
  have qP2 := Lib.hid (rw_up qP2.out hb3)
  have qQ2 := Lib.hid (rw_up qQ2.out hb3)
  clear ho3 y3
  go_wp2_with (refine dig_load rfl _ rfl (w.heap.size + 2) rfl Q 67 qQ2.out HQ.out ?_)
  refine (H3.out _ _ w3 r3).mono ?_
  rintro e w4 ⟨A4, n4, c4, rfl, r4, _, hb4⟩
  have B4 := below_then B3 hb4
  have r3 := r3.below hb4
  have qP4 := Lib.hid (rw_up qP2.out hb4)
  have qQ4 := Lib.hid (rw_up qQ2.out hb4)
  go_wp2_with (refine rc_fresh rfl _ _ rfl rfl rfl w4 rfl rfl HR9.out ?_; intro X4 q4 x4; have qP5 := Lib.hid (rw_up qP4.out x4); have qQ5 := Lib.hid (rw_up qQ4.out x4))
  refine (heads12 _).mono ?_
  rintro e w9 ⟨rfl, hb9⟩
  go_wp2
  go_ret
  exact ⟨rfl, below_then (below_then B4 x4) hb9⟩
theorem recStrict_seq (t : Nat) (k : Int) (cl : Nat) (A : Option Addr) (n c : Nat) (b : List UInt8) (P Q : List UInt8) (g s og os : Nat) (w : World) (ht : t < 18446744073709551616) (hk : -9223372036854775808 ≤ k ∧ k ≤ 9223372036854775807) (hcl : cl < 18446744073709551616) (hr : RdB w A n c b) (hP : P.length = 32) (hQ : Q.length = 32) (hg : g < 4294967296) (hs : s < 4294967296) (hog : og < 4294967296) (hos : os < 4294967296) (h4 : n ≤ 400) (hc : rcChk k cl b.length = true) (h1 : og = g) (h2 : s ≠ os) :
    Calls Try.prog 6 #[.agg #[.int .u64 (t : Int), .int .i64 k, .int .u64 (cl : Int), .slice A n c], .agg (dgA P), .agg (dgA Q), .int .u32 (g : Int), .int .u32 (s : Int), .int .u32 (og : Int), .int .u32 (os : Int)] w (RetV w (.bool true)) := by
  have hn63 := hr.n63
  have hL := hr.2.1
  obtain ⟨r0, hr0⟩ : ∃ r, r = (⟨g, s, 0, t, k, cl, b, List.replicate 32 0⟩ : Rc) := ⟨_, rfl⟩
  have hok0 : r0.ok := by rw [hr0]; exact ⟨hg, hs, (by show (0 : Nat) < 4294967296; decide), ht, hk, hcl, by simp⟩
  have hck : r0.chk = rcChk k cl b.length := by rw [hr0]; rfl
  have hg0 : r0.g = g := by rw [hr0]
  have hs0 : r0.s = s := by rw [hr0]
  obtain ⟨R, hR⟩ : ∃ R, R = rcMkR P r0 := ⟨_, rfl⟩
  obtain ⟨E, hE⟩ : ∃ E, E = rcMkE r0 := ⟨_, rfl⟩
  have hRD : R.D.length = 32 := by
    rw [hR]; unfold rcMkR; split
    · exact shLink_len _ _
    · exact rcZD
  obtain ⟨W0, hW0⟩ : ∃ W, W = ((w.alloc (.cells #[.int .u64 (t : Int), .int .i64 k, .int .u64 (cl : Int), .slice A n c] 65)).alloc (.cells (dgA P) 67)).alloc (.cells (dgA Q) 67) := ⟨_, rfl⟩
  have b0 : Below w.heap.size w W0 := by rw [hW0]; exact (((below_self w).alloc (Nat.le_refl _) _).alloc (by simp) _).alloc (by simp; omega) _
  have z0 : W0.heap.size = w.heap.size + 3 := by rw [hW0]; simp
  have qe : Hid (W0.heap[w.heap.size]? = some (.cells #[.int .u64 (t : Int), .int .i64 k, .int .u64 (cl : Int), .slice A n c] 65 (0, 0))) := by rw [hW0]; exact Lib.hid (rw_old _ (rw_old _ (rw_at _ rfl)))
  have qP : Hid (W0.heap[w.heap.size + 1]? = some (.cells (dgA P) 67 (0, 0))) := by rw [hW0]; exact Lib.hid (rw_old _ (rw_at _ (by simp)))
  have qQ : Hid (W0.heap[w.heap.size + 2]? = some (.cells (dgA Q) 67 (0, 0))) := by rw [hW0]; exact Lib.hid (rw_at _ (by simp))
  have H1 := Lib.hid (recMake_any P hP g s 0 t k cl A n c b W0 hg hs (by omega) ht hk hcl (hr.below b0))
  rw [← hr0, ← hR, ← hE] at H1
  have HRD := Lib.hid hRD
  have HP := Lib.hid hP
  have HQ := Lib.hid hQ
  have HW0 := Lib.hid hW0
  have ZZ0 := Lib.hid z0
  have d4 : decide ((400 : Int) < (n : Int)) = false := decide_eq_false (by omega)
  have e2 : E = 0 := by rw [hE]; unfold rcMkE; rw [hck, hc]; rfl
  subst e2
  have hR2 : R = rcMk P r0 := by rw [hR]; unfold rcMkR; rw [if_pos (by rw [hck]; exact hc)]
  have hRok : R.ok := by rw [hR2]; exact rcMk_ok _ _ hok0
  have hRc : R.chk = true := by rw [hR2]; show r0.chk = true; rw [hck]; exact hc
  have hRl : R.b.length ≤ 180 := (rcChk_len hRc).1
  have hRbd : rcBody R = rcBody r0 := by rw [hR2]; rfl
  obtain ⟨Y, hY⟩ : ∃ Y, Y = rcPutL R := ⟨_, rfl⟩
  have hYl : Y.length = 256 := by rw [hY]; unfold rcPutL; rw [if_pos hRc]; exact rcL_len R (by omega) hRD
  have hYt : Y.take 220 = rcBody r0 := by rw [hY, ← hRbd]; unfold rcPutL; rw [if_pos hRc]; exact rcL_take R (by omega)
  have hPE : rcPutE R = 0 := by unfold rcPutE; rw [if_pos hRc]
  have hF := rcFol_put P Q r0 og os hok0 (by rw [hck]; exact hc)
  rw [← hR2, ← hY] at hF
  have hFE : rcFolE Q og os Y = 121 := by rw [hF]; rw [if_neg (by rw [hg0, h1]; simp), if_pos (by rw [hs0]; exact h2)]
  obtain ⟨R9, hR9⟩ : ∃ r, r = rcFol Q og os Y := ⟨_, rfl⟩
  have hR9D : R9.D.length = 32 := by rw [hR9]; exact rcFol_D _ _ _ _
  have H2 := Lib.hid (fun A n c W (h : RdB W A n c R.b) => recPut_any R A n c W hRok h)
  rw [← hY, hPE] at H2
  have H3 := Lib.hid (fun A c W (h : RdB W A 256 c Y) => recFollow_any Q hQ og os A 256 c Y W h)
  rw [hFE, ← hR9] at H3
  have n0 : ¬ ((os : Int) = (s : Int)) := by omega
  have n1 : ((os : Int) != (s : Int)) = true := bne_iff_ne.2 n0
  have m0 : ((og : Int) != (g : Int)) = false := by rw [h1]; simp
  have m1 : (og : Int) = (g : Int) := by rw [h1]
  subst h1
  clear m1
  have HYL := Lib.hid hYl
  have HYT := Lib.hid hYt
  have HR9 := Lib.hid hR9D
  clear hr0 hok0 hck hR hE hRD hW0 hP hQ z0 hg0 hs0 hR2 hRok hRc hRl hRbd hY hYl hYt hPE hF hFE hR9 hR9D
  go_enter Try.func6, Try.ntmps6
  go_wp2_with (rw [← HW0.out]; refine dig_load rfl _ rfl (w.heap.size + 1) rfl P 67 qP.out HP.out ?_; have e0 := (cell_of_row W0 _ 0 _ _ _ qe.out).trans (show (#[.int .u64 (t : Int), .int .i64 k, .int .u64 (cl : Int), .slice A n c] : Array Value)[0]? = some (.int .u64 (t : Int)) from rfl); have e1 := (cell_of_row W0 _ 1 _ _ _ qe.out).trans (show (#[.int .u64 (t : Int), .int .i64 k, .int .u64 (cl : Int), .slice A n c] : Array Value)[1]? = some (.int .i64 k) from rfl); have e2 := (cell_of_row W0 _ 2 _ _ _ qe.out).trans (show (#[.int .u64 (t : Int), .int .i64 k, .int .u64 (cl : Int), .slice A n c] : Array Value)[2]? = some (.int .u64 (cl : Int)) from rfl); have e3 := (cell_of_row W0 _ 3 _ _ _ qe.out).trans (show (#[.int .u64 (t : Int), .int .i64 k, .int .u64 (cl : Int), .slice A n c] : Array Value)[3]? = some (.slice A n c) from rfl))
  refine H1.out.mono ?_
  rintro e w2 ⟨A2, n2, c2, rfl, r2, _, hb2⟩
  have qe2 := Lib.hid (rw_up qe.out hb2)
  have qP2 := Lib.hid (rw_up qP.out hb2)
  have qQ2 := Lib.hid (rw_up qQ.out hb2)
  clear e0 e1 e2 e3
  go_wp2_with (first | (refine rc_fresh rfl _ _ rfl rfl rfl w2 rfl rfl HRD.out ?_; intro X2 q2 x2; have y3 := (cell_of_row X2 w.heap.size 3 _ _ _ (rw_up qe2.out x2)).trans (show (#[.int .u64 (t : Int), .int .i64 k, .int .u64 (cl : Int), .slice A n c] : Array Value)[3]? = some (.slice A n c) from rfl)) | (refine rc_load rfl _ rfl rfl q2.out HRD.out ?_))
  have B2 := below_then (below_then b0 hb2) x2
  have qP2 := Lib.hid (rw_up qP2.out x2)
  have qQ2 := Lib.hid (rw_up qQ2.out x2)
  refine (H2.out _ _ _ X2 (r2.below x2)).mono ?_
  rintro e w3 ⟨A3, n3, c3, rfl, ho3, hb3⟩
  have hn3 : n3 = 256 := by rw [← ho3.len, HYL.out]
  subst hn3
  have B3 := below_then B2 hb3
  have r3 := ho3.rd
  have qP2 := Lib.hid (rw_up qP2.out hb3)
  have qQ2 := Lib.hid (rw_up qQ2.out hb3)
  clear ho3 y3
  go_wp2_with (refine dig_load rfl _ rfl (w.heap.size + 2) rfl Q 67 qQ2.out HQ.out ?_)
  refine (H3.out _ _ w3 r3).mono ?_
  rintro e w4 ⟨A4, n4, c4, rfl, r4, _, hb4⟩
  have B4 := below_then B3 hb4
  have r3 := r3.below hb4
  have qP4 := Lib.hid (rw_up qP2.out hb4)
  have qQ4 := Lib.hid (rw_up qQ2.out hb4)
  go_wp2_with (refine rc_fresh rfl _ _ rfl rfl rfl w4 rfl rfl HR9.out ?_; intro X4 q4 x4; have qP5 := Lib.hid (rw_up qP4.out x4); have qQ5 := Lib.hid (rw_up qQ4.out x4))
  refine (heads12 _).mono ?_
  rintro e w9 ⟨rfl, hb9⟩
  go_wp2
  go_ret
  exact ⟨rfl, below_then (below_then B4 x4) hb9⟩
theorem recStrict_chain (t : Nat) (k : Int) (cl : Nat) (A : Option Addr) (n c : Nat) (b : List UInt8) (P Q : List UInt8) (g s og os : Nat) (w : World) (ht : t < 18446744073709551616) (hk : -9223372036854775808 ≤ k ∧ k ≤ 9223372036854775807) (hcl : cl < 18446744073709551616) (hr : RdB w A n c b) (hP : P.length = 32) (hQ : Q.length = 32) (hg : g < 4294967296) (hs : s < 4294967296) (hog : og < 4294967296) (hos : os < 4294967296) (h4 : n ≤ 400) (hc : rcChk k cl b.length = true) (h1 : og = g) (h2 : os = s) (h3 : P ≠ Q) (h7 : shLink P (rcBody ⟨g, s, 0, t, k, cl, b, List.replicate 32 0⟩) ≠ shLink Q (rcBody ⟨g, s, 0, t, k, cl, b, List.replicate 32 0⟩)) :
    Calls Try.prog 6 #[.agg #[.int .u64 (t : Int), .int .i64 k, .int .u64 (cl : Int), .slice A n c], .agg (dgA P), .agg (dgA Q), .int .u32 (g : Int), .int .u32 (s : Int), .int .u32 (og : Int), .int .u32 (os : Int)] w (RetV w (.bool true)) := by
  have hn63 := hr.n63
  have hL := hr.2.1
  obtain ⟨r0, hr0⟩ : ∃ r, r = (⟨g, s, 0, t, k, cl, b, List.replicate 32 0⟩ : Rc) := ⟨_, rfl⟩
  have hok0 : r0.ok := by rw [hr0]; exact ⟨hg, hs, (by show (0 : Nat) < 4294967296; decide), ht, hk, hcl, by simp⟩
  have hck : r0.chk = rcChk k cl b.length := by rw [hr0]; rfl
  have hg0 : r0.g = g := by rw [hr0]
  have hs0 : r0.s = s := by rw [hr0]
  obtain ⟨R, hR⟩ : ∃ R, R = rcMkR P r0 := ⟨_, rfl⟩
  obtain ⟨E, hE⟩ : ∃ E, E = rcMkE r0 := ⟨_, rfl⟩
  have hRD : R.D.length = 32 := by
    rw [hR]; unfold rcMkR; split
    · exact shLink_len _ _
    · exact rcZD
  obtain ⟨W0, hW0⟩ : ∃ W, W = ((w.alloc (.cells #[.int .u64 (t : Int), .int .i64 k, .int .u64 (cl : Int), .slice A n c] 65)).alloc (.cells (dgA P) 67)).alloc (.cells (dgA Q) 67) := ⟨_, rfl⟩
  have b0 : Below w.heap.size w W0 := by rw [hW0]; exact (((below_self w).alloc (Nat.le_refl _) _).alloc (by simp) _).alloc (by simp; omega) _
  have z0 : W0.heap.size = w.heap.size + 3 := by rw [hW0]; simp
  have qe : Hid (W0.heap[w.heap.size]? = some (.cells #[.int .u64 (t : Int), .int .i64 k, .int .u64 (cl : Int), .slice A n c] 65 (0, 0))) := by rw [hW0]; exact Lib.hid (rw_old _ (rw_old _ (rw_at _ rfl)))
  have qP : Hid (W0.heap[w.heap.size + 1]? = some (.cells (dgA P) 67 (0, 0))) := by rw [hW0]; exact Lib.hid (rw_old _ (rw_at _ (by simp)))
  have qQ : Hid (W0.heap[w.heap.size + 2]? = some (.cells (dgA Q) 67 (0, 0))) := by rw [hW0]; exact Lib.hid (rw_at _ (by simp))
  have H1 := Lib.hid (recMake_any P hP g s 0 t k cl A n c b W0 hg hs (by omega) ht hk hcl (hr.below b0))
  rw [← hr0, ← hR, ← hE] at H1
  have HRD := Lib.hid hRD
  have HP := Lib.hid hP
  have HQ := Lib.hid hQ
  have HW0 := Lib.hid hW0
  have ZZ0 := Lib.hid z0
  have d4 : decide ((400 : Int) < (n : Int)) = false := decide_eq_false (by omega)
  have e2 : E = 0 := by rw [hE]; unfold rcMkE; rw [hck, hc]; rfl
  subst e2
  have hR2 : R = rcMk P r0 := by rw [hR]; unfold rcMkR; rw [if_pos (by rw [hck]; exact hc)]
  have hRok : R.ok := by rw [hR2]; exact rcMk_ok _ _ hok0
  have hRc : R.chk = true := by rw [hR2]; show r0.chk = true; rw [hck]; exact hc
  have hRl : R.b.length ≤ 180 := (rcChk_len hRc).1
  have hRbd : rcBody R = rcBody r0 := by rw [hR2]; rfl
  obtain ⟨Y, hY⟩ : ∃ Y, Y = rcPutL R := ⟨_, rfl⟩
  have hYl : Y.length = 256 := by rw [hY]; unfold rcPutL; rw [if_pos hRc]; exact rcL_len R (by omega) hRD
  have hYt : Y.take 220 = rcBody r0 := by rw [hY, ← hRbd]; unfold rcPutL; rw [if_pos hRc]; exact rcL_take R (by omega)
  have hPE : rcPutE R = 0 := by unfold rcPutE; rw [if_pos hRc]
  have hF := rcFol_put P Q r0 og os hok0 (by rw [hck]; exact hc)
  rw [← hR2, ← hY] at hF
  have hFE : rcFolE Q og os Y = 122 := by rw [hF]; rw [if_neg (by rw [hg0, h1]; simp), if_neg (by rw [hs0, h2]; simp), if_pos (by rw [hr0]; exact h7)]
  obtain ⟨R9, hR9⟩ : ∃ r, r = rcFol Q og os Y := ⟨_, rfl⟩
  have hR9D : R9.D.length = 32 := by rw [hR9]; exact rcFol_D _ _ _ _
  have H2 := Lib.hid (fun A n c W (h : RdB W A n c R.b) => recPut_any R A n c W hRok h)
  rw [← hY, hPE] at H2
  have H3 := Lib.hid (fun A c W (h : RdB W A 256 c Y) => recFollow_any Q hQ og os A 256 c Y W h)
  rw [hFE, ← hR9] at H3
  have kq := fun W => rdig_eq P Q hP hQ W
  rw [decide_eq_false h3] at kq
  clear h3
  try have HLK : Hid (shLink P (rcBody r0) = shLink Q (rcBody r0)) := Lib.hid (by rw [hr0]; exact h7)
  try clear h7
  subst h1
  subst h2
  have HYL := Lib.hid hYl
  have HYT := Lib.hid hYt
  have HR9 := Lib.hid hR9D
  clear hr0 hok0 hck hR hE hRD hW0 hP hQ z0 hg0 hs0 hR2 hRok hRc hRl hRbd hY hYl hYt hPE hF hFE hR9 hR9D
  go_enter Try.func6, Try.ntmps6
  go_wp2_with (rw [← HW0.out]; refine dig_load rfl _ rfl (w.heap.size + 1) rfl P 67 qP.out HP.out ?_; have e0 := (cell_of_row W0 _ 0 _ _ _ qe.out).trans (show (#[.int .u64 (t : Int), .int .i64 k, .int .u64 (cl : Int), .slice A n c] : Array Value)[0]? = some (.int .u64 (t : Int)) from rfl); have e1 := (cell_of_row W0 _ 1 _ _ _ qe.out).trans (show (#[.int .u64 (t : Int), .int .i64 k, .int .u64 (cl : Int), .slice A n c] : Array Value)[1]? = some (.int .i64 k) from rfl); have e2 := (cell_of_row W0 _ 2 _ _ _ qe.out).trans (show (#[.int .u64 (t : Int), .int .i64 k, .int .u64 (cl : Int), .slice A n c] : Array Value)[2]? = some (.int .u64 (cl : Int)) from rfl); have e3 := (cell_of_row W0 _ 3 _ _ _ qe.out).trans (show (#[.int .u64 (t : Int), .int .i64 k, .int .u64 (cl : Int), .slice A n c] : Array Value)[3]? = some (.slice A n c) from rfl))
  refine H1.out.mono ?_
  rintro e w2 ⟨A2, n2, c2, rfl, r2, _, hb2⟩
  have qe2 := Lib.hid (rw_up qe.out hb2)
  have qP2 := Lib.hid (rw_up qP.out hb2)
  have qQ2 := Lib.hid (rw_up qQ.out hb2)
  clear e0 e1 e2 e3
  go_wp2_with (first | (refine rc_fresh rfl _ _ rfl rfl rfl w2 rfl rfl HRD.out ?_; intro X2 q2 x2; have y3 := (cell_of_row X2 w.heap.size 3 _ _ _ (rw_up qe2.out x2)).trans (show (#[.int .u64 (t : Int), .int .i64 k, .int .u64 (cl : Int), .slice A n c] : Array Value)[3]? = some (.slice A n c) from rfl)) | (refine rc_load rfl _ rfl rfl q2.out HRD.out ?_))
  have B2 := below_then (below_then b0 hb2) x2
  have qP2 := Lib.hid (rw_up qP2.out x2)
  have qQ2 := Lib.hid (rw_up qQ2.out x2)
  refine (H2.out _ _ _ X2 (r2.below x2)).mono ?_
  rintro e w3 ⟨A3, n3, c3, rfl, ho3, hb3⟩
  have hn3 : n3 = 256 := by rw [← ho3.len, HYL.out]
  subst hn3
  have B3 := below_then B2 hb3
  have r3 := ho3.rd
  have qP2 := Lib.hid (rw_up qP2.out hb3)
  have qQ2 := Lib.hid (rw_up qQ2.out hb3)
  clear ho3 y3
  go_wp2_with (refine dig_load rfl _ rfl (w.heap.size + 2) rfl Q 67 qQ2.out HQ.out ?_)
  refine (H3.out _ _ w3 r3).mono ?_
  rintro e w4 ⟨A4, n4, c4, rfl, r4, _, hb4⟩
  have B4 := below_then B3 hb4
  have r3 := r3.below hb4
  have qP4 := Lib.hid (rw_up qP2.out hb4)
  have qQ4 := Lib.hid (rw_up qQ2.out hb4)
  go_wp2_with (first | (refine rc_fresh rfl _ _ rfl rfl rfl w4 rfl rfl HR9.out ?_; intro X4 q4 x4; have qP5 := Lib.hid (rw_up qP4.out x4); have qQ5 := Lib.hid (rw_up qQ4.out x4)) | (refine dig_load rfl _ rfl (w.heap.size + 1) rfl P 67 qP5.out HP.out ?_) | (refine dig_load rfl _ rfl (w.heap.size + 2) rfl Q 67 qQ5.out HQ.out ?_))
  refine (heads12 _).mono ?_
  rintro e w9 ⟨rfl, hb9⟩
  go_wp2
  go_ret
  exact ⟨rfl, below_then (below_then B4 x4) hb9⟩
theorem recStrict_same (t : Nat) (k : Int) (cl : Nat) (A : Option Addr) (n c : Nat) (b : List UInt8) (P Q : List UInt8) (g s og os : Nat) (w : World) (ht : t < 18446744073709551616) (hk : -9223372036854775808 ≤ k ∧ k ≤ 9223372036854775807) (hcl : cl < 18446744073709551616) (hr : RdB w A n c b) (hP : P.length = 32) (hQ : Q.length = 32) (hg : g < 4294967296) (hs : s < 4294967296) (hog : og < 4294967296) (hos : os < 4294967296) (h4 : n ≤ 400) (hc : rcChk k cl b.length = true) (h1 : og = g) (h2 : os = s) (h3 : P = Q) :
    Calls Try.prog 6 #[.agg #[.int .u64 (t : Int), .int .i64 k, .int .u64 (cl : Int), .slice A n c], .agg (dgA P), .agg (dgA Q), .int .u32 (g : Int), .int .u32 (s : Int), .int .u32 (og : Int), .int .u32 (os : Int)] w (RetV w (.bool true)) := by
  have hn63 := hr.n63
  have hL := hr.2.1
  obtain ⟨r0, hr0⟩ : ∃ r, r = (⟨g, s, 0, t, k, cl, b, List.replicate 32 0⟩ : Rc) := ⟨_, rfl⟩
  have hok0 : r0.ok := by rw [hr0]; exact ⟨hg, hs, (by show (0 : Nat) < 4294967296; decide), ht, hk, hcl, by simp⟩
  have hck : r0.chk = rcChk k cl b.length := by rw [hr0]; rfl
  have hg0 : r0.g = g := by rw [hr0]
  have hs0 : r0.s = s := by rw [hr0]
  obtain ⟨R, hR⟩ : ∃ R, R = rcMkR P r0 := ⟨_, rfl⟩
  obtain ⟨E, hE⟩ : ∃ E, E = rcMkE r0 := ⟨_, rfl⟩
  have hRD : R.D.length = 32 := by
    rw [hR]; unfold rcMkR; split
    · exact shLink_len _ _
    · exact rcZD
  obtain ⟨W0, hW0⟩ : ∃ W, W = ((w.alloc (.cells #[.int .u64 (t : Int), .int .i64 k, .int .u64 (cl : Int), .slice A n c] 65)).alloc (.cells (dgA P) 67)).alloc (.cells (dgA Q) 67) := ⟨_, rfl⟩
  have b0 : Below w.heap.size w W0 := by rw [hW0]; exact (((below_self w).alloc (Nat.le_refl _) _).alloc (by simp) _).alloc (by simp; omega) _
  have z0 : W0.heap.size = w.heap.size + 3 := by rw [hW0]; simp
  have qe : Hid (W0.heap[w.heap.size]? = some (.cells #[.int .u64 (t : Int), .int .i64 k, .int .u64 (cl : Int), .slice A n c] 65 (0, 0))) := by rw [hW0]; exact Lib.hid (rw_old _ (rw_old _ (rw_at _ rfl)))
  have qP : Hid (W0.heap[w.heap.size + 1]? = some (.cells (dgA P) 67 (0, 0))) := by rw [hW0]; exact Lib.hid (rw_old _ (rw_at _ (by simp)))
  have qQ : Hid (W0.heap[w.heap.size + 2]? = some (.cells (dgA Q) 67 (0, 0))) := by rw [hW0]; exact Lib.hid (rw_at _ (by simp))
  have H1 := Lib.hid (recMake_any P hP g s 0 t k cl A n c b W0 hg hs (by omega) ht hk hcl (hr.below b0))
  rw [← hr0, ← hR, ← hE] at H1
  have HRD := Lib.hid hRD
  have HP := Lib.hid hP
  have HQ := Lib.hid hQ
  have HW0 := Lib.hid hW0
  have ZZ0 := Lib.hid z0
  have d4 : decide ((400 : Int) < (n : Int)) = false := decide_eq_false (by omega)
  have e2 : E = 0 := by rw [hE]; unfold rcMkE; rw [hck, hc]; rfl
  subst e2
  have hR2 : R = rcMk P r0 := by rw [hR]; unfold rcMkR; rw [if_pos (by rw [hck]; exact hc)]
  have hRok : R.ok := by rw [hR2]; exact rcMk_ok _ _ hok0
  have hRc : R.chk = true := by rw [hR2]; show r0.chk = true; rw [hck]; exact hc
  have hRl : R.b.length ≤ 180 := (rcChk_len hRc).1
  have hRbd : rcBody R = rcBody r0 := by rw [hR2]; rfl
  obtain ⟨Y, hY⟩ : ∃ Y, Y = rcPutL R := ⟨_, rfl⟩
  have hYl : Y.length = 256 := by rw [hY]; unfold rcPutL; rw [if_pos hRc]; exact rcL_len R (by omega) hRD
  have hYt : Y.take 220 = rcBody r0 := by rw [hY, ← hRbd]; unfold rcPutL; rw [if_pos hRc]; exact rcL_take R (by omega)
  have hPE : rcPutE R = 0 := by unfold rcPutE; rw [if_pos hRc]
  have hF := rcFol_put P Q r0 og os hok0 (by rw [hck]; exact hc)
  rw [← hR2, ← hY] at hF
  have hFE : rcFolE Q og os Y = 0 := by rw [hF]; rw [if_neg (by rw [hg0, h1]; simp), if_neg (by rw [hs0, h2]; simp), if_neg (by rw [h3]; simp)]
  obtain ⟨R9, hR9⟩ : ∃ r, r = rcFol Q og os Y := ⟨_, rfl⟩
  have hR9D : R9.D.length = 32 := by rw [hR9]; exact rcFol_D _ _ _ _
  have H2 := Lib.hid (fun A n c W (h : RdB W A n c R.b) => recPut_any R A n c W hRok h)
  rw [← hY, hPE] at H2
  have H3 := Lib.hid (fun A c W (h : RdB W A 256 c Y) => recFollow_any Q hQ og os A 256 c Y W h)
  rw [hFE, ← hR9] at H3
  have kq := fun W => rdig_eq P Q hP hQ W
  rw [decide_eq_true h3] at kq
  clear h3
  try have HLK : Hid (shLink P (rcBody r0) = shLink Q (rcBody r0)) := Lib.hid (by rw [hr0]; exact h7)
  try clear h7
  subst h1
  subst h2
  have HYL := Lib.hid hYl
  have HYT := Lib.hid hYt
  have HR9 := Lib.hid hR9D
  clear hr0 hok0 hck hR hE hRD hW0 hP hQ z0 hg0 hs0 hR2 hRok hRc hRl hRbd hY hYl hYt hPE hF hFE hR9 hR9D
  go_enter Try.func6, Try.ntmps6
  go_wp2_with (rw [← HW0.out]; refine dig_load rfl _ rfl (w.heap.size + 1) rfl P 67 qP.out HP.out ?_; have e0 := (cell_of_row W0 _ 0 _ _ _ qe.out).trans (show (#[.int .u64 (t : Int), .int .i64 k, .int .u64 (cl : Int), .slice A n c] : Array Value)[0]? = some (.int .u64 (t : Int)) from rfl); have e1 := (cell_of_row W0 _ 1 _ _ _ qe.out).trans (show (#[.int .u64 (t : Int), .int .i64 k, .int .u64 (cl : Int), .slice A n c] : Array Value)[1]? = some (.int .i64 k) from rfl); have e2 := (cell_of_row W0 _ 2 _ _ _ qe.out).trans (show (#[.int .u64 (t : Int), .int .i64 k, .int .u64 (cl : Int), .slice A n c] : Array Value)[2]? = some (.int .u64 (cl : Int)) from rfl); have e3 := (cell_of_row W0 _ 3 _ _ _ qe.out).trans (show (#[.int .u64 (t : Int), .int .i64 k, .int .u64 (cl : Int), .slice A n c] : Array Value)[3]? = some (.slice A n c) from rfl))
  refine H1.out.mono ?_
  rintro e w2 ⟨A2, n2, c2, rfl, r2, _, hb2⟩
  have qe2 := Lib.hid (rw_up qe.out hb2)
  have qP2 := Lib.hid (rw_up qP.out hb2)
  have qQ2 := Lib.hid (rw_up qQ.out hb2)
  clear e0 e1 e2 e3
  go_wp2_with (first | (refine rc_fresh rfl _ _ rfl rfl rfl w2 rfl rfl HRD.out ?_; intro X2 q2 x2; have y3 := (cell_of_row X2 w.heap.size 3 _ _ _ (rw_up qe2.out x2)).trans (show (#[.int .u64 (t : Int), .int .i64 k, .int .u64 (cl : Int), .slice A n c] : Array Value)[3]? = some (.slice A n c) from rfl)) | (refine rc_load rfl _ rfl rfl q2.out HRD.out ?_))
  have B2 := below_then (below_then b0 hb2) x2
  have qP2 := Lib.hid (rw_up qP2.out x2)
  have qQ2 := Lib.hid (rw_up qQ2.out x2)
  refine (H2.out _ _ _ X2 (r2.below x2)).mono ?_
  rintro e w3 ⟨A3, n3, c3, rfl, ho3, hb3⟩
  have hn3 : n3 = 256 := by rw [← ho3.len, HYL.out]
  subst hn3
  have B3 := below_then B2 hb3
  have r3 := ho3.rd
  have qP2 := Lib.hid (rw_up qP2.out hb3)
  have qQ2 := Lib.hid (rw_up qQ2.out hb3)
  clear ho3 y3
  go_wp2_with (refine dig_load rfl _ rfl (w.heap.size + 2) rfl Q 67 qQ2.out HQ.out ?_)
  refine (H3.out _ _ w3 r3).mono ?_
  rintro e w4 ⟨A4, n4, c4, rfl, r4, _, hb4⟩
  have B4 := below_then B3 hb4
  have r3 := r3.below hb4
  have qP4 := Lib.hid (rw_up qP2.out hb4)
  have qQ4 := Lib.hid (rw_up qQ2.out hb4)
  go_wp2_with (first | (refine rc_fresh rfl _ _ rfl rfl rfl w4 rfl rfl HR9.out ?_; intro X4 q4 x4; have qP5 := Lib.hid (rw_up qP4.out x4); have qQ5 := Lib.hid (rw_up qQ4.out x4)) | (refine dig_load rfl _ rfl (w.heap.size + 1) rfl P 67 qP5.out HP.out ?_) | (refine dig_load rfl _ rfl (w.heap.size + 2) rfl Q 67 qQ5.out HQ.out ?_))
  refine (heads12 _).mono ?_
  rintro e w9 ⟨rfl, hb9⟩
  go_wp2
  go_ret
  exact ⟨rfl, below_then (below_then B4 x4) hb9⟩
theorem recStrict_coll (t : Nat) (k : Int) (cl : Nat) (A : Option Addr) (n c : Nat) (b : List UInt8) (P Q : List UInt8) (g s og os : Nat) (w : World) (ht : t < 18446744073709551616) (hk : -9223372036854775808 ≤ k ∧ k ≤ 9223372036854775807) (hcl : cl < 18446744073709551616) (hr : RdB w A n c b) (hP : P.length = 32) (hQ : Q.length = 32) (hg : g < 4294967296) (hs : s < 4294967296) (hog : og < 4294967296) (hos : os < 4294967296) (h4 : n ≤ 400) (hc : rcChk k cl b.length = true) (h1 : og = g) (h2 : os = s) (h3 : P ≠ Q) (h7 : shLink P (rcBody ⟨g, s, 0, t, k, cl, b, List.replicate 32 0⟩) = shLink Q (rcBody ⟨g, s, 0, t, k, cl, b, List.replicate 32 0⟩)) :
    Calls Try.prog 6 #[.agg #[.int .u64 (t : Int), .int .i64 k, .int .u64 (cl : Int), .slice A n c], .agg (dgA P), .agg (dgA Q), .int .u32 (g : Int), .int .u32 (s : Int), .int .u32 (og : Int), .int .u32 (os : Int)] w (RetV w (.bool true)) := by
  have hn63 := hr.n63
  have hL := hr.2.1
  obtain ⟨r0, hr0⟩ : ∃ r, r = (⟨g, s, 0, t, k, cl, b, List.replicate 32 0⟩ : Rc) := ⟨_, rfl⟩
  have hok0 : r0.ok := by rw [hr0]; exact ⟨hg, hs, (by show (0 : Nat) < 4294967296; decide), ht, hk, hcl, by simp⟩
  have hck : r0.chk = rcChk k cl b.length := by rw [hr0]; rfl
  have hg0 : r0.g = g := by rw [hr0]
  have hs0 : r0.s = s := by rw [hr0]
  obtain ⟨R, hR⟩ : ∃ R, R = rcMkR P r0 := ⟨_, rfl⟩
  obtain ⟨E, hE⟩ : ∃ E, E = rcMkE r0 := ⟨_, rfl⟩
  have hRD : R.D.length = 32 := by
    rw [hR]; unfold rcMkR; split
    · exact shLink_len _ _
    · exact rcZD
  obtain ⟨W0, hW0⟩ : ∃ W, W = ((w.alloc (.cells #[.int .u64 (t : Int), .int .i64 k, .int .u64 (cl : Int), .slice A n c] 65)).alloc (.cells (dgA P) 67)).alloc (.cells (dgA Q) 67) := ⟨_, rfl⟩
  have b0 : Below w.heap.size w W0 := by rw [hW0]; exact (((below_self w).alloc (Nat.le_refl _) _).alloc (by simp) _).alloc (by simp; omega) _
  have z0 : W0.heap.size = w.heap.size + 3 := by rw [hW0]; simp
  have qe : Hid (W0.heap[w.heap.size]? = some (.cells #[.int .u64 (t : Int), .int .i64 k, .int .u64 (cl : Int), .slice A n c] 65 (0, 0))) := by rw [hW0]; exact Lib.hid (rw_old _ (rw_old _ (rw_at _ rfl)))
  have qP : Hid (W0.heap[w.heap.size + 1]? = some (.cells (dgA P) 67 (0, 0))) := by rw [hW0]; exact Lib.hid (rw_old _ (rw_at _ (by simp)))
  have qQ : Hid (W0.heap[w.heap.size + 2]? = some (.cells (dgA Q) 67 (0, 0))) := by rw [hW0]; exact Lib.hid (rw_at _ (by simp))
  have H1 := Lib.hid (recMake_any P hP g s 0 t k cl A n c b W0 hg hs (by omega) ht hk hcl (hr.below b0))
  rw [← hr0, ← hR, ← hE] at H1
  have HRD := Lib.hid hRD
  have HP := Lib.hid hP
  have HQ := Lib.hid hQ
  have HW0 := Lib.hid hW0
  have ZZ0 := Lib.hid z0
  have d4 : decide ((400 : Int) < (n : Int)) = false := decide_eq_false (by omega)
  have e2 : E = 0 := by rw [hE]; unfold rcMkE; rw [hck, hc]; rfl
  subst e2
  have hR2 : R = rcMk P r0 := by rw [hR]; unfold rcMkR; rw [if_pos (by rw [hck]; exact hc)]
  have hRok : R.ok := by rw [hR2]; exact rcMk_ok _ _ hok0
  have hRc : R.chk = true := by rw [hR2]; show r0.chk = true; rw [hck]; exact hc
  have hRl : R.b.length ≤ 180 := (rcChk_len hRc).1
  have hRbd : rcBody R = rcBody r0 := by rw [hR2]; rfl
  obtain ⟨Y, hY⟩ : ∃ Y, Y = rcPutL R := ⟨_, rfl⟩
  have hYl : Y.length = 256 := by rw [hY]; unfold rcPutL; rw [if_pos hRc]; exact rcL_len R (by omega) hRD
  have hYt : Y.take 220 = rcBody r0 := by rw [hY, ← hRbd]; unfold rcPutL; rw [if_pos hRc]; exact rcL_take R (by omega)
  have hPE : rcPutE R = 0 := by unfold rcPutE; rw [if_pos hRc]
  have hF := rcFol_put P Q r0 og os hok0 (by rw [hck]; exact hc)
  rw [← hR2, ← hY] at hF
  have hFE : rcFolE Q og os Y = 0 := by rw [hF]; rw [if_neg (by rw [hg0, h1]; simp), if_neg (by rw [hs0, h2]; simp), if_neg (fun hh => hh (by rw [hr0]; exact h7))]
  obtain ⟨R9, hR9⟩ : ∃ r, r = rcFol Q og os Y := ⟨_, rfl⟩
  have hR9D : R9.D.length = 32 := by rw [hR9]; exact rcFol_D _ _ _ _
  have H2 := Lib.hid (fun A n c W (h : RdB W A n c R.b) => recPut_any R A n c W hRok h)
  rw [← hY, hPE] at H2
  have H3 := Lib.hid (fun A c W (h : RdB W A 256 c Y) => recFollow_any Q hQ og os A 256 c Y W h)
  rw [hFE, ← hR9] at H3
  have kq := fun W => rdig_eq P Q hP hQ W
  rw [decide_eq_false h3] at kq
  clear h3
  try have HLK : Hid (shLink P (rcBody r0) = shLink Q (rcBody r0)) := Lib.hid (by rw [hr0]; exact h7)
  try clear h7
  subst h1
  subst h2
  have HYL := Lib.hid hYl
  have HYT := Lib.hid hYt
  have HR9 := Lib.hid hR9D
  clear hr0 hok0 hck hR hE hRD hW0 hP hQ z0 hg0 hs0 hR2 hRok hRc hRl hRbd hY hYl hYt hPE hF hFE hR9 hR9D
  go_enter Try.func6, Try.ntmps6
  go_wp2_with (rw [← HW0.out]; refine dig_load rfl _ rfl (w.heap.size + 1) rfl P 67 qP.out HP.out ?_; have e0 := (cell_of_row W0 _ 0 _ _ _ qe.out).trans (show (#[.int .u64 (t : Int), .int .i64 k, .int .u64 (cl : Int), .slice A n c] : Array Value)[0]? = some (.int .u64 (t : Int)) from rfl); have e1 := (cell_of_row W0 _ 1 _ _ _ qe.out).trans (show (#[.int .u64 (t : Int), .int .i64 k, .int .u64 (cl : Int), .slice A n c] : Array Value)[1]? = some (.int .i64 k) from rfl); have e2 := (cell_of_row W0 _ 2 _ _ _ qe.out).trans (show (#[.int .u64 (t : Int), .int .i64 k, .int .u64 (cl : Int), .slice A n c] : Array Value)[2]? = some (.int .u64 (cl : Int)) from rfl); have e3 := (cell_of_row W0 _ 3 _ _ _ qe.out).trans (show (#[.int .u64 (t : Int), .int .i64 k, .int .u64 (cl : Int), .slice A n c] : Array Value)[3]? = some (.slice A n c) from rfl))
  refine H1.out.mono ?_
  rintro e w2 ⟨A2, n2, c2, rfl, r2, _, hb2⟩
  have qe2 := Lib.hid (rw_up qe.out hb2)
  have qP2 := Lib.hid (rw_up qP.out hb2)
  have qQ2 := Lib.hid (rw_up qQ.out hb2)
  clear e0 e1 e2 e3
  go_wp2_with (first | (refine rc_fresh rfl _ _ rfl rfl rfl w2 rfl rfl HRD.out ?_; intro X2 q2 x2; have y3 := (cell_of_row X2 w.heap.size 3 _ _ _ (rw_up qe2.out x2)).trans (show (#[.int .u64 (t : Int), .int .i64 k, .int .u64 (cl : Int), .slice A n c] : Array Value)[3]? = some (.slice A n c) from rfl)) | (refine rc_load rfl _ rfl rfl q2.out HRD.out ?_))
  have B2 := below_then (below_then b0 hb2) x2
  have qP2 := Lib.hid (rw_up qP2.out x2)
  have qQ2 := Lib.hid (rw_up qQ2.out x2)
  refine (H2.out _ _ _ X2 (r2.below x2)).mono ?_
  rintro e w3 ⟨A3, n3, c3, rfl, ho3, hb3⟩
  have hn3 : n3 = 256 := by rw [← ho3.len, HYL.out]
  subst hn3
  have B3 := below_then B2 hb3
  have r3 := ho3.rd
  have qP2 := Lib.hid (rw_up qP2.out hb3)
  have qQ2 := Lib.hid (rw_up qQ2.out hb3)
  clear ho3 y3
  go_wp2_with (refine dig_load rfl _ rfl (w.heap.size + 2) rfl Q 67 qQ2.out HQ.out ?_)
  refine (H3.out _ _ w3 r3).mono ?_
  rintro e w4 ⟨A4, n4, c4, rfl, r4, _, hb4⟩
  have B4 := below_then B3 hb4
  have r3 := r3.below hb4
  have qP4 := Lib.hid (rw_up qP2.out hb4)
  have qQ4 := Lib.hid (rw_up qQ2.out hb4)
  go_wp2_with (first | (refine rc_fresh rfl _ _ rfl rfl rfl w4 rfl rfl HR9.out ?_; intro X4 q4 x4; have qP5 := Lib.hid (rw_up qP4.out x4); have qQ5 := Lib.hid (rw_up qQ4.out x4)) | (refine dig_load rfl _ rfl (w.heap.size + 1) rfl P 67 qP5.out HP.out ?_) | (refine dig_load rfl _ rfl (w.heap.size + 2) rfl Q 67 qQ5.out HQ.out ?_) | (refine wpList_unguard (by rfl) (dig_load rfl _ rfl (w.heap.size + 1) rfl P 67 qP5.out HP.out ?_)) | (refine wpList_unguard (by rfl) (dig_load rfl _ rfl (w.heap.size + 2) rfl Q 67 qQ5.out HQ.out ?_)))
  have B5 := below_then B4 x4
  have r5 := r3.below x4
  have rP := rdAt qP5.out P 32 (by unfold dgA; simp) HP.out (by simp [maxLen])
  have rQ := rdAt qQ5.out Q 32 (by unfold dgA; simp) HQ.out (by simp [maxLen])
  have rT := r5.take 220 (by omega)
  rw [HYT.out] at rT
  have hc3 := r5.2.2.1
  have ci : (220 : Int) ≤ (c3 : Int) := by omega
  have hTl := rT.2.1
  have HTL := Lib.hid hTl
  clear hTl
  have HBL : Hid ((rcBody r0).length = 220) := Lib.hid (by rw [← HYT.out, List.length_take, HYL.out]; rfl)
  obtain ⟨D, hD⟩ : ∃ D, D = shLink P (rcBody r0) := ⟨_, rfl⟩
  have hDl : D.length = 32 := by rw [hD]; exact shLink_len _ _
  have kd := fun W => rdig_eq D D hDl hDl W
  rw [decide_eq_true rfl] at kd
  have HOP := Lib.hid (fun A c W (h : RdB W A 252 c ([] ++ P ++ rcBody r0)) => refShaOf_any A 252 c _ W h (by decide))
  have HOQ := Lib.hid (fun A c W (h : RdB W A 252 c ([] ++ Q ++ rcBody r0)) => refShaOf_any A 252 c _ W h (by decide))
  rw [show shOf ([] ++ P ++ rcBody r0) = D from hD.symm] at HOP
  rw [show shOf ([] ++ Q ++ rcBody r0) = D from (HLK.out.symm.trans hD.symm)] at HOQ
  clear hD hDl HLK
  refine wp_region_seg (S := fun w' => Below X4.heap.size X4 w') 8 #[false, true, false, true, true, false, false, true, false, true, true, false, false, false] [(1, true), (3, true), (4, true), (7, true), (9, true), (10, true)] (by kernel_rfl) (by kernel_rfl) (fun _ _ d _ _ h => by first | (cases d <;> exact h) | cases h.1) ((Below.refl X4.heap.size X4).drew) ?_
  have HB := (Below.refl X4.heap.size X4).drew
  iterate 6 (refine seg_take (v := ?_) rfl (Or.inl ⟨by rfl, ?_⟩) ?_; rotate_left; (focus (intro w' hw'; go_simp <;> with_reducible rfl)); try simp only [Act.put, List.setIfInBounds_toArray, List.set_cons_zero, List.set_cons_succ])
  refine seg_done (fun _ => ?_)
  refine wpAnyH_two (i := 0) (j := 6) (f := 7) (by kernel_rfl) ?_ ?_
  · skip
    refine op_run rfl (fun K hK => ?_)
    rw [if_pos (by rfl)]
    refine op_lit #[] 5 0 rfl (fun w => by go_simp) ?_
    intro gx wx ex hxrow hxb hxs
    have hxl : X4.heap.size ≤ gx := by rw [← ex]; exact HB.size
    have ox := own_zero hxrow hxl
    try have dxy := apart_new oy ex
    try have oy := oy.up hxb
    have HB := below_then HB hxb
    refine hK.out _ _ (HB) ?_
    clear hK
    try simp only [Act.put, List.setIfInBounds_toArray, List.set_cons_zero, List.set_cons_succ]
    refine wpAnyH_seg (by kernel_rfl) (fun _ _ d _ _ h => by first | (cases d <;> exact h) | cases h.1) 7 #[true, true, false, true, true, false, false, true, false, true, true, false, false, false] [] _ _ _ (by kernel_rfl) (HB) ?_
    refine seg_done (fun _ => ?_)
    refine wpAnyH_two (i := 2) (j := 6) (f := 6) (by kernel_rfl) ?_ ?_
    · skip
      refine op_run rfl (fun K hK => ?_)
      rw [if_pos (by rfl)]
      refine op_appR _ _ rfl X4.heap.size _ _ rfl ox _ 32 32 P rfl (rP.below HB) (by omega) (by simp) HB.size ?_
      intro vx wx2 ox2 gxg fxg
      have HBx := ox.grownB HB gxg
      try have oy2 := oy.oth dxy gxg
      try have dxy := apart_step dxy oy fxg
      try have oy := oy2
      have ox := ox2
      have HB := HBx
      clear ox2 HBx gxg fxg
      refine hK.out _ _ (HB) ?_
      clear hK
      try simp only [Act.put, List.setIfInBounds_toArray, List.set_cons_zero, List.set_cons_succ]
      refine wpAnyH_seg (by kernel_rfl) (fun _ _ d _ _ h => by first | (cases d <;> exact h) | cases h.1) 6 #[true, true, true, true, true, false, false, true, false, true, true, false, false, false] [] _ _ _ (by kernel_rfl) (HB) ?_
      refine seg_done (fun _ => ?_)
      refine wpAnyH_two (i := 5) (j := 6) (f := 5) (by kernel_rfl) ?_ ?_
      · skip
        refine op_run rfl (fun K hK => ?_)
        rw [if_pos (by rfl)]
        refine op_appR _ _ rfl X4.heap.size _ _ rfl ox _ 220 c3 _ rfl (rT.below HB) (by omega) (by simp [HP.out]) HB.size ?_
        intro vx2 wx3 ox2 gxg fxg
        have HBx := ox.grownB HB gxg
        try have oy2 := oy.oth dxy gxg
        try have dxy := apart_step dxy oy fxg
        try have oy := oy2
        have ox := ox2
        have HB := HBx
        clear ox2 HBx gxg fxg
        refine hK.out _ _ (HB) ?_
        clear hK
        try simp only [Act.put, List.setIfInBounds_toArray, List.set_cons_zero, List.set_cons_succ]
        refine wpAnyH_seg (by kernel_rfl) (fun _ _ d _ _ h => by first | (cases d <;> exact h) | cases h.1) 0 #[true, true, true, true, true, true, true, true, true, true, true, true, true, true] [(6, false), (8, false), (11, false), (12, true), (13, true)] _ _ _ (by kernel_rfl) (HB) ?_
        refine seg_run rfl (fun K hK => ?_)
        rw [if_pos (by rfl)]
        refine op_lit #[] 5 0 rfl (fun w => by go_simp) ?_
        intro gy wy ey hyrow hyb hys
        have hyl : X4.heap.size ≤ gy := by rw [← ey]; exact HB.size
        have oy := own_zero hyrow hyl
        try have dxy := (apart_new ox ey).sym
        try have ox := ox.up hyb
        have HB := below_then HB hyb
        refine hK.out _ _ (HB) ?_
        clear hK
        try simp only [Act.put, List.setIfInBounds_toArray, List.set_cons_zero, List.set_cons_succ]
        refine seg_run rfl (fun K hK => ?_)
        rw [if_pos (by rfl)]
        refine op_appR _ _ rfl X4.heap.size _ _ rfl oy _ 32 32 Q rfl (rQ.below HB) (by omega) (by simp) HB.size ?_
        intro vy wy2 oy2 gyg fyg
        have HBy := oy.grownB HB gyg
        have ox2 := ox.oth dxy.sym gyg
        have dxy := (apart_step dxy.sym ox fyg).sym
        have ox := ox2
        have oy := oy2
        have HB := HBy
        clear ox2 oy2 HBy gyg fyg
        refine hK.out _ _ (HB) ?_
        clear hK
        try simp only [Act.put, List.setIfInBounds_toArray, List.set_cons_zero, List.set_cons_succ]
        refine seg_run rfl (fun K hK => ?_)
        rw [if_pos (by rfl)]
        refine op_appR _ _ rfl X4.heap.size _ _ rfl oy _ 220 c3 _ rfl (rT.below HB) (by omega) (by simp [HQ.out]) HB.size ?_
        intro vy2 wy3 oy2 gyg fyg
        have HBy := oy.grownB HB gyg
        have ox2 := ox.oth dxy.sym gyg
        have ox := ox2
        have oy := oy2
        have HB := HBy
        clear ox2 oy2 HBy gyg fyg
        refine hK.out _ _ (HB) ?_
        clear hK
        try simp only [Act.put, List.setIfInBounds_toArray, List.set_cons_zero, List.set_cons_succ]
        iterate 2 (refine seg_take (v := ?_) rfl (Or.inl ⟨by rfl, ?_⟩) ?_; rotate_left; (focus (intro w' hw'; go_simp <;> with_reducible rfl)); try simp only [Act.put, List.setIfInBounds_toArray, List.set_cons_zero, List.set_cons_succ])
        refine seg_done (fun _ => ?_)
        refine wpAnyH_done (by kernel_rfl) ?_ _
        obtain ⟨Ax, cx, rfl, rx⟩ := ox.form252 (by simp [HP.out, HBL.out])
        obtain ⟨Ay, cy, rfl, ry⟩ := oy.form252 (by simp [HQ.out, HBL.out])
        clear ox oy
        go_wp2_with fail
        refine (HOP.out _ _ _ rx).mono ?_
        rintro e w6 ⟨rfl, hb6⟩
        have HB6 := below_then (below_then B5 HB) hb6
        have ry6 := ry.below hb6
        go_wp2_with fail
        refine (HOQ.out _ _ _ ry6).mono ?_
        rintro e w7 ⟨rfl, hb7⟩
        have HB7 := below_then HB6 hb7
        go_wp2_with (first | (simp only [kd]; skip))
        refine (heads12 _).mono ?_
        rintro e w9 ⟨rfl, hb9⟩
        go_wp2
        go_ret
        exact ⟨rfl, below_then HB7 hb9⟩
      · skip
        refine op_run rfl (fun K hK => ?_)
        rw [if_pos (by rfl)]
        refine op_lit #[] 5 0 rfl (fun w => by go_simp) ?_
        intro gy wy ey hyrow hyb hys
        have hyl : X4.heap.size ≤ gy := by rw [← ey]; exact HB.size
        have oy := own_zero hyrow hyl
        try have dxy := (apart_new ox ey).sym
        try have ox := ox.up hyb
        have HB := below_then HB hyb
        refine hK.out _ _ (HB) ?_
        clear hK
        try simp only [Act.put, List.setIfInBounds_toArray, List.set_cons_zero, List.set_cons_succ]
        refine wpAnyH_seg (by kernel_rfl) (fun _ _ d _ _ h => by first | (cases d <;> exact h) | cases h.1) 0 #[true, true, true, true, true, true, true, true, true, true, true, true, true, true] [(5, false), (8, false), (11, false), (12, true), (13, true)] _ _ _ (by kernel_rfl) (HB) ?_
        refine seg_run rfl (fun K hK => ?_)
        rw [if_pos (by rfl)]
        refine op_appR _ _ rfl X4.heap.size _ _ rfl ox _ 220 c3 _ rfl (rT.below HB) (by omega) (by simp [HP.out]) HB.size ?_
        intro vx2 wx3 ox2 gxg fxg
        have HBx := ox.grownB HB gxg
        try have oy2 := oy.oth dxy gxg
        try have dxy := apart_step dxy oy fxg
        try have oy := oy2
        have ox := ox2
        have HB := HBx
        clear ox2 HBx gxg fxg
        refine hK.out _ _ (HB) ?_
        clear hK
        try simp only [Act.put, List.setIfInBounds_toArray, List.set_cons_zero, List.set_cons_succ]
        refine seg_run rfl (fun K hK => ?_)
        rw [if_pos (by rfl)]
        refine op_appR _ _ rfl X4.heap.size _ _ rfl oy _ 32 32 Q rfl (rQ.below HB) (by omega) (by simp) HB.size ?_
        intro vy wy2 oy2 gyg fyg
        have HBy := oy.grownB HB gyg
        have ox2 := ox.oth dxy.sym gyg
        have dxy := (apart_step dxy.sym ox fyg).sym
        have ox := ox2
        have oy := oy2
        have HB := HBy
        clear ox2 oy2 HBy gyg fyg
        refine hK.out _ _ (HB) ?_
        clear hK
        try simp only [Act.put, List.setIfInBounds_toArray, List.set_cons_zero, List.set_cons_succ]
        refine seg_run rfl (fun K hK => ?_)
        rw [if_pos (by rfl)]
        refine op_appR _ _ rfl X4.heap.size _ _ rfl oy _ 220 c3 _ rfl (rT.below HB) (by omega) (by simp [HQ.out]) HB.size ?_
        intro vy2 wy3 oy2 gyg fyg
        have HBy := oy.grownB HB gyg
        have ox2 := ox.oth dxy.sym gyg
        have ox := ox2
        have oy := oy2
        have HB := HBy
        clear ox2 oy2 HBy gyg fyg
        refine hK.out _ _ (HB) ?_
        clear hK
        try simp only [Act.put, List.setIfInBounds_toArray, List.set_cons_zero, List.set_cons_succ]
        iterate 2 (refine seg_take (v := ?_) rfl (Or.inl ⟨by rfl, ?_⟩) ?_; rotate_left; (focus (intro w' hw'; go_simp <;> with_reducible rfl)); try simp only [Act.put, List.setIfInBounds_toArray, List.set_cons_zero, List.set_cons_succ])
        refine seg_done (fun _ => ?_)
        refine wpAnyH_done (by kernel_rfl) ?_ _
        obtain ⟨Ax, cx, rfl, rx⟩ := ox.form252 (by simp [HP.out, HBL.out])
        obtain ⟨Ay, cy, rfl, ry⟩ := oy.form252 (by simp [HQ.out, HBL.out])
        clear ox oy
        go_wp2_with fail
        refine (HOP.out _ _ _ rx).mono ?_
        rintro e w6 ⟨rfl, hb6⟩
        have HB6 := below_then (below_then B5 HB) hb6
        have ry6 := ry.below hb6
        go_wp2_with fail
        refine (HOQ.out _ _ _ ry6).mono ?_
        rintro e w7 ⟨rfl, hb7⟩
        have HB7 := below_then HB6 hb7
        go_wp2_with (first | (simp only [kd]; skip))
        refine (heads12 _).mono ?_
        rintro e w9 ⟨rfl, hb9⟩
        go_wp2
        go_ret
        exact ⟨rfl, below_then HB7 hb9⟩
    · skip
      refine op_run rfl (fun K hK => ?_)
      rw [if_pos (by rfl)]
      refine op_lit #[] 5 0 rfl (fun w => by go_simp) ?_
      intro gy wy ey hyrow hyb hys
      have hyl : X4.heap.size ≤ gy := by rw [← ey]; exact HB.size
      have oy := own_zero hyrow hyl
      try have dxy := (apart_new ox ey).sym
      try have ox := ox.up hyb
      have HB := below_then HB hyb
      refine hK.out _ _ (HB) ?_
      clear hK
      try simp only [Act.put, List.setIfInBounds_toArray, List.set_cons_zero, List.set_cons_succ]
      refine wpAnyH_seg (by kernel_rfl) (fun _ _ d _ _ h => by first | (cases d <;> exact h) | cases h.1) 0 #[true, true, true, true, true, true, true, true, true, true, true, true, true, true] [(2, false), (5, false), (8, false), (11, false), (12, true), (13, true)] _ _ _ (by kernel_rfl) (HB) ?_
      refine seg_run rfl (fun K hK => ?_)
      rw [if_pos (by rfl)]
      refine op_appR _ _ rfl X4.heap.size _ _ rfl ox _ 32 32 P rfl (rP.below HB) (by omega) (by simp) HB.size ?_
      intro vx wx2 ox2 gxg fxg
      have HBx := ox.grownB HB gxg
      try have oy2 := oy.oth dxy gxg
      try have dxy := apart_step dxy oy fxg
      try have oy := oy2
      have ox := ox2
      have HB := HBx
      clear ox2 HBx gxg fxg
      refine hK.out _ _ (HB) ?_
      clear hK
      try simp only [Act.put, List.setIfInBounds_toArray, List.set_cons_zero, List.set_cons_succ]
      refine seg_run rfl (fun K hK => ?_)
      rw [if_pos (by rfl)]
      refine op_appR _ _ rfl X4.heap.size _ _ rfl ox _ 220 c3 _ rfl (rT.below HB) (by omega) (by simp [HP.out]) HB.size ?_
      intro vx2 wx3 ox2 gxg fxg
      have HBx := ox.grownB HB gxg
      try have oy2 := oy.oth dxy gxg
      try have dxy := apart_step dxy oy fxg
      try have oy := oy2
      have ox := ox2
      have HB := HBx
      clear ox2 HBx gxg fxg
      refine hK.out _ _ (HB) ?_
      clear hK
      try simp only [Act.put, List.setIfInBounds_toArray, List.set_cons_zero, List.set_cons_succ]
      refine seg_run rfl (fun K hK => ?_)
      rw [if_pos (by rfl)]
      refine op_appR _ _ rfl X4.heap.size _ _ rfl oy _ 32 32 Q rfl (rQ.below HB) (by omega) (by simp) HB.size ?_
      intro vy wy2 oy2 gyg fyg
      have HBy := oy.grownB HB gyg
      have ox2 := ox.oth dxy.sym gyg
      have dxy := (apart_step dxy.sym ox fyg).sym
      have ox := ox2
      have oy := oy2
      have HB := HBy
      clear ox2 oy2 HBy gyg fyg
      refine hK.out _ _ (HB) ?_
      clear hK
      try simp only [Act.put, List.setIfInBounds_toArray, List.set_cons_zero, List.set_cons_succ]
      refine seg_run rfl (fun K hK => ?_)
      rw [if_pos (by rfl)]
      refine op_appR _ _ rfl X4.heap.size _ _ rfl oy _ 220 c3 _ rfl (rT.below HB) (by omega) (by simp [HQ.out]) HB.size ?_
      intro vy2 wy3 oy2 gyg fyg
      have HBy := oy.grownB HB gyg
      have ox2 := ox.oth dxy.sym gyg
      have ox := ox2
      have oy := oy2
      have HB := HBy
      clear ox2 oy2 HBy gyg fyg
      refine hK.out _ _ (HB) ?_
      clear hK
      try simp only [Act.put, List.setIfInBounds_toArray, List.set_cons_zero, List.set_cons_succ]
      iterate 2 (refine seg_take (v := ?_) rfl (Or.inl ⟨by rfl, ?_⟩) ?_; rotate_left; (focus (intro w' hw'; go_simp <;> with_reducible rfl)); try simp only [Act.put, List.setIfInBounds_toArray, List.set_cons_zero, List.set_cons_succ])
      refine seg_done (fun _ => ?_)
      refine wpAnyH_done (by kernel_rfl) ?_ _
      obtain ⟨Ax, cx, rfl, rx⟩ := ox.form252 (by simp [HP.out, HBL.out])
      obtain ⟨Ay, cy, rfl, ry⟩ := oy.form252 (by simp [HQ.out, HBL.out])
      clear ox oy
      go_wp2_with fail
      refine (HOP.out _ _ _ rx).mono ?_
      rintro e w6 ⟨rfl, hb6⟩
      have HB6 := below_then (below_then B5 HB) hb6
      have ry6 := ry.below hb6
      go_wp2_with fail
      refine (HOQ.out _ _ _ ry6).mono ?_
      rintro e w7 ⟨rfl, hb7⟩
      have HB7 := below_then HB6 hb7
      go_wp2_with (first | (simp only [kd]; skip))
      refine (heads12 _).mono ?_
      rintro e w9 ⟨rfl, hb9⟩
      go_wp2
      go_ret
      exact ⟨rfl, below_then HB7 hb9⟩
  · skip
    refine op_run rfl (fun K hK => ?_)
    rw [if_pos (by rfl)]
    refine op_lit #[] 5 0 rfl (fun w => by go_simp) ?_
    intro gy wy ey hyrow hyb hys
    have hyl : X4.heap.size ≤ gy := by rw [← ey]; exact HB.size
    have oy := own_zero hyrow hyl
    try have dxy := (apart_new ox ey).sym
    try have ox := ox.up hyb
    have HB := below_then HB hyb
    refine hK.out _ _ (HB) ?_
    clear hK
    try simp only [Act.put, List.setIfInBounds_toArray, List.set_cons_zero, List.set_cons_succ]
    refine wpAnyH_seg (by kernel_rfl) (fun _ _ d _ _ h => by first | (cases d <;> exact h) | cases h.1) 0 #[true, true, true, true, true, true, true, true, true, true, true, true, true, true] [(0, false), (2, false), (5, false), (8, false), (11, false), (12, true), (13, true)] _ _ _ (by kernel_rfl) (HB) ?_
    refine seg_run rfl (fun K hK => ?_)
    rw [if_pos (by rfl)]
    refine op_lit #[] 5 0 rfl (fun w => by go_simp) ?_
    intro gx wx ex hxrow hxb hxs
    have hxl : X4.heap.size ≤ gx := by rw [← ex]; exact HB.size
    have ox := own_zero hxrow hxl
    try have dxy := apart_new oy ex
    try have oy := oy.up hxb
    have HB := below_then HB hxb
    refine hK.out _ _ (HB) ?_
    clear hK
    try simp only [Act.put, List.setIfInBounds_toArray, List.set_cons_zero, List.set_cons_succ]
    refine seg_run rfl (fun K hK => ?_)
    rw [if_pos (by rfl)]
    refine op_appR _ _ rfl X4.heap.size _ _ rfl ox _ 32 32 P rfl (rP.below HB) (by omega) (by simp) HB.size ?_
    intro vx wx2 ox2 gxg fxg
    have HBx := ox.grownB HB gxg
    try have oy2 := oy.oth dxy gxg
    try have dxy := apart_step dxy oy fxg
    try have oy := oy2
    have ox := ox2
    have HB := HBx
    clear ox2 HBx gxg fxg
    refine hK.out _ _ (HB) ?_
    clear hK
    try simp only [Act.put, List.setIfInBounds_toArray, List.set_cons_zero, List.set_cons_succ]
    refine seg_run rfl (fun K hK => ?_)
    rw [if_pos (by rfl)]
    refine op_appR _ _ rfl X4.heap.size _ _ rfl ox _ 220 c3 _ rfl (rT.below HB) (by omega) (by simp [HP.out]) HB.size ?_
    intro vx2 wx3 ox2 gxg fxg
    have HBx := ox.grownB HB gxg
    try have oy2 := oy.oth dxy gxg
    try have dxy := apart_step dxy oy fxg
    try have oy := oy2
    have ox := ox2
    have HB := HBx
    clear ox2 HBx gxg fxg
    refine hK.out _ _ (HB) ?_
    clear hK
    try simp only [Act.put, List.setIfInBounds_toArray, List.set_cons_zero, List.set_cons_succ]
    refine seg_run rfl (fun K hK => ?_)
    rw [if_pos (by rfl)]
    refine op_appR _ _ rfl X4.heap.size _ _ rfl oy _ 32 32 Q rfl (rQ.below HB) (by omega) (by simp) HB.size ?_
    intro vy wy2 oy2 gyg fyg
    have HBy := oy.grownB HB gyg
    have ox2 := ox.oth dxy.sym gyg
    have dxy := (apart_step dxy.sym ox fyg).sym
    have ox := ox2
    have oy := oy2
    have HB := HBy
    clear ox2 oy2 HBy gyg fyg
    refine hK.out _ _ (HB) ?_
    clear hK
    try simp only [Act.put, List.setIfInBounds_toArray, List.set_cons_zero, List.set_cons_succ]
    refine seg_run rfl (fun K hK => ?_)
    rw [if_pos (by rfl)]
    refine op_appR _ _ rfl X4.heap.size _ _ rfl oy _ 220 c3 _ rfl (rT.below HB) (by omega) (by simp [HQ.out]) HB.size ?_
    intro vy2 wy3 oy2 gyg fyg
    have HBy := oy.grownB HB gyg
    have ox2 := ox.oth dxy.sym gyg
    have ox := ox2
    have oy := oy2
    have HB := HBy
    clear ox2 oy2 HBy gyg fyg
    refine hK.out _ _ (HB) ?_
    clear hK
    try simp only [Act.put, List.setIfInBounds_toArray, List.set_cons_zero, List.set_cons_succ]
    iterate 2 (refine seg_take (v := ?_) rfl (Or.inl ⟨by rfl, ?_⟩) ?_; rotate_left; (focus (intro w' hw'; go_simp <;> with_reducible rfl)); try simp only [Act.put, List.setIfInBounds_toArray, List.set_cons_zero, List.set_cons_succ])
    refine seg_done (fun _ => ?_)
    refine wpAnyH_done (by kernel_rfl) ?_ _
    obtain ⟨Ax, cx, rfl, rx⟩ := ox.form252 (by simp [HP.out, HBL.out])
    obtain ⟨Ay, cy, rfl, ry⟩ := oy.form252 (by simp [HQ.out, HBL.out])
    clear ox oy
    go_wp2_with fail
    refine (HOP.out _ _ _ rx).mono ?_
    rintro e w6 ⟨rfl, hb6⟩
    have HB6 := below_then (below_then B5 HB) hb6
    have ry6 := ry.below hb6
    go_wp2_with fail
    refine (HOQ.out _ _ _ ry6).mono ?_
    rintro e w7 ⟨rfl, hb7⟩
    have HB7 := below_then HB6 hb7
    go_wp2_with (first | (simp only [kd]; skip))
    refine (heads12 _).mono ?_
    rintro e w9 ⟨rfl, hb9⟩
    go_wp2
    go_ret
    exact ⟨rfl, below_then HB7 hb9⟩
theorem recStrict_law (t : Nat) (k : Int) (cl : Nat) (A : Option Addr) (n c : Nat) (b : List UInt8) (P Q : List UInt8) (g s og os : Nat) (w : World) (ht : t < 18446744073709551616) (hk : -9223372036854775808 ≤ k ∧ k ≤ 9223372036854775807) (hcl : cl < 18446744073709551616) (hr : RdB w A n c b) (hP : P.length = 32) (hQ : Q.length = 32) (hg : g < 4294967296) (hs : s < 4294967296) (hog : og < 4294967296) (hos : os < 4294967296) :
    Calls Try.prog 6 #[.agg #[.int .u64 (t : Int), .int .i64 k, .int .u64 (cl : Int), .slice A n c], .agg (dgA P), .agg (dgA Q), .int .u32 (g : Int), .int .u32 (s : Int), .int .u32 (og : Int), .int .u32 (os : Int)] w (RetV w (.bool true)) := by
  by_cases h4 : n ≤ 400
  · cases hc : rcChk k cl b.length with
    | false => exact recStrict_no t k cl A n c b P Q g s og os w ht hk hcl hr hP hQ hg hs hog hos h4 hc
    | true =>
      by_cases h1 : g = og
      · by_cases h2 : s = os
        · by_cases h3 : P = Q
          · exact recStrict_same t k cl A n c b P Q g s og os w ht hk hcl hr hP hQ hg hs hog hos h4 hc h1.symm h2.symm h3
          · by_cases h7 : shLink P (rcBody ⟨g, s, 0, t, k, cl, b, List.replicate 32 0⟩) = shLink Q (rcBody ⟨g, s, 0, t, k, cl, b, List.replicate 32 0⟩)
            · exact recStrict_coll t k cl A n c b P Q g s og os w ht hk hcl hr hP hQ hg hs hog hos h4 hc h1.symm h2.symm h3 h7
            · exact recStrict_chain t k cl A n c b P Q g s og os w ht hk hcl hr hP hQ hg hs hog hos h4 hc h1.symm h2.symm h3 h7
        · exact recStrict_seq t k cl A n c b P Q g s og os w ht hk hcl hr hP hQ hg hs hog hos h4 hc h1.symm h2
      · exact recStrict_gen t k cl A n c b P Q g s og os w ht hk hcl hr hP hQ hg hs hog hos h4 hc h1
  · exact recStrict_long t k cl A n c b P Q g s og os w ht hk hcl hr hP hQ hg hs hog hos (by omega)
end Go.Proofs.Ytnfepikgbdeomaa
