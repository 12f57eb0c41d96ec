/-
 Proved here, for the statement JournalForged:
 Layer 14: the law JournalForged: the document's Base; what was summed, in memory
 Layer 12 (the document): Events and Same of any two.
-/
import Derived.Test.YtpahicfnhhhifaaGreatGf25
set_option linter.unusedVariables false
set_option linter.unusedSimpArgs false
namespace Go.Proofs.YtpahicfnhhhifaaGreat
set_option maxRecDepth 20000
open Go.RowKit
set_option maxHeartbeats 4000000
theorem fresults_tmp_cell {P : Program} {fn : Func} {p q : Tmp} {ty : TypeId} (h : fn.results = #[.tmp q, .cell p ty]) (tmps : Array Value) (w : World) (g : Nat) (t : TypeId) (cs : Array Value) (fr : Nat × Nat) (d : TypeDesc)
  (hp : tmps.getD p undef = .pointer (some ⟨g, 0, none⟩)) (hg : w.heap[g]? = some (.cells cs t fr))
  (hu : P.underlying ty = some d) (hd : (match d with | .struct _ | .array _ _ => true | _ => false) = true) (hi : (P.info? ty).map (·.size) = some cs.size) :
  (results fn tmps).run P w = .ok (.tuple #[tmps.getD q undef, .agg cs]) w := by
 have hp' : tmps[p]?.getD undef = .pointer (some ⟨g, 0, none⟩) := by simpa using hp
 simp [results, h, hp', asAddr, run_loadVar_row w g t ty cs fr d hg hu hd hi]
theorem refBase14_any (A : Option Addr) (n c : Nat) (xs : List UInt8) (w : World) (hr : RdB w A n c xs) (hn : n ≤ 999000) :
  Calls Tryz.prog 29 #[.slice A n c] w (RetDg w (jnBase xs)) := by
 obtain ⟨D0, hD0⟩ : ∃ D0 : Array Value, #[.int .u8 0, .int .u8 0, .int .u8 0, .int .u8 0, .int .u8 0, .int .u8 0, .int .u8 0, .int .u8 0, .int .u8 0, .int .u8 0, .int .u8 0, .int .u8 0, .int .u8 0, .int .u8 0, .int .u8 0, .int .u8 0, .int .u8 0, .int .u8 0, .int .u8 0, .int .u8 0, .int .u8 0, .int .u8 0, .int .u8 0, .int .u8 0, .int .u8 0, .int .u8 0, .int .u8 0, .int .u8 0, .int .u8 0, .int .u8 0, .int .u8 0, .int .u8 0] = D0 := ⟨#[.int .u8 0, .int .u8 0, .int .u8 0, .int .u8 0, .int .u8 0, .int .u8 0, .int .u8 0, .int .u8 0, .int .u8 0, .int .u8 0, .int .u8 0, .int .u8 0, .int .u8 0, .int .u8 0, .int .u8 0, .int .u8 0, .int .u8 0, .int .u8 0, .int .u8 0, .int .u8 0, .int .u8 0, .int .u8 0, .int .u8 0, .int .u8 0, .int .u8 0, .int .u8 0, .int .u8 0, .int .u8 0, .int .u8 0, .int .u8 0, .int .u8 0, .int .u8 0], rfl⟩
 have hD0s : D0.size = 32 := by rw [← hD0]; rfl
 obtain ⟨W1, hW1⟩ : ∃ W1, W1 = w.alloc (.cells D0 30) := ⟨_, rfl⟩
 have b1 : Below w.heap.size w W1 := by rw [hW1]; exact (below_self w).alloc (Nat.le_refl _) _
 have r1 : W1.heap[w.heap.size]? = some (.cells D0 30 (0, 0)) := by rw [hW1]; exact drw_at _ rfl
 have z1 : W1.heap.size = w.heap.size + 1 := by rw [hW1]; simp
 obtain ⟨W2, hW2⟩ : ∃ W2, W2 = W1.alloc (.cells #[] 5) := ⟨_, rfl⟩
 have b2 : Below W1.heap.size W1 W2 := by rw [hW2]; exact (below_self W1).alloc (Nat.le_refl _) _
 have o2 : OwnB W2 W1.heap.size (some ⟨w.heap.size + 1, 0, none⟩) 0 0 [] := by rw [← z1, hW2]; exact own_at0 (drw_at _ rfl) (Nat.le_refl _)
 have r2 := (hr.below b1).below b2
 have HD0 := Lib.hid hD0
 have HW1 := Lib.hid hW1
 have HW2 := Lib.hid hW2
 have R1 := Lib.hid r1
 have O2 := Lib.hid o2
 have Z1 := Lib.hid z1
 have hxl := hr.2.1
 clear hD0 hW1 hW2 r1 o2 z1
 go_enter Tryz.func29, Tryz.ntmps29
 go_wp2_with (at_builtin; first
  | (rw [HD0.out, ← HW1.out, ← HW2.out]; refine wp_appB rfl _ _ rfl b2 (Nat.le_refl _) b2.size (some ⟨w.heap.size + 1, 0, none⟩) 0 0 [] rfl O2.out A n c xs rfl r2 (by omega) n xs (by omega) (by simp) ?_; intro A3 c3 w3 ho3 hb3 hg3)
  | ((refine wp_appB rfl _ _ rfl (hb3.alloc hb3.size (.cells #[.int .u8 1] 5)) (Nat.le_refl _) (by simp; have := hb3.size; omega) A3 n c3 xs rfl (OwnB.below ho3 ((below_self w3).alloc (Nat.le_refl _) _)) (some ⟨w3.heap.size, 0, none⟩) 1 1 [1] rfl (rdK rfl #[.int .u8 1] [1] 1 rfl rfl (by simp [maxLen])) (by omega) (n + 1) (xs ++ [1]) rfl rfl ?_; intro A4 c4 w4 ho4 hb4 hg4)))
 refine (refShaOf_any A4 (n + 1) c4 (xs ++ [1]) w4 ho4.rd (by omega)).mono ?_
 rintro e w5 ⟨rfl, hb5⟩
 obtain ⟨DG, hDG⟩ : ∃ DG, jnBase xs = DG := ⟨jnBase xs, rfl⟩
 rw [show shOf (xs ++ [1]) = DG from hDG, hDG]
 have hDl : DG.length = 32 := by rw [← hDG]; exact shOf_len _
 have B5 := below_then hb4 hb5
 have R5 := Lib.hid ((B5.block (w.heap.size) (by have := Z1.out; omega)).trans R1.out)
 have B6 : Below w.heap.size w w5 := below_then b1 B5
 have HDG := Lib.hid hDG
 clear hDG
 go_wp2_with (refine dig_store rfl _ _ rfl (w.heap.size) rfl DG D0 rfl 30 R5.out hDl hD0s ?_)
 refine bodyPost_ret (results_cell_row Tryz.results29 _ _ (w.heap.size) 30 (dgA DG) (0, 0) _ rfl (setRow_heap _ _ _ (dgA DG) _ _ R5.out) Tryz.underlying30 rfl (infoD DG hDl)) rfl ?_
 exact ⟨by rw [HDG.out], below_setRow B6 (by omega) _⟩
def TxS (b : Nat) (A : Option Addr) (c k : Nat) (f : Nat → List UInt8) (wr : World) : Prop := ∃ vs, wr.ownsRow b 47 1 (.slice A k c) k vs ∧ ∀ j, j < k → ∃ B m d, vs[j]? = some (.slice B m d) ∧ OwnB wr b B m d (f j)
theorem TxS.below {b : Nat} {A : Option Addr} {c k : Nat} {f : Nat → List UInt8} {w w' : World} (h : TxS b A c k f w) (hb : Below w.heap.size w w') : TxS b A c k f w' := by
 obtain ⟨vs, h1, h2⟩ := h
 refine ⟨vs, down_keep h1 hb, fun j hj => ?_⟩
 obtain ⟨B, m, d, h3, h4⟩ := h2 j hj
 exact ⟨B, m, d, h3, OwnB.below h4 hb⟩
theorem TxS.rdss {b : Nat} {A : Option Addr} {c k : Nat} {w : World} {yss : List (List UInt8)} (h : TxS b A c k (fun j => yss.getD j []) w) (hk : yss.length = k) : ∃ vs, RdSS w A k c vs yss := by
 obtain ⟨vs, h1, h2⟩ := h
 have hl : vs.length = k := by have := h1.1; omega
 obtain ⟨A9, c9, hv9, e3, e4, _⟩ := own_form h1
 injection hv9 with hv8 _ hv9
 subst hv8 hv9
 refine ⟨vs, Rd.of_own h1, hl, e3, e4, parts_get (by rw [hl, hk]) (fun j hj => ?_)⟩
 obtain ⟨B, m, d, h3, h4⟩ := h2 j (by omega)
 exact ⟨B, m, d, h3, h4.rd⟩
theorem TxS.one {b : Nat} {g : Nat} {w : World} {f : Nat → List UInt8} {B : Option Addr} {m d : Nat} (hr : w.heap[g]? = some (.cells #[.slice B m d] 47 (0, 0))) (hb : b ≤ g) (ho : OwnB w b B m d (f 0)) : TxS b (some ⟨g, 0, none⟩) 1 1 f w :=
 ⟨[.slice B m d], ⟨rfl, .inr ⟨g, 1, _, rfl, hb, hr, Nat.le_refl _, by simp [maxLen], rfl, rfl⟩⟩, fun j hj => by
  obtain rfl : j = 0 := by omega
  exact ⟨B, m, d, rfl, ho⟩⟩
theorem TxS.setDg {b : Nat} {A : Option Addr} {c k : Nat} {f : Nat → List UInt8} {w : World} (h : TxS b A c k f w) {g : Nat} {cs : Array Value} (hg : w.heap[g]? = some (.cells cs 30 (0, 0))) (ds : Array Value) : TxS b A c k f (w.setRow g ds) := by
 obtain ⟨vs, h1, h2⟩ := h
 refine ⟨vs, down_keepT h1 (fun g' cur _ hr => setRow_other _ _ _ _ (dtyp_ne hr hg (by decide))), fun j hj => ?_⟩
 obtain ⟨B, m, d, h3, h4⟩ := h2 j hj
 exact ⟨B, m, d, h3, down_keepT h4 (fun g' cur _ hr => setRow_other _ _ _ _ (dtyp_ne hr hg (by decide)))⟩
def txF (st : List UInt8) (l : List Rc) (j : Nat) : List UInt8 := (txA st l).getD j []
theorem txF_next (st : List UInt8) (l : List Rc) (k : Nat) (hk : k < l.length) : txF st l (k + 1) = rcEnd (jnBase st) (l.take k) ++ rcBody (l.getD k rcZ) := by
 have h1 : l = l.take k ++ (l.getD k rcZ :: l.drop (k + 1)) := by
  conv => lhs; rw [← List.take_append_drop k l]
  rw [List.drop_eq_getElem_cons hk, List.getD_eq_getElem?_getD, List.getElem?_eq_getElem hk]; rfl
 have key : ∀ (a : List Rc) (r : Rc) (c : List Rc) (P : List UInt8), (txR P (a ++ (r :: c))).getD a.length [] = rcEnd P a ++ rcBody r := by
  intro a
  induction a with
  | nil => intro r c P; rfl
  | cons x a ih => intro r c P; exact ih r c x.D
 unfold txF txA
 rw [List.getD_cons_succ]
 have := key (l.take k) (l.getD k rcZ) (l.drop (k + 1)) (jnBase st)
 rw [← h1, List.length_take, Nat.min_eq_left (by omega)] at this
 exact this
theorem rcEnd_take (P : List UInt8) (l : List Rc) (k : Nat) (hk : k < l.length) : rcEnd P (l.take (k + 1)) = (l.getD k rcZ).D := by
 rw [List.take_add_one, List.getElem?_eq_getElem hk, Option.toList_some, rcEnd_snoc, List.getD_eq_getElem?_getD, List.getElem?_eq_getElem hk]; rfl
theorem rcEnd_takeL (P : List UInt8) (hP : P.length = 32) (l : List Rc) (hl : ∀ r ∈ l, r.D.length = 32) : ∀ k, k ≤ l.length → (rcEnd P (l.take k)).length = 32
 | 0, _ => by simpa [rcEnd] using hP
 | k + 1, hk => by
  rw [rcEnd_take P l k (by omega), List.getD_eq_getElem?_getD, List.getElem?_eq_getElem (by omega)]
  exact hl _ (List.getElem_mem _)
def RetTx (w : World) (yss : List (List UInt8)) (D : List UInt8) (e : Ending) (w' : World) : Prop := ∃ A c vs, e = .returned (.tuple #[.slice A yss.length c, .agg (dgA D)]) ∧ RdSS w' A yss.length c vs yss ∧ Below w.heap.size w w'
def TxI (w : World) (gd b n : Nat) (D0 : Array Value) (st : List UInt8) (rs : List Rc) (vo vi v9 v10 : Value) (wr : World) : Prop :=
 ∃ (k : Nat) (A : Option Addr) (c : Nat), k ≤ n ∧ vo = .slice A (k + 1) c ∧ vi = .int .i64 (k : Int) ∧ Hid (TxS b A c (k + 1) (txF st rs) wr) ∧ Hid (wr.heap[gd]? = some (.cells (dgA (rcEnd (jnBase st) (rs.take k))) 30 (0, 0))) ∧ Hid (wr.heap[w.heap.size]? = some (.cells D0 30 (0, 0))) ∧ Below w.heap.size w wr
theorem rowS_ne {w : World} {base : Nat} {A : Option Addr} {n c : Nat} {xs : List Value} (h : w.ownsRow base 47 1 (.slice A n c) n xs) {g : Nat} {cs : Array Value} {T : TypeId} {fr : Nat × Nat} (hg : w.heap[g]? = some (.cells cs T fr)) (hT : T ≠ 47) : ∀ a, A = some a → a.block ≠ g := by
 intro a ha
 rcases h.2 with ⟨h1, _⟩ | ⟨g', cap, cur, hv, hb, hh, _⟩
 ·injection h1 with h1
  rw [ha] at h1
  cases h1
 ·injection hv with hv
  rw [ha] at hv
  injection hv with hv
  rw [hv]
  exact dtyp_ne hh hg (Ne.symm hT)
theorem rd_takeF {w : World} {A : Option Addr} {us : List Value} (h : Rd w A us) (k : Nat) : Rd w A (us.take k) := by
 rcases h with rfl | ⟨b, o, hA, hb, hc⟩
 ·exact .inl (by simp)
 ·exact .inr ⟨b, o, hA, hb, fun i v hv => hc i v (by rw [List.getElem?_take] at hv; split at hv; exact hv; cases hv)⟩
theorem rdDg {w : World} {g : Nat} {P : List UInt8} {T : TypeId} (h : w.heap[g]? = some (.cells (dgA P) T (0, 0))) (hl : P.length = 32) : RdB w (some ⟨g, 0, none⟩) 32 32 P :=
 ⟨.inr ⟨g, 0, rfl, drw_lt h, fun i v hv => by rw [Nat.zero_add, cell_of_row w g i _ _ _ h]; simpa [dgA] using hv⟩, hl, Nat.le_refl _, by simp [maxLen]⟩
theorem rcV_dig (r : Rc) (A : Option Addr) (n c : Nat) (h : r.D.length = 32) (j : Nat) (hj : j < 32) : (rcV r A n c)[7 + j]? = (r.D.map vB)[j]? := by
 rw [rcV, List.getElem?_append_right (by simp)]
 simp
theorem texts_any (A : Option Addr) (n c : Nat) (st : List UInt8) (R : Option Addr) (m q : Nat) (rs : List Rc) (w : World) (hr : RdB w A n c st) (hR : RdRs w R m rs) (hn : n ≤ 20000) (hm : m ≤ 1000) (hck : ∀ r ∈ rs, r.chk = true) (hrd : ∀ r ∈ rs, r.D.length = 32) :
  Calls Tryz.prog 43 #[.slice A n c, .slice R m q] w (RetTx w (txA st rs) (rcEnd (jnBase st) rs)) := by
 obtain ⟨D0, hD0⟩ : ∃ D0 : Array Value, #[.int .u8 0, .int .u8 0, .int .u8 0, .int .u8 0, .int .u8 0, .int .u8 0, .int .u8 0, .int .u8 0, .int .u8 0, .int .u8 0, .int .u8 0, .int .u8 0, .int .u8 0, .int .u8 0, .int .u8 0, .int .u8 0, .int .u8 0, .int .u8 0, .int .u8 0, .int .u8 0, .int .u8 0, .int .u8 0, .int .u8 0, .int .u8 0, .int .u8 0, .int .u8 0, .int .u8 0, .int .u8 0, .int .u8 0, .int .u8 0, .int .u8 0, .int .u8 0] = D0 := ⟨#[.int .u8 0, .int .u8 0, .int .u8 0, .int .u8 0, .int .u8 0, .int .u8 0, .int .u8 0, .int .u8 0, .int .u8 0, .int .u8 0, .int .u8 0, .int .u8 0, .int .u8 0, .int .u8 0, .int .u8 0, .int .u8 0, .int .u8 0, .int .u8 0, .int .u8 0, .int .u8 0, .int .u8 0, .int .u8 0, .int .u8 0, .int .u8 0, .int .u8 0, .int .u8 0, .int .u8 0, .int .u8 0, .int .u8 0, .int .u8 0, .int .u8 0, .int .u8 0], rfl⟩
 have hD0s : D0.size = 32 := by rw [← hD0]; rfl
 obtain ⟨W1, hW1⟩ : ∃ W1, W1 = w.alloc (.cells D0 30) := ⟨_, rfl⟩
 have b1 : Below w.heap.size w W1 := by rw [hW1]; exact (below_self w).alloc (Nat.le_refl _) _
 have r1 : W1.heap[w.heap.size]? = some (.cells D0 30 (0, 0)) := by rw [hW1]; exact drw_at _ rfl
 have z1 : W1.heap.size = w.heap.size + 1 := by rw [hW1]; simp
 obtain ⟨W2, hW2⟩ : ∃ W2, W2 = W1.alloc (.cells #[] 5) := ⟨_, rfl⟩
 have b2 : Below W1.heap.size W1 W2 := by rw [hW2]; exact (below_self W1).alloc (Nat.le_refl _) _
 have o2 : OwnB W2 W1.heap.size (some ⟨w.heap.size + 1, 0, none⟩) 0 0 [] := by rw [← z1, hW2]; exact own_at0 (drw_at _ rfl) (Nat.le_refl _)
 have r2 := (hr.below b1).below b2
 have HD0 := Lib.hid hD0
 have HW1 := Lib.hid hW1
 have HW2 := Lib.hid hW2
 have R1 := Lib.hid r1
 have O2 := Lib.hid o2
 have Z1 := Lib.hid z1
 have hxl := hr.2.1
 have HRR := Lib.hid hR
 have hml := hR.1
 have HCK := Lib.hid hck
 have HRDL := Lib.hid hrd
 clear hD0 hW1 hW2 r1 o2 z1 hR hck hrd
 go_enter Tryz.func43, Tryz.ntmps43
 go_wp2_with (at_builtin; first
  | (rw [HD0.out, ← HW1.out, ← HW2.out]; refine wp_appB rfl _ _ rfl b2 (Nat.le_refl _) b2.size (some ⟨w.heap.size + 1, 0, none⟩) 0 0 [] rfl O2.out A n c st rfl r2 (by omega) n st (by omega) (by simp) ?_; intro A3 c3 w3 ho3 hb3 hg3)
  | (refine wp_appB rfl _ _ rfl (hb3.alloc hb3.size (.cells #[.int .u8 1] 5)) (Nat.le_refl _) (by simp; have := hb3.size; omega) A3 n c3 st rfl (OwnB.below ho3 ((below_self w3).alloc (Nat.le_refl _) _)) (some ⟨w3.heap.size, 0, none⟩) 1 1 [1] rfl (rdK rfl #[.int .u8 1] [1] 1 rfl rfl (by simp [maxLen])) (by omega) (n + 1) (st ++ [1]) rfl rfl ?_; intro A4 c4 w4 ho4 hb4 hg4))
 have hz4 := hb4.size
 refine (refBase14_any A n c st _ (((hr.below b1).below hb4).alloc _) (by omega)).mono ?_
 rintro e w6 ⟨rfl, hb6⟩
 obtain ⟨DG, hDG⟩ : ∃ DG, jnBase st = DG := ⟨jnBase st, rfl⟩
 rw [hDG]
 have hDl : DG.length = 32 := by rw [← hDG]; exact shOf_len _
 have hb46 : Below W1.heap.size W1 w6 := hb4.trans ((((below_self w4).alloc (Nat.le_refl _) _).mono hz4).trans (hb6.mono (by simp; omega)))
 have T6 : Hid (TxS W1.heap.size (some ⟨w4.heap.size, 0, none⟩) 1 1 (txF st rs) w6) := Lib.hid (TxS.below (TxS.one (drw_at _ rfl) hz4 (OwnB.below ho4 ((below_self w4).alloc (Nat.le_refl _) _))) hb6)
 have HDG := Lib.hid hDG
 have hz6 := hb46.size
 clear hDG ho3 hg3 ho4 hg4
 go_wp2_with (rw [HD0.out]; refine dig_store rfl _ _ rfl (w6.heap.size) rfl DG D0 rfl 30 (drw_at _ rfl) hDl hD0s ?_)
 obtain ⟨X, hX⟩ : ∃ X, X = (w6.alloc (.cells D0 30)).setRow w6.heap.size (dgA DG) := ⟨_, rfl⟩
 have bX : Below w6.heap.size w6 X := by rw [hX]; exact below_setRow ((below_self w6).alloc (Nat.le_refl _) _) (Nat.le_refl _) _
 have qX : X.heap[w6.heap.size]? = some (.cells (dgA DG) 30 (0, 0)) := by rw [hX]; exact setRow_heap _ _ _ (dgA DG) _ _ (drw_at _ rfl)
 rw [← hX]
 have QX := Lib.hid qX
 have BX := Lib.hid bX
 clear hX qX bX
 have bW := below_then b1 hb46
 have BW := Lib.hid (bW.trans (BX.out.mono bW.size))
 have RX : Hid (X.heap[w.heap.size]? = some (.cells D0 30 (0, 0))) := Lib.hid ((BX.out.block _ (by have := Z1.out; omega)).trans ((hb46.block _ (by have := Z1.out; omega)).trans R1.out))
 clear hb46 hb6 hb4 hb3 bW
 go_loopw [6, 8, 9, 10] (TxI w w6.heap.size W1.heap.size m D0 st rs) (fun _ i _ _ _ => m - (intOf i).toNat)
 case atStart => exact ⟨0, _, 1, by omega, rfl, rfl, Lib.hid (T6.out.below BX.out), Lib.hid (by have h_ := QX.out; rw [← HDG.out] at h_; exact h_), RX, BW.out⟩
 case round =>
 obtain ⟨k, A5, c5, hk, rfl, rfl, hT, hG, hD, hB⟩ := hrel
 by_cases hlt : k < m
 ·have i1 : (k : Int) < (m : Int) := by omega
  have d1 : decide ((k : Int) < (m : Int)) = true := decide_eq_true i1
  have wk2 : IntKind.i64.wrap ((k : Int) + 1) = (k : Int) + 1 := IntWalk.i64_in _ (by omega)
  obtain ⟨bo, oo, B_, m_, d_, rfl, hbo, f1, rb, ok1⟩ := HRR.out.2.2 k hlt
  obtain ⟨Rk, hRk⟩ : ∃ z, z = rs.getD k rcZ := ⟨_, rfl⟩
  have hmem : rs.getD k rcZ ∈ rs := by rw [List.getD_eq_getElem?_getD, List.getElem?_eq_getElem (by omega)]; exact List.getElem_mem _
  have hckk := HCK.out _ hmem
  have hRl := HRDL.out _ hmem
  have hnext := txF_next st rs k (by omega)
  have hend := rcEnd_take (jnBase st) rs k (by omega)
  obtain ⟨P, hP⟩ : ∃ z, z = rcEnd (jnBase st) (rs.take k) := ⟨_, rfl⟩
  have hPl : P.length = 32 := by rw [hP]; exact rcEnd_takeL _ (jnBase_len' st) rs HRDL.out k (by omega)
  rw [← hRk] at f1 rb ok1 hckk hRl hnext hend
  rw [← hP] at hG hnext
  have hrange : wr.rangeAt bo (oo + k * 39) (rcV Rk B_ m_ d_) := fun j v hv => by
   have hl := rcV_len Rk B_ m_ d_ hRl
   have hj := (List.getElem?_eq_some_iff.1 hv).1
   rw [World.cell?_of_block (hB.block bo hbo), f1 j (by omega)]; exact hv
  have hput := refPut12_any Rk B_ m_ d_ wr ok1 (rb.below hB)
  have hpl : (rcPutL Rk).length = 256 := by
   unfold rcPutL; rw [if_pos hckk]; exact rcL_len _ (by have := (rcChk_len hckk).1; omega) hRl
  have hbd : (rcPutL Rk).take 220 = rcBody Rk := by
   unfold rcPutL rcL crcClosed; rw [if_pos hckk, List.append_assoc, List.take_append_of_le_length (by rw [rcBody_len _ (by have := (rcChk_len hckk).1; omega)]; omega), List.take_of_length_le (by rw [rcBody_len _ (by have := (rcChk_len hckk).1; omega)]; omega)]
  have hbl : (rcBody Rk).length = 220 := rcBody_len _ (by have := (rcChk_len hckk).1; omega)
  have hinfo : (Tryz.prog.info? 90).map (·.size) = some (rcV Rk B_ m_ d_).length := by rw [rcV_len Rk B_ m_ d_ hRl]; kernel_rfl
  obtain ⟨RV, hRV⟩ : ∃ z, z = rcV Rk B_ m_ d_ := ⟨_, rfl⟩
  obtain ⟨YP, hYP⟩ : ∃ z, z = rcPutL Rk := ⟨_, rfl⟩
  obtain ⟨EP, hEP⟩ : ∃ z, z = rcPutE Rk := ⟨_, rfl⟩
  rw [← hRV] at hrange hput hinfo
  rw [← hYP, ← hEP] at hput
  rw [← hYP] at hpl hbd
  have HPUT := Lib.hid hput
  have HRG := Lib.hid hrange
  have HINF := Lib.hid hinfo
  have HPL := Lib.hid hpl
  have HBD := Lib.hid hbd
  have HBL := Lib.hid hbl
  have HPL2 := Lib.hid hPl
  have HRL := Lib.hid hRl
  have HNX := Lib.hid hnext
  have HEN := Lib.hid hend
  have hDG : wr.rangeAt bo (oo + k * 39 + 7) (Rk.D.map vB) := fun j v hv => by
   have hj : j < 32 := by have := (List.getElem?_eq_some_iff.1 hv).1; rw [List.length_map, hRl] at this; exact this
   rw [World.cell?_of_block (hB.block bo hbo), Nat.add_assoc (oo + k * 39), f1 (7 + j) (by omega), rcV_dig Rk B_ m_ d_ hRl j hj]; exact hv
  have HDGR := Lib.hid hDG
  have HBb := Lib.hid hB
  have hbo2 : bo < wr.heap.size := Nat.lt_of_lt_of_le hbo hB.size
  clear hrange hput hinfo hpl hbd hbl hPl hRl hnext hend f1 rb ok1 hckk hmem hRk hP hRV hYP hEP hDG hB
  go_wp2_with (refine wpList_load_mid rfl 90 _ rfl bo (oo + k * 39) rfl RV _ HRG.out Tryz.underlying90 rfl HINF.out ?_)
  refine HPUT.out.mono ?_
  rintro e w3 ⟨A9, n9, c9, rfl, o9, hb9⟩
  obtain rfl : n9 = 256 := by rw [← o9.len, HPL.out]
  have B3 := Lib.hid (HBb.out.trans (hb9.mono HBb.out.size))
  have hz3 : W1.heap.size ≤ w3.heap.size := by
   have h1 := HBb.out.size
   have h2 := hb9.size
   have h3 := drw_lt hG.out
   omega
  have G3 := Lib.hid ((hb9.block _ (drw_lt hG.out)).trans hG.out)
  have D3 := Lib.hid ((hb9.block _ (drw_lt hD.out)).trans hD.out)
  have T3 := Lib.hid (hT.out.below hb9)
  have RG3 := Lib.hid (HDGR.out)
  have RB : Hid (RdB w3 A9 220 c9 (rcBody Rk)) := Lib.hid (by
   obtain ⟨h1, h2, h3, h4⟩ := o9.rd
   rw [← HBD.out]
   exact ⟨by rw [List.map_take]; exact rd_takeF h1 220, by rw [List.length_take, HPL.out]; rfl, by omega, h4⟩)
  have hmin : min (220 : Int) 256 = 220 := rfl
  have hc9 : (220 : Int) ≤ (c9 : Int) := by have := o9.rd.2.2.1; omega
  have hc9n : 220 ≤ c9 := by omega
  obtain ⟨vs, hO, hP7⟩ := T3.out
  have HO := Lib.hid hO
  have HP7 := Lib.hid hP7
  clear hO hP7 o9 hG hT hD
  go_wp2_with fail
  refine wp_region_plan (S := fun w' => Below W1.heap.size w3 w') [(0, true), (2, true), (4, true), (5, true), (6, true), (7, true), (8, true), (1, false), (3, false), (9, false), (10, false), (11, false), (12, true)] (by kernel_rfl) (by kernel_rfl) (fun _ _ d _ _ h => by cases d <;> exact h) ((Below.refl _ w3).drew) ?_
  iterate 7 (refine plan_take (v := ?_) rfl (Or.inl ⟨by rfl, ?_⟩) ?_; rotate_left; (focus (intro w' hw'; go_simp <;> with_reducible rfl)); try simp only [Act.put, pst3])
  refine plan_run rfl (fun K hK => ?_)
  rw [if_pos (by rfl)]
  refine op_lit #[] 5 0 rfl (fun w => by go_simp) ?_
  intro gE wE eE rE hbE0 zE
  have hbE3 := undrew hbE0
  have hbE := hbE3.mono hz3
  refine hK.out _ _ (hbE) ?_
  clear hK
  try simp only [Act.put, pst3]
  refine plan_run rfl (fun K hK => ?_)
  rw [if_pos (by rfl)]
  refine op_appB _ _ rfl hbE3 (Nat.le_refl _) hbE3.size (some ⟨gE, 0, none⟩) 0 0 [] rfl (own_at0 rE (by rw [← eE]; exact Nat.le_refl _)) (some ⟨w6.heap.size, 0, none⟩) 32 32 P rfl (RdB.below (rdDg G3.out HPL2.out) hbE3) (by omega) 32 P rfl rfl ?_
  intro AF cF wF oF hbF0 hgF
  have hbF := hbF0.mono hz3
  refine hK.out _ _ (hbF) ?_
  clear hK
  try simp only [Act.put, pst3]
  refine plan_run rfl (fun K hK => ?_)
  rw [if_pos (by rfl)]
  refine op_appB _ _ rfl hbF0 (Nat.le_refl _) hbF0.size AF 32 cF P rfl oF A9 220 c9 (rcBody Rk) rfl (RB.out.below hbF0) (by omega) 252 (P ++ rcBody Rk) rfl rfl ?_
  intro AH cH wH oH hbH0 hgH
  have hbH := hbH0.mono hz3
  refine hK.out _ _ (hbH) ?_
  clear hK
  try simp only [Act.put, pst3]
  refine plan_run rfl (fun K hK => ?_)
  rw [if_pos (by rfl)]
  refine op_lit #[.slice AH 252 cH] 47 1 rfl (fun w => by go_simp) ?_
  intro gL wL eL rL hbL0 zL
  have hbL3 := hbH0.trans (hbL0.mono hbH0.size)
  have hbL := hbL3.mono hz3
  refine hK.out _ _ (hbL) ?_
  clear hK
  try simp only [Act.put, pst3]
  refine plan_run rfl (fun K hK => ?_)
  rw [if_pos (by rfl)]
  refine op_appSS _ _ rfl W1.heap.size _ (k + 1) vs rfl (down_keep HO.out hbL3) (some ⟨gL, 0, none⟩) 1 1 [.slice AH 252 cH] rfl (.inr ⟨gL, 0, rfl, drw_lt rL, fun i v hv => by rw [Nat.zero_add, cell_of_row wL gL i _ _ _ rL]; simpa using hv⟩) rfl (by intro u hu; simp at hu; subst hu; rfl) (by omega) (Nat.le_trans hz3 hbL3.size) (k + 1 + 1) _ rfl rfl ?_
  intro AM cM wM oM hgM
  have hbM : Below W1.heap.size w3 wM := hbL.grown hgM (Nat.le_trans hz3 hbL3.size) (fun q hq => ((down_keep HO.out hbL3).lt q hq).1)
  refine hK.out _ _ (hbM) ?_
  clear hK
  try simp only [Act.put, pst3]
  iterate 1 (refine plan_take (v := ?_) rfl (Or.inl ⟨by rfl, ?_⟩) ?_; rotate_left; (focus (intro w' hw'; go_simp <;> with_reducible rfl)); try simp only [Act.put, pst3])
  refine plan_done ?_
  have OL := down_keep HO.out hbL3
  have hgL : wL.heap[w6.heap.size]? = _ := (hbL3.block _ (drw_lt G3.out)).trans G3.out
  have GM := Lib.hid (grown_keep hgM hgL (rowS_ne OL hgL (by decide)))
  have DM := Lib.hid ((hbM.block w.heap.size (by have := Z1.out; omega)).trans D3.out)
  have RGM : Hid (wM.rangeAt bo (oo + k * 39 + 7) (Rk.D.map vB)) := Lib.hid (fun j v hv => by
   rw [World.cell?_of_block (hbM.block bo (by have := Z1.out; omega)), World.cell?_of_block (hb9.block bo hbo2)]; exact HDGR.out j v hv)
  have hne6 : w6.heap.size ≠ w.heap.size := by have := Z1.out; omega
  have TY : Hid (TxS W1.heap.size AM cM (k + 1 + 1) (txF st rs) (wM.setRow w6.heap.size (dgA Rk.D))) := Lib.hid (by
   refine ⟨_, down_keepT oM (fun g' cur _ hg => setRow_other _ _ _ _ (dtyp_ne hg GM.out (by decide))), fun j hj => ?_⟩
   have keep : ∀ {B : Option Addr} {m d : Nat} {ys : List UInt8}, OwnB wL W1.heap.size B m d ys → OwnB (wM.setRow w6.heap.size (dgA Rk.D)) W1.heap.size B m d ys := fun h => by
    have h2 := own_grown OL h (by decide) hgM
    exact down_keepT h2 (fun g' cur _ hg => setRow_other _ _ _ _ (dtyp_ne hg GM.out (by decide)))
   have hvl : vs.length = k + 1 := by have := HO.out.1; omega
   rcases Nat.lt_or_ge j (k + 1) with hjk | hjk
   ·obtain ⟨B, m2, d2, h3, h4⟩ := HP7.out j hjk
    exact ⟨B, m2, d2, by rw [List.getElem?_append_left (by omega)]; exact h3, keep (OwnB.below h4 hbL3)⟩
   ·obtain rfl : j = k + 1 := by omega
    refine ⟨AH, 252, cH, by rw [List.getElem?_append_right (by omega), hvl, Nat.sub_self]; rfl, ?_⟩
    rw [HNX.out]
    exact keep (OwnB.mono (OwnB.below oH hbL0) hz3))
  have GY : Hid ((wM.setRow w6.heap.size (dgA Rk.D)).heap[w6.heap.size]? = some (.cells (dgA Rk.D) 30 (0, 0))) := Lib.hid (setRow_heap _ _ _ (dgA Rk.D) _ _ GM.out)
  have DY : Hid ((wM.setRow w6.heap.size (dgA Rk.D)).heap[w.heap.size]? = some (.cells D0 30 (0, 0))) := Lib.hid ((setRow_other _ _ _ _ (Ne.symm hne6)).trans DM.out)
  have BY : Hid (Below w.heap.size w (wM.setRow w6.heap.size (dgA Rk.D))) := Lib.hid (below_setRow (B3.out.trans (hbM.mono (by have := Z1.out; omega))) (by have := Z1.out; omega) _)
  have hinfo2 : (Tryz.prog.info? 30).map (·.size) = some (Rk.D.map vB).length := by rw [List.length_map, HRL.out]; kernel_rfl
  clear oM hgM hgL OL hbL hbL3 hbM hbH hbF oH oF hgH hgF rL rE hbL0 hbH0 hbF0 hbE0 hbE3 hbE hb9
  go_wp2_with (first
   | (refine wpList_load_mid rfl 30 _ rfl bo (oo + k * 39 + 7) rfl (Rk.D.map vB) _ RGM.out Tryz.underlying30 rfl hinfo2 ?_)
   | (refine dig_store rfl _ _ rfl (w6.heap.size) rfl Rk.D (dgA P) rfl 30 GM.out HRL.out (by rw [dgA_size, HPL2.out]) ?_))
  go_roundw
  case rel => exact ⟨k + 1, AM, cM, by omega, rfl, by rw [Int.natCast_add]; rfl, TY, Lib.hid (by rw [HEN.out]; exact GY.out), DY, BY.out⟩
  case measure => simp [intOf]; omega
 ·obtain rfl : k = m := by omega
  have d1 : decide ((k : Int) < (k : Int)) = false := decide_eq_false (by omega)
  have d1' : decide (k < k) = false := decide_eq_false hlt
  have htk : rs.take k = rs := by rw [← hml]; exact List.take_length
  rw [htk] at hG
  have hPl : (rcEnd (jnBase st) rs).length = 32 := by have h_ := rcEnd_takeL _ (jnBase_len' st) rs HRDL.out k (by omega); rwa [htk] at h_
  have hyl := txA_len st rs
  obtain ⟨P, hP⟩ : ∃ z, z = rcEnd (jnBase st) rs := ⟨_, rfl⟩
  rw [← hP] at hG hPl
  obtain ⟨ys, hys⟩ : ∃ z, z = txA st rs := ⟨_, rfl⟩
  have hT2 : TxS W1.heap.size A5 c5 (k + 1) (fun j => ys.getD j []) wr := by rw [hys]; exact hT.out
  rw [← hys, hml] at hyl
  have HYS := Lib.hid hys
  have HPS := Lib.hid hP
  have HYL := Lib.hid hyl
  have HT2 := Lib.hid hT2
  have HPL := Lib.hid hPl
  have HBb := Lib.hid hB
  have hgw := drw_lt hG.out
  have hdw := drw_lt hD.out
  clear hT hT2 hyl hys hP hPl htk hml hB
  go_wp2_with fail
  refine wp_region_last (S := fun w' => Below wr.heap.size wr w') 3 #[true, true, true, false] [(0, true), (1, true), (2, true)] (by kernel_rfl) (by kernel_rfl) (fun _ _ d _ _ h => by cases d <;> exact h) ((Below.refl _ wr).drew) ?_
  iterate 1 (refine seg_take (v := ?_) rfl (Or.inl ⟨by rfl, ?_⟩) ?_; rotate_left; (focus (intro w' hw'; go_simp <;> with_reducible rfl)); try simp only [Act.put, pst3])
  refine seg_take (v := .agg (dgA P)) rfl (Or.inl ⟨by rfl, fun w' hw' => ?_⟩) ?_
  focus (exact ex_loadP rfl rfl (run_loadVar_row w' _ _ _ _ _ _ ((hw'.block _ hgw).trans hG.out) Tryz.underlying30 rfl (infoD P HPL.out)))
  try simp only [Act.put, pst3]
  iterate 1 (refine seg_take (v := ?_) rfl (Or.inl ⟨by rfl, ?_⟩) ?_; rotate_left; (focus (intro w' hw'; go_simp <;> with_reducible rfl)); try simp only [Act.put, pst3])
  refine seg_done ?_
  refine last_run rfl (fun K hK => ?_)
  refine wp_store_row 30 _ _ rfl (w.heap.size) (dgA P) rfl rfl 30 D0 hD.out (infoD P HPL.out) (by rw [dgA_size, HPL.out, hD0s]) (dgA_one P) ?_
  refine hK.out _ _ ?_
  clear hK
  try simp only [Act.put, pst3]
  go_wp2_with fail
  have DD : wr.drew.heap[w.heap.size]? = some (.cells D0 30 (0, 0)) := hD.out
  have TT := TxS.setDg (w := wr.drew) HT2.out DD (dgA P)
  obtain ⟨vs', hss⟩ := TT.rdss HYL.out
  refine bodyPost_ret (fresults_tmp_cell Tryz.results43 _ _ (w.heap.size) 30 (dgA P) (0, 0) _ rfl (setRow_heap _ _ _ (dgA P) _ _ DD) Tryz.underlying30 rfl (infoD P HPL.out)) rfl ?_
  exact ⟨A5, c5, vs', by rw [← HYS.out, ← HPS.out, HYL.out]; rfl, by rw [← HYS.out, HYL.out]; exact hss, below_setRow (HBb.out.trans ((Below.refl _ wr).drew)) (Nat.le_refl _) _⟩
set_option maxHeartbeats 4000000
def evSame (t : Nat) (k : Int) (c : Nat) (xs : List UInt8) (t2 : Nat) (k2 : Int) (c2 : Nat) (ys : List UInt8) : Bool := decide (t = t2) && (decide (k = k2) && (decide (c = c2) && decide (xs = ys)))
theorem refEvents12_any (t : Nat) (k : Int) (cl : Nat) (A : Option Addr) (n c : Nat) (xs : List UInt8) (t2 : Nat) (k2 : Int) (cl2 : Nat) (B : Option Addr) (m d : Nat) (ys : List UInt8) (w : World) (h1 : RdB w A n c xs) (h2 : RdB w B m d ys) :
  Calls Tryz.prog 39 #[.agg #[.int .u64 (t : Int), .int .i64 k, .int .u64 (cl : Int), .slice A n c], .agg #[.int .u64 (t2 : Int), .int .i64 k2, .int .u64 (cl2 : Int), .slice B m d]] w (RetV w (.bool (evSame t k cl xs t2 k2 cl2 ys))) := by
 obtain ⟨V, hV⟩ : ∃ V, V = (w.alloc (.cells #[.int .u64 (t : Int), .int .i64 k, .int .u64 (cl : Int), .slice A n c] 49)).alloc (.cells #[.int .u64 (t2 : Int), .int .i64 k2, .int .u64 (cl2 : Int), .slice B m d] 49) := ⟨_, rfl⟩
 have bV : Below w.heap.size w V := by rw [hV]; exact ((below_self w).alloc (Nat.le_refl _) _).alloc (by simp) _
 have hh := bytes_any A B n c m d xs ys V (h1.below bV) (h2.below bV)
 have HV := Lib.hid hV
 unfold evSame
 by_cases e1 : t = t2
 ·subst e1
  by_cases e2 : k = k2
  ·subst e2
   by_cases e3 : cl = cl2
   ·subst e3
    rw [decide_eq_true rfl, decide_eq_true rfl, decide_eq_true rfl]
    simp only [Bool.true_and]
    obtain ⟨eq, heq⟩ : ∃ z, z = decide (xs = ys) := ⟨_, rfl⟩
    rw [← heq] at hh ⊢
    have HH := Lib.hid hh
    clear hh hV heq
    go_enter Tryz.func39, Tryz.ntmps39
    go_wp2_with fail
    rw [← HV.out]
    refine HH.out.mono ?_
    rintro e w2 ⟨rfl, rfl⟩
    go_wp2
    go_ret
    exact ⟨rfl, bV⟩
   ·have q : ((cl : Int) == (cl2 : Int)) = false := beq_eq_false_iff_ne.2 (by omega)
    have q2 : (cl == cl2) = false := beq_eq_false_iff_ne.2 e3
    rw [decide_eq_false e3]
    simp only [Bool.false_and, Bool.and_false]
    rw [hV] at bV
    clear hh hV HV
    go_enter Tryz.func39, Tryz.ntmps39
    go_wp2_with fail
    go_ret
    exact ⟨rfl, bV⟩
  ·have q : (k == k2) = false := beq_eq_false_iff_ne.2 e2
   rw [decide_eq_false e2]
   simp only [Bool.false_and, Bool.and_false]
   rw [hV] at bV
   clear hh hV HV
   go_enter Tryz.func39, Tryz.ntmps39
   go_wp2_with fail
   go_ret
   exact ⟨rfl, bV⟩
 ·have q : ((t : Int) == (t2 : Int)) = false := beq_eq_false_iff_ne.2 (by omega)
  have q2 : (t == t2) = false := beq_eq_false_iff_ne.2 e1
  rw [decide_eq_false e1]
  simp only [Bool.false_and]
  rw [hV] at bV
  clear hh hV HV
  go_enter Tryz.func39, Tryz.ntmps39
  go_wp2_with fail
  go_ret
  exact ⟨rfl, bV⟩
def rcSame (r r2 : Rc) : Bool := decide (r.g = r2.g) && (decide (r.s = r2.s) && (decide (r.m = r2.m) && (decide (r.D = r2.D) && evSame r.t r.k r.c r.b r2.t r2.k r2.c r2.b)))
theorem rcSame_self (r : Rc) : rcSame r r = true := by simp [rcSame, evSame]
theorem refSame12_any (r r2 : Rc) (A : Option Addr) (n c : Nat) (B : Option Addr) (m d : Nat) (w : World) (hD : r.D.length = 32) (hD2 : r2.D.length = 32) (h1 : RdB w A n c r.b) (h2 : RdB w B m d r2.b) :
  Calls Tryz.prog 82 #[.agg (rcV r A n c).toArray, .agg (rcV r2 B m d).toArray] w (RetV w (.bool (rcSame r r2))) := by
 obtain ⟨V, hV⟩ : ∃ V, V = (w.alloc (.cells (rcV r A n c).toArray 90)).alloc (.cells (rcV r2 B m d).toArray 90) := ⟨_, rfl⟩
 have bV : Below w.heap.size w V := by rw [hV]; exact ((below_self w).alloc (Nat.le_refl _) _).alloc (by simp) _
 have q1 : RcAt V w.heap.size r A n c := by rw [hV]; exact rw_old _ (rw_at _ rfl)
 have q2 : RcAt V (w.heap.size + 1) r2 B m d := by rw [hV]; exact rw_at _ (by simp)
 have hh := refEvents12_any r.t r.k r.c A n c r.b r2.t r2.k r2.c B m d r2.b V (h1.below bV) (h2.below bV)
 have a0 := q1.c0
 have a1 := q1.c1
 have a2 := q1.c2
 have a3 := q1.c3
 have a4 := q1.c4
 have a5 := q1.c5
 have a6 := q1.c6
 have b0 := q2.c0
 have b1 := q2.c1
 have b2 := q2.c2
 have b3 := q2.c3
 have b4 := q2.c4
 have b5 := q2.c5
 have b6 := q2.c6
 have Q1 := Lib.hid q1
 have Q2 := Lib.hid q2
 have HD := Lib.hid hD
 have HD2 := Lib.hid hD2
 have kq : ∀ W : World, (Op.equalIn 10000 30 (.agg (r.D.map vB).toArray) (.agg (r2.D.map vB).toArray)).run Tryz.prog W = .ok (decide (r.D = r2.D)) W := fun W => rdig_eq r.D r2.D hD hD2 W
 have HDZ := Lib.hid (show (Tryz.prog.info? 30).map (·.size) = some (r.D.map vB).length by rw [List.length_map, hD]; kernel_rfl)
 have HDZ2 := Lib.hid (show (Tryz.prog.info? 30).map (·.size) = some (r2.D.map vB).length by rw [List.length_map, hD2]; kernel_rfl)
 obtain ⟨ev, hev⟩ : ∃ z, z = evSame r.t r.k r.c r.b r2.t r2.k r2.c r2.b := ⟨_, rfl⟩
 unfold rcSame
 rw [← hev] at hh ⊢
 obtain ⟨R1, hR1⟩ : ∃ z, z = (rcV r A n c).toArray := ⟨_, rfl⟩
 obtain ⟨R2, hR2⟩ : ∃ z, z = (rcV r2 B m d).toArray := ⟨_, rfl⟩
 rw [← hR1, ← hR2] at hV ⊢
 rw [hV] at a0 a1 a2 a3 a4 a5 a6 b0 b1 b2 b3 b4 b5 b6
 have HH := Lib.hid hh
 have HV := Lib.hid hV
 have BV := Lib.hid bV
 clear hh q1 q2 hR1 hR2 hD hD2 hev
 by_cases e1 : r.g = r2.g
 ·rw [← e1] at b0 ⊢
  rw [decide_eq_true rfl, Bool.true_and]
  by_cases e2 : r.s = r2.s
  ·rw [← e2] at b1 ⊢
   rw [decide_eq_true rfl, Bool.true_and]
   by_cases e3 : r.m = r2.m
   ·rw [← e3] at b2 ⊢
    rw [decide_eq_true rfl, Bool.true_and]
    obtain ⟨dq, hdq⟩ : ∃ z, z = decide (r.D = r2.D) := ⟨_, rfl⟩
    rw [← hdq] at kq ⊢
    clear hdq hV e1 e2 e3 bV
    cases dq with
    | true =>
     rw [Bool.true_and]
     go_enter Tryz.func82, Tryz.ntmps82
     go_wp2_with (rw [← HV.out]; first
      | (refine wpList_unguard (by rfl) (wpList_load_mid rfl 30 _ rfl w.heap.size 7 rfl (r.D.map vB) _ (rd_range (Q1.out.dig HD.out)) Tryz.underlying30 rfl HDZ.out ?_); rw [HV.out])
      | (refine wpList_unguard (by rfl) (wpList_load_mid rfl 30 _ rfl (w.heap.size + 1) 7 rfl (r2.D.map vB) _ (rd_range (Q2.out.dig HD2.out)) Tryz.underlying30 rfl HDZ2.out ?_); rw [HV.out]))
     rw [← HV.out]
     refine HH.out.mono ?_
     rintro e w2 ⟨rfl, hb2⟩
     go_wp2
     go_ret
     exact ⟨rfl, below_then BV.out hb2⟩
    | false =>
     rw [Bool.false_and]
     go_enter Tryz.func82, Tryz.ntmps82
     go_wp2_with (rw [← HV.out]; first
      | (refine wpList_unguard (by rfl) (wpList_load_mid rfl 30 _ rfl w.heap.size 7 rfl (r.D.map vB) _ (rd_range (Q1.out.dig HD.out)) Tryz.underlying30 rfl HDZ.out ?_); rw [HV.out])
      | (refine wpList_unguard (by rfl) (wpList_load_mid rfl 30 _ rfl (w.heap.size + 1) 7 rfl (r2.D.map vB) _ (rd_range (Q2.out.dig HD2.out)) Tryz.underlying30 rfl HDZ2.out ?_); rw [HV.out]))
     rw [← HV.out]
     go_ret
     exact ⟨rfl, BV.out⟩
   ·have q : ((r.m : Int) == (r2.m : Int)) = false := beq_eq_false_iff_ne.2 (by omega)
    have q2 : (r.m == r2.m) = false := beq_eq_false_iff_ne.2 e3
    rw [decide_eq_false e3, Bool.false_and]
    rw [hV] at bV
    clear hV kq e1 e2 e3 BV HV HH
    go_enter Tryz.func82, Tryz.ntmps82
    go_wp2_with fail
    go_ret
    exact ⟨rfl, bV⟩
  ·have q : ((r.s : Int) == (r2.s : Int)) = false := beq_eq_false_iff_ne.2 (by omega)
   have q2 : (r.s == r2.s) = false := beq_eq_false_iff_ne.2 e2
   rw [decide_eq_false e2, Bool.false_and]
   rw [hV] at bV
   clear hV kq e1 e2 BV HV HH
   go_enter Tryz.func82, Tryz.ntmps82
   go_wp2_with fail
   go_ret
   exact ⟨rfl, bV⟩
 ·have q : ((r.g : Int) == (r2.g : Int)) = false := beq_eq_false_iff_ne.2 (by omega)
  have q2 : (r.g == r2.g) = false := beq_eq_false_iff_ne.2 e1
  rw [decide_eq_false e1, Bool.false_and]
  rw [hV] at bV
  clear hV kq e1 BV HV HH
  go_enter Tryz.func82, Tryz.ntmps82
  go_wp2_with fail
  go_ret
  exact ⟨rfl, bV⟩
end Go.Proofs.YtpahicfnhhhifaaGreat
namespace Go.Proofs.YtpahicfnhhhifaaGreat
set_option maxRecDepth 20000
set_option maxRecDepth 20000
open Go.RowKit
set_option maxHeartbeats 4000000
def RetRq (w : World) (l l2 : List Rc) (e : Ending) (w' : World) : Prop := ∃ v, e = .returned (.bool v) ∧ Below w.heap.size w w' ∧ (l = l2 → v = true)
theorem refRecs_any (A : Option Addr) (n c : Nat) (B : Option Addr) (m d : Nat) (l l2 : List Rc) (w : World) (h1 : RdRs w A n l) (h2 : RdRs w B m l2) :
  Calls Tryz.prog 36 #[.slice A n c, .slice B m d] w (RetRq w l l2) := by
 have hn := h1.2.1
 have hm := h2.2.1
 by_cases hnm : n = m
 case neg =>
  have q : ((n : Int) == (m : Int)) = false := beq_eq_false_iff_ne.2 (by omega)
  have q2 : ¬ ((n : Int) = (m : Int)) := by omega
  have fin : l = l2 → false = true := fun e => absurd (by rw [← h1.1, ← h2.1, e]) hnm
  clear h1 h2
  go_enter Tryz.func36, Tryz.ntmps36
  go_wp2_with fail
  go_ret
  exact ⟨false, rfl, Below.refl _ _, fin⟩
 subst hnm
 have H1 := Lib.hid h1
 have H2 := Lib.hid h2
 clear h1 h2
 go_enter Tryz.func36, Tryz.ntmps36
 go_wp2_with fail
 go_loopw [5] (RrI14 n w) (fun i _ => n - (intOf i).toNat)
 case atStart => exact ⟨0, by omega, rfl, Below.refl _ _⟩
 case round =>
 obtain ⟨k, hk, rfl, hB⟩ := hrel
 have HBo := Lib.hid hB
 by_cases hlt : k < n
 ·have i1 : (k : Int) < (n : Int) := by omega
  have wk2 : IntKind.i64.wrap ((k : Int) + 1) = (k : Int) + 1 := IntWalk.i64_in _ (by omega)
  obtain ⟨b1, o1, A1, n1, c1, rfl, hb1, f1, r1, ok1⟩ := H1.out.2.2 k hlt
  obtain ⟨b2, o2, A2, n2, c2, rfl, hb2, f2, r2, ok2⟩ := H2.out.2.2 k hlt
  obtain ⟨R, hR⟩ : ∃ r, r = l.getD k rcZ := ⟨_, rfl⟩
  obtain ⟨R', hR'⟩ : ∃ r, r = l2.getD k rcZ := ⟨_, rfl⟩
  rw [← hR] at f1 r1 ok1
  rw [← hR'] at f2 r2 ok2
  have hl1 := fun w' (hw : Below w.heap.size w w') => recs_load ok1 hb1 f1 hw
  have hl2 := fun w' (hw : Below w.heap.size w w') => recs_load ok2 hb2 f2 hw
  have hs := fun W (hW : Below w.heap.size w W) => refSame12_any R R' A1 n1 c1 A2 n2 c2 W ok1.2.2.2.2.2.2 ok2.2.2.2.2.2.2 (r1.below hW) (r2.below hW)
  obtain ⟨R1, hR1⟩ : ∃ z, z = (rcV R A1 n1 c1).toArray := ⟨_, rfl⟩
  obtain ⟨R2, hR2⟩ : ∃ z, z = (rcV R' A2 n2 c2).toArray := ⟨_, rfl⟩
  obtain ⟨bv, hbv⟩ : ∃ z, z = rcSame R R' := ⟨_, rfl⟩
  simp only [← hR1, ← hR2, ← hbv] at hl1 hl2 hs
  have fin : bv = false → l = l2 → false = true := fun e1 e2 => by
   rw [hbv, hR, hR', e2, rcSame_self] at e1; exact absurd e1 (by decide)
  have FIN := Lib.hid fin
  have HL1 := Lib.hid (fun w' (hw : Below wr.heap.size wr w') => hl1 w' (hB.trans (hw.mono hB.size)))
  have HL2 := Lib.hid (fun w' (hw : Below wr.heap.size wr w') => hl2 w' (hB.trans (hw.mono hB.size)))
  have HS := Lib.hid (fun w' (hw : Below wr.heap.size wr w') => hs w' (hB.trans (hw.mono hB.size)))
  have HBz := hB.size
  clear hl1 hl2 hs f1 f2 r1 r2 ok1 ok2 hR hR' hR1 hR2 hB hbv fin
  go_wp2_with fail
  refine wp_region_seg (S := fun w' => Below wr.heap.size wr w') 0 (brw9 10 1023) [(0, true), (1, true), (2, true), (3, true), (4, true), (5, true), (6, true), (7, true), (8, false), (9, true)] (by kernel_rfl) (by kernel_rfl) (fun _ _ d _ _ h => by first | (cases d <;> exact h) | cases h.1) ((Below.refl wr.heap.size wr).drew) ?_
  have HB := (Below.refl wr.heap.size wr).drew
  iterate 3 (refine seg_take (v := ?_) rfl (Or.inl ⟨by rfl, ?_⟩) ?_; rotate_left; (focus (intro w' hw'; go_simp <;> with_reducible rfl)); try simp only [Act.put, pst3])
  refine seg_take (v := (.agg R1)) rfl (Or.inl ⟨by rfl, fun w' hw' => ?_⟩) ?_
  focus (exact ex_load rfl rfl (HL1.out w' hw'))
  try simp only [Act.put, pst3]
  iterate 3 (refine seg_take (v := ?_) rfl (Or.inl ⟨by rfl, ?_⟩) ?_; rotate_left; (focus (intro w' hw'; go_simp <;> with_reducible rfl)); try simp only [Act.put, pst3])
  refine seg_take (v := (.agg R2)) rfl (Or.inl ⟨by rfl, fun w' hw' => ?_⟩) ?_
  focus (exact ex_load rfl rfl (HL2.out w' hw'))
  try simp only [Act.put, pst3]
  refine seg_run rfl (fun K hK => ?_)
  go_simp
  refine (HS.out _ HB).mono ?_
  rintro e_ w2 ⟨rfl, b2⟩
  have HB := below_then HB b2
  refine hK.out _ _ (HB) ?_
  clear hK
  try simp only [Act.put, pst3]
  iterate 1 (refine seg_take (v := ?_) rfl (Or.inl ⟨by rfl, ?_⟩) ?_; rotate_left; (focus (intro w' hw'; go_simp <;> with_reducible rfl)); try simp only [Act.put, pst3])
  refine seg_done (fun _ => ?_)
  refine wpAnyH_done (by kernel_rfl) ?_ _
  have HB' := Lib.hid HB
  cases bv with
  | true =>
   go_wp2_with fail
   go_roundw
   case rel => exact ⟨k + 1, by omega, by rw [Int.natCast_add]; rfl, HBo.out.trans (HB'.out.mono HBz)⟩
   case measure => simp [intOf]; omega
  | false =>
   go_wp2_with fail
   go_ret
   exact ⟨false, rfl, HBo.out.trans (HB'.out.mono HBz), fun h => FIN.out (by first | rfl | trivial) h⟩
 ·obtain rfl : k = n := by omega
  clear hB
  go_wp2_with fail
  go_ret
  exact ⟨true, rfl, HBo.out, fun _ => rfl⟩
end Go.Proofs.YtpahicfnhhhifaaGreat
