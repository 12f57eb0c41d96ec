/-
 Proved here, for the statement JournalLoads:
 'append(s, make([]byte, k)...)' where s is owned.
 Layer 5: disks (the document): Few, Check, Same (of equal ones); a sector full o
-/
import Derived.Test.YtpahicfnhhhifaaGreatGl02
set_option linter.unusedVariables false
set_option linter.unusedSimpArgs false
namespace Go.Proofs.YtpahicfnhhhifaaGreat
set_option maxRecDepth 20000
open Go.RowKit
theorem zeros_u8 (k : Nat) : (Builtin.zeroCells (Value.int .u8 0).cells k).toList = (List.replicate k (0 : UInt8)).map vB := by
 rw [show (Value.int .u8 0).cells = #[Value.int .u8 0] from rfl]
 apply List.ext_getElem
 ·simp [Builtin.zeroCells]
 ·intro i h1 h2
  simp [Builtin.zeroCells, vB, Nat.mod_one]
theorem run_appZ {w : World} {base n c : Nat} {A : Option Addr} {xs : List UInt8} (hown : OwnB w base A n c xs) (ty tn : TypeId) (kn kq : IntKind) (htn : Tryz.prog.underlying tn = some (.int kn)) (k : Nat) (hm : n + k ≤ 70368744177664) (hbase : base ≤ w.heap.size) :
  ∃ A' c' w', (Builtin.append_ #[47, tn] ty #[.slice A n c, .int kq k]).run Tryz.prog w = .ok (.slice A' (n + k) c') w' ∧ OwnB w' base A' (n + k) c' (xs ++ List.replicate k 0) ∧ w.grownBy w' (Value.slice A n c).ownBlock := by
 obtain ⟨i, hi, hz, hsz, hby⟩ := info_parts elemB.info
 have ht := elemB.slice
 have hlen := hown.len
 have hw : IntKind.i64.wrap (k : Int) = k := by rw [IntKind.wrap_i64]; omega
 have hneg : ¬ ((k : Int) < 0) := by omega
 have h48i : ¬ (281474976710656 < (k : Int) * (i.bytes : Int)) := by rw [hby]; omega
 rcases Nat.eq_zero_or_pos k with rfl | hk
 ·refine ⟨A, c, w, ?_, by simpa using hown, World.grownBy.refl _ _⟩
  have hnc : n ≤ c := hown.rd.2.2.1
  have hw0 : IntKind.i64.wrap 0 = 0 := by decide
  cases A with
  | none => simp [Builtin.append_, run_underlying ht, run_underlying htn, sizeOf, typeInfo, zeroValue, hi, hz, asInt, asIntOf, hnc, Builtin.lenOf, hw0]
  | some a => simp [Builtin.append_, run_underlying ht, run_underlying htn, sizeOf, typeInfo, zeroValue, hi, hz, asInt, asIntOf, hnc, Builtin.lenOf, hw0, storeCells]
 ·have grown : ∀ (old : Nat), old < n + k → ∀ (row : Option Nat),
    OwnB (w.drew.alloc (.cells ((xs.map vB).toArray ++ Builtin.zeroCells (Value.int .u8 0).cells k ++ Builtin.zeroCells (Value.int .u8 0).cells (grownCap w (n + k) old 5 - (n + k))) 5)) base (some ⟨w.heap.size, 0, none⟩) (n + k) (grownCap w (n + k) old 5) (xs ++ List.replicate k 0) ∧
    w.grownBy (w.drew.alloc (.cells ((xs.map vB).toArray ++ Builtin.zeroCells (Value.int .u8 0).cells k ++ Builtin.zeroCells (Value.int .u8 0).cells (grownCap w (n + k) old 5 - (n + k))) 5)) row := by
   intro old ho row
   have hge := grownCap_ge w (n + k) old 5
   have hcm : grownCap w (n + k) old 5 ≤ maxLen := grownCap_le_maxLen w (n + k) old 5 (by unfold maxLen; omega)
   refine ⟨⟨by simp [hlen], .inr ⟨w.heap.size, _, _, rfl, hbase, heap_alloc_new w.drew _, hge, hcm, ?_, ?_⟩⟩, ⟨rfl, rfl, rfl, by simp, fun j hj _ => Below.heap_alloc w.drew _ j hj⟩⟩
   ·simp only [Array.size_append, List.size_toArray, size_zeroCells, List.length_map, hlen, show (Value.int .u8 0).cells.size = 1 from rfl]
    omega
   ·simp only [Array.toList_append, zeros_u8, List.append_assoc, Nat.mul_one]
    rw [← List.append_assoc, ← List.map_append]
    rw [List.take_left' (by simp [hlen])]
  rcases hown.2 with ⟨he, h0⟩ | ⟨g, cap, cur, he, hbg, hg, hnc, hcm, hcs, htake⟩
  ·injection he with e1 e2 e3
   subst e1 e2 e3
   have hx : xs = [] := List.eq_nil_of_length_eq_zero hlen
   subst hx
   have hr := Lib.run_append_nil_zeros (P := Tryz.prog) w 47 tn ty 5 i _ kq kn ht htn hi hz k hk (by omega) (by omega) (by rw [hby]; omega)
   have hgr := grown 0 (by omega) (Value.ownBlock (.slice none 0 0))
   simp only [Nat.zero_add, List.nil_append, List.map_nil, Array.empty_append] at hgr ⊢
   exact ⟨_, _, _, hr, hgr.1, hgr.2⟩
  ·injection he with e1 e2 e3
   subst e1 e3
   by_cases hroom : n + k ≤ c
   ·rw [Nat.mul_one] at hcs htake
    have hst := run_storeCells_at Tryz.prog g n 5 (Builtin.zeroCells (Value.int .u8 0).cells k).toList 0 cur w hg (by rw [zeros_u8]; simp; omega) (by rw [zeros_u8]; exact oneCell_vB _)
    simp only [Nat.add_zero] at hst
    refine ⟨some ⟨g, 0, none⟩, c, w.setRow g (cur.toList.take n ++ (Builtin.zeroCells (Value.int .u8 0).cells k).toList ++ cur.toList.drop (n + (Builtin.zeroCells (Value.int .u8 0).cells k).toList.length)).toArray, ?_, ⟨by simp [hlen], .inr ⟨g, c, _, rfl, hbg, setRow_heap w g cur _ 5 _ hg, hroom, hcm, ?_, ?_⟩⟩, ⟨rfl, rfl, rfl, by simp, fun j _ hj => setRow_other w g j _ (fun e => hj (by simp [Value.ownBlock, e]))⟩⟩
    ·have hk0 : ¬ k = 0 := by omega
     have hks : ¬ (k * i.size = 0) := Nat.mul_ne_zero hk0 (by omega)
     simp [Builtin.append_, run_underlying ht, run_underlying htn, sizeOf, typeInfo, zeroValue, hi, hz, asInt, asIntOf, hw, hneg, h48i, hks, hroom, Addr.add_lit, hsz, hk0]
     simp at hst
     rw [hst]
     simp
    ·rw [zeros_u8]; simp; omega
    ·rw [htake, Nat.mul_one, zeros_u8, ← List.map_append, List.take_left' (by simp [hlen])]
   ·have hrd := hown.rd.1
    have hold : (Builtin.firstCells i.size n (.slice (some ⟨g, 0, none⟩) n c)).run Tryz.prog w.drew = .ok (xs.map vB).toArray w.drew := by
     refine run_firstCells_some (P := Tryz.prog) w.drew i.size n ⟨g, 0, none⟩ n c (xs.map vB) (by simp [hlen, hsz]) ?_
     intro j u hj
     exact World.ownsRow.cells (g := g) hown rfl j u hj
    have hr := Lib.run_append_grow_zeros (P := Tryz.prog) w 47 tn ty 5 i _ kq kn ht htn hi hz (some ⟨g, 0, none⟩) n c (xs.map vB) hold k hk (by omega) (by omega) (by omega) (by rw [hby]; omega) (growslice_fits (by omega) (by rw [hby]; omega))
    have hgr := grown c (by omega) (Value.ownBlock (.slice (some ⟨g, 0, none⟩) n c))
    exact ⟨_, _, _, hr, hgr.1, hgr.2⟩
theorem wp_appZ {ops : Array Oper} {rest : List Oper} {o : Oper} {a : Act} {w0 w : World} {Q : Exit → Act → World → Prop} (hgd : o.guard = none) (s x : Operand)
  (ho : o.op = .call { callee := .builtin .append, args := #[s, x], argTypes := #[47, 3] })
  (hb : Below w0.heap.size w0 w) {base : Nat} (hbase : w0.heap.size ≤ base) (hbw : base ≤ w.heap.size) (A : Option Addr) (n c : Nat) (xs : List UInt8) (hs : a.eval s = .slice A n c) (hown : OwnB w base A n c xs)
  (k : Nat) (kq : IntKind) (z : Int) (hx : a.eval x = .int kq z) (hzk : z = (k : Int)) (hm : n + k ≤ 70368744177664) (m : Nat) (zs : List UInt8) (hk : n + k = m) (hz : xs ++ List.replicate k 0 = zs)
  (h : ∀ A' c' w', OwnB w' base A' m c' zs → Below w0.heap.size w0 w' → w.grownBy w' (Value.slice A n c).ownBlock → wpList Tryz.prog ops Q rest (a.put o.dst (.slice A' m c')) w') : wpList Tryz.prog ops Q (o :: rest) a w := by
 subst hk hz hzk
 refine wpList_plain hgd fun K hK => ?_
 obtain ⟨A', c', w', hr, h2, h3⟩ := run_appZ hown o.type 3 .i64 kq Tryz.underlying3 k hm hbw
 unfold Oper.wp execOp
 simp only [ho, resolve, invoke, builtin, Sem.run_bind, Sem.run_pure, Result.andThen_ok, List.map_toArray, List.map_cons, List.map_nil, hs, hx, hr]
 exact hK _ _ (h A' c' w' h2 (hb.grown h3 hb.size (fun q hq => Nat.le_trans hbase (hown.lt q hq).1)) h3)
set_option maxHeartbeats 4000000
theorem dkFew_iff (D : Dk) : dkFew D = true ↔ D.s.length ≤ 300 ∧ D.k.length ≤ 600 ∧ (∀ j, j < D.s.length → (D.s.getD j []).length ≤ 600) ∧ (∀ j, j < D.k.length → (D.k.getD j (0, [])).2.length ≤ 600) := by
 unfold dkFew
 rw [Bool.and_eq_true, Bool.and_eq_true, Bool.and_eq_true, all_getD D.s _ [], all_getD D.k _ (0, [])]
 simp only [decide_eq_true_eq, and_assoc]
theorem dkOk_iff2 (D : Dk) : dkOk D = true ↔ D.s.length ≤ 256 ∧ D.k.length ≤ 512 ∧ (∀ j, j < D.s.length → (D.s.getD j []).length = 256) ∧ (∀ j, j < D.k.length → wLost D.s.length (D.k.getD j (0, [])).1 (D.k.getD j (0, [])).2.length = false) := by
 unfold dkOk
 rw [Bool.and_eq_true, Bool.and_eq_true, Bool.and_eq_true, all_getD D.s _ [], all_getD D.k _ (0, [])]
 have e : ∀ p : Int × List UInt8, ((dkHas D p.1 && decide (p.2.length = 256)) = true) ↔ wLost D.s.length p.1 p.2.length = false := fun p => by
  unfold wLost dkHas
  cases decide (0 ≤ p.1) <;> cases decide (p.1 < (D.s.length : Int)) <;> cases decide (p.2.length = 256) <;> simp
 simp only [decide_eq_true_eq, and_assoc, e]
def LpI (V : World) (n : Nat) (p : Nat → Prop) (v : Value) (wr : World) : Prop := ∃ k : Nat, k ≤ n ∧ v = .int .i64 (k : Int) ∧ (∀ j, j < k → p j) ∧ Below V.heap.size V wr
theorem lp_next {k : Nat} {p : Nat → Prop} (h : ∀ j, j < k → p j) (hk : p k) : ∀ j, j < k + 1 → p j := fun j hj => by
 rcases Nat.lt_or_ge j k with h1 | h1
 ·exact h j h1
 ·obtain rfl : j = k := by omega
  exact hk
theorem refDskFew_any (S : Option Addr) (sn sc : Nat) (K : Option Addr) (kn kc : Nat) (D : Dk) (w : World) (hr : RdDk w S sn sc K kn kc D) :
  Calls Tryz.prog 30 #[.agg #[.slice S sn sc, .slice K kn kc]] w (RetV w (.bool (dkFew D))) := by
 obtain ⟨hn1, hn2, _, _, _, _⟩ := hr.n63
 have hsl := hr.sl
 have hkl := hr.kl
 obtain ⟨V, hV⟩ : ∃ V, V = w.alloc (.cells #[.slice S sn sc, .slice K kn kc] 40) := ⟨_, rfl⟩
 have bV : Below w.heap.size w V := by rw [hV]; exact (below_self w).alloc (Nat.le_refl _) _
 have qV : Hid (DkAt V w.heap.size S sn sc K kn kc) := by rw [hV]; exact Lib.hid (drw_at _ rfl)
 have HV := Lib.hid hV
 clear hV
 have hI := dkFew_iff D
 rw [hsl, hkl] at hI
 have HI := Lib.hid hI
 obtain ⟨P, hP⟩ : ∃ P, dkFew D = P := ⟨_, rfl⟩
 rw [hP] at HI ⊢
 have hF : ∀ (Q : Prop), (P = true → Q) → ¬ Q → P = false := fun Q h1 h2 => by
  cases P with
  | false => rfl
  | true => exact absurd (h1 rfl) h2
 have HF := Lib.hid hF
 have HSL := Lib.hid hsl
 have HKL := Lib.hid hkl
 clear hI hP hF hsl hkl
 by_cases h1 : sn ≤ 300
 ·by_cases h2 : kn ≤ 600
  ·have d1 : decide ((300 : Int) < (sn : Int)) = false := decide_eq_false (by omega)
   have d2 : decide ((600 : Int) < (kn : Int)) = false := decide_eq_false (by omega)
   obtain ⟨⟨vs, hs⟩, us, hk⟩ := hr.below bV
   go_enter Tryz.func30, Tryz.ntmps30
   go_wp2_with fail
   rw [← HV.out]
   go_loopw [3] (LpI V sn (fun j => (D.s.getD j []).length ≤ 600)) (fun i _ => sn - (intOf i).toNat)
   case atStart => exact ⟨0, by omega, rfl, fun j hj => by omega, Below.refl _ _⟩
   case round =>
   obtain ⟨k, hkk, rfl, hp, hB⟩ := hrel
   have HPp := Lib.hid hp
   have j0 := (qV.out.up hB).c0
   have j1 := (qV.out.up hB).c1
   clear hp
   by_cases hlt : k < sn
   ·obtain ⟨b, o, B, m, d, rfl, hb, hc, hy⟩ := (hs.below hB).at_ k hlt
    have hm := hy.n63
    have HM := Lib.hid hy.2.1
    by_cases hg : m ≤ 600
    ·have d3 : decide ((600 : Int) < (m : Int)) = false := decide_eq_false (by omega)
     go_wp2_with fail
     go_roundw
     case rel => exact ⟨k + 1, by omega, by go_num, lp_next HPp.out (by rw [HM.out]; exact hg), hB⟩
     case measure => simp [intOf]; omega
    ·have d3 : decide ((600 : Int) < (m : Int)) = true := decide_eq_true (by omega)
     rw [HF.out _ (fun h => (HI.out.1 h).2.2.1 k hlt) (by rw [HM.out]; exact hg)]
     go_wp2_with fail
     go_ret
     exact ⟨rfl, below_then bV hB⟩
   obtain rfl : sn = k := by omega
   obtain ⟨W1, hW1⟩ : ∃ W : World, W = wr := ⟨_, rfl⟩
   rw [← hW1] at hB j0 j1 ⊢
   clear hW1
   go_wp2_with fail
   go_loopw [4] (LpI V kn (fun j => (D.k.getD j (0, [])).2.length ≤ 600)) (fun i _ => kn - (intOf i).toNat)
   case atStart => exact ⟨0, by omega, rfl, fun j hj => by omega, hB⟩
   case round =>
   obtain ⟨i, hi, rfl, hp, hB⟩ := hrel
   have HPq := Lib.hid hp
   have j0 := (qV.out.up hB).c0
   have j1 := (qV.out.up hB).c1
   clear hp
   by_cases hlt : i < kn
   ·obtain ⟨b, o, B, m, d, rfl, hb, hc0, hc1, hy, hrg⟩ := (hk.below hB).at_ i hlt
    have hm := hy.n63
    have HM := Lib.hid hy.2.1
    by_cases hg : m ≤ 600
    ·have d3 : decide ((600 : Int) < (m : Int)) = false := decide_eq_false (by omega)
     go_wp2_with fail
     go_roundw
     case rel => exact ⟨i + 1, by omega, by go_num, lp_next HPq.out (by rw [HM.out]; exact hg), hB⟩
     case measure => simp [intOf]; omega
    ·have d3 : decide ((600 : Int) < (m : Int)) = true := decide_eq_true (by omega)
     rw [HF.out _ (fun h => (HI.out.1 h).2.2.2 i hlt) (by rw [HM.out]; exact hg)]
     go_wp2_with fail
     go_ret
     exact ⟨rfl, below_then bV hB⟩
   obtain rfl : kn = i := by omega
   go_wp2_with fail
   go_ret
   exact ⟨by rw [HI.out.2 ⟨h1, h2, HPp.out, fun j hj => by have := HPq.out j hj; first | exact this | rwa [HSL.out] at this⟩]; rfl, below_then bV hB⟩
  ·have d1 : decide ((300 : Int) < (sn : Int)) = false := decide_eq_false (by omega)
   have d2 : decide ((600 : Int) < (kn : Int)) = true := decide_eq_true (by omega)
   rw [HF.out _ (fun h => (HI.out.1 h).2.1) h2]
   go_enter Tryz.func30, Tryz.ntmps30
   go_wp2_with fail
   rw [← HV.out]
   go_ret
   exact ⟨rfl, bV⟩
 ·have d1 : decide ((300 : Int) < (sn : Int)) = true := decide_eq_true (by omega)
  rw [HF.out _ (fun h => (HI.out.1 h).1) h1]
  go_enter Tryz.func30, Tryz.ntmps30
  go_wp2_with fail
  rw [← HV.out]
  go_ret
  exact ⟨rfl, bV⟩
theorem refDskCheck_any (S : Option Addr) (sn sc : Nat) (K : Option Addr) (kn kc : Nat) (D : Dk) (w : World) (hr : RdDk w S sn sc K kn kc D) :
  Calls Tryz.prog 73 #[.agg #[.slice S sn sc, .slice K kn kc]] w (RetV w (.bool (dkOk D))) := by
 obtain ⟨hn1, hn2, _, _, _, _⟩ := hr.n63
 have hsl := hr.sl
 have hkl := hr.kl
 obtain ⟨V, hV⟩ : ∃ V, V = w.alloc (.cells #[.slice S sn sc, .slice K kn kc] 40) := ⟨_, rfl⟩
 have bV : Below w.heap.size w V := by rw [hV]; exact (below_self w).alloc (Nat.le_refl _) _
 have qV : Hid (DkAt V w.heap.size S sn sc K kn kc) := by rw [hV]; exact Lib.hid (drw_at _ rfl)
 have HV := Lib.hid hV
 clear hV
 have hI := dkOk_iff2 D
 rw [hsl, hkl] at hI
 have HI := Lib.hid hI
 obtain ⟨P, hP⟩ : ∃ P, dkOk D = P := ⟨_, rfl⟩
 rw [hP] at HI ⊢
 have hF : ∀ (Q : Prop), (P = true → Q) → ¬ Q → P = false := fun Q h1 h2 => by
  cases P with
  | false => rfl
  | true => exact absurd (h1 rfl) h2
 have HF := Lib.hid hF
 have HSL := Lib.hid hsl
 have HKL := Lib.hid hkl
 clear hI hP hF hsl hkl
 by_cases h1 : sn ≤ 256
 ·by_cases h2 : kn ≤ 512
  ·have d1 : decide ((256 : Int) < (sn : Int)) = false := decide_eq_false (by omega)
   have d2 : decide ((512 : Int) < (kn : Int)) = false := decide_eq_false (by omega)
   obtain ⟨⟨vs, hs⟩, us, hk⟩ := hr.below bV
   go_enter Tryz.func73, Tryz.ntmps73
   go_wp2_with fail
   rw [← HV.out]
   go_loopw [3] (LpI V sn (fun j => (D.s.getD j []).length = 256)) (fun i _ => sn - (intOf i).toNat)
   case atStart => exact ⟨0, by omega, rfl, fun j hj => by omega, Below.refl _ _⟩
   case round =>
   obtain ⟨k, hkk, rfl, hp, hB⟩ := hrel
   have HPp := Lib.hid hp
   have j0 := (qV.out.up hB).c0
   have j1 := (qV.out.up hB).c1
   clear hp
   by_cases hlt : k < sn
   ·obtain ⟨b, o, B, m, d, rfl, hb, hc, hy⟩ := (hs.below hB).at_ k hlt
    have hm := hy.n63
    have HM := Lib.hid hy.2.1
    by_cases hg : m = 256
    ·have d3 : ((m : Int) != 256) = false := by simp [hg]
     go_wp2_with fail
     go_roundw
     case rel => exact ⟨k + 1, by omega, by go_num, lp_next HPp.out (by rw [HM.out]; exact hg), hB⟩
     case measure => simp [intOf]; omega
    ·have d3 : ((m : Int) != 256) = true := by rw [bne_iff_ne]; omega
     rw [HF.out _ (fun h => (HI.out.1 h).2.2.1 k hlt) (by rw [HM.out]; exact hg)]
     go_wp2_with fail
     go_ret
     exact ⟨rfl, below_then bV hB⟩
   obtain rfl : sn = k := by omega
   obtain ⟨W1, hW1⟩ : ∃ W : World, W = wr := ⟨_, rfl⟩
   rw [← hW1] at hB j0 j1 ⊢
   clear hW1
   go_wp2_with fail
   go_loopw [4] (LpI V kn (fun j => wLost D.s.length (D.k.getD j (0, [])).1 (D.k.getD j (0, [])).2.length = false)) (fun i _ => kn - (intOf i).toNat)
   case atStart => exact ⟨0, by omega, rfl, fun j hj => by omega, hB⟩
   case round =>
   obtain ⟨i, hi, rfl, hp, hB⟩ := hrel
   have HPq := Lib.hid hp
   have j0 := (qV.out.up hB).c0
   have j1 := (qV.out.up hB).c1
   clear hp
   by_cases hlt : i < kn
   ·obtain ⟨b, o, B, m, d, rfl, hb, hc0, hc1, hy, hrg⟩ := (hk.below hB).at_ i hlt
    have hm := hy.n63
    have HM := Lib.hid hy.2.1
    obtain ⟨a, ha⟩ : ∃ a, (D.k.getD i (0, [])).1 = a := ⟨_, rfl⟩
    rw [ha] at hc0 hrg
    have HA := Lib.hid ha
    have H := Lib.hid (fun W => refDskHas_any S sn sc (some ⟨b, o, none⟩) kn kc a W hn1 hrg)
    have HLo : wLost sn (D.k.getD i (0, [])).1 (D.k.getD i (0, [])).2.length = (!(decide (0 ≤ a) && decide (a < (sn : Int))) || !decide (m = 256)) := by rw [HM.out, ha]; rfl
    have HLO := Lib.hid HLo
    have lq := (qV.out.up hB).lt
    have hbb := hb
    clear ha HLo
    obtain ⟨T, hT⟩ : ∃ T, (decide (0 ≤ a) && decide (a < (sn : Int))) = T := ⟨_, rfl⟩
    rw [hT] at H HLO
    clear hT
    go_wp2_with fail
    cases T with
    | false =>
     have HPF := Lib.hid (HF.out _ (fun h => (HI.out.1 h).2.2.2 i hlt) (by rw [HLO.out]; simp))
     refine wp_region_seg (S := fun w' => Below wr.heap.size wr w') 0 (brw9 19 524287) [(0, true), (1, true), (2, true), (3, true), (4, true), (5, true), (6, true), (7, false), (8, true), (9, true), (10, true), (11, true), (12, true), (13, true), (14, true), (15, true), (16, true), (17, true), (18, true)] (by kernel_rfl) (by kernel_rfl) (fun _ _ d _ _ h => by first | (cases d <;> exact h) | cases h.1) ((Below.refl wr.heap.size wr).drew) ?_
     have HB := (Below.refl wr.heap.size wr).drew
     iterate 7 (refine seg_take (v := ?_) rfl (Or.inl ⟨by rfl, ?_⟩) ?_; rotate_left; (focus (intro w' hw'; have k0 := (hw'.cell (p := ⟨w.heap.size, 0, none⟩) lq).trans j0; have k1 := (hw'.cell (p := ⟨w.heap.size, 1, none⟩) lq).trans j1; have k2 := (hw'.cell (p := ⟨b, o + i * 2, none⟩) hb).trans hc0; have k3 := (hw'.cell (p := ⟨b, o + i * 2 + 1, none⟩) hb).trans hc1; go_simp <;> with_reducible rfl)); try simp only [Act.put, pst3])
     refine seg_run rfl (fun K hK => ?_)
     go_simp
     refine (H.out _).mono ?_
     rintro e w2 ⟨rfl, hb2⟩
     have HB := below_then HB hb2
     refine hK.out _ _ (HB) ?_
     clear hK
     try simp only [Act.put, pst3]
     iterate 2 (refine seg_take (v := ?_) rfl (Or.inl ⟨by rfl, ?_⟩) ?_; rotate_left; (focus (intro w' hw'; have k0 := (hw'.cell (p := ⟨w.heap.size, 0, none⟩) lq).trans j0; have k1 := (hw'.cell (p := ⟨w.heap.size, 1, none⟩) lq).trans j1; have k2 := (hw'.cell (p := ⟨b, o + i * 2, none⟩) hb).trans hc0; have k3 := (hw'.cell (p := ⟨b, o + i * 2 + 1, none⟩) hb).trans hc1; go_simp <;> with_reducible rfl)); try simp only [Act.put, pst3])
     iterate 8 ((first | refine seg_take (v := undef) rfl (Or.inr ⟨by rfl, rfl⟩) ?_ | (refine seg_take (v := ?_) rfl (Or.inl ⟨by rfl, ?_⟩) ?_; rotate_left; (focus (intro w' hw'; have k0 := (hw'.cell (p := ⟨w.heap.size, 0, none⟩) lq).trans j0; have k1 := (hw'.cell (p := ⟨w.heap.size, 1, none⟩) lq).trans j1; have k2 := (hw'.cell (p := ⟨b, o + i * 2, none⟩) hb).trans hc0; have k3 := (hw'.cell (p := ⟨b, o + i * 2 + 1, none⟩) hb).trans hc1; go_simp <;> with_reducible rfl)))); try simp only [Act.put, pst3])
     iterate 1 (refine seg_take (v := ?_) rfl (Or.inl ⟨by rfl, ?_⟩) ?_; rotate_left; (focus (intro w' hw'; have k0 := (hw'.cell (p := ⟨w.heap.size, 0, none⟩) lq).trans j0; have k1 := (hw'.cell (p := ⟨w.heap.size, 1, none⟩) lq).trans j1; have k2 := (hw'.cell (p := ⟨b, o + i * 2, none⟩) hb).trans hc0; have k3 := (hw'.cell (p := ⟨b, o + i * 2 + 1, none⟩) hb).trans hc1; go_simp <;> with_reducible rfl)); try simp only [Act.put, pst3])
     refine seg_done (fun _ => ?_)
     refine wpAnyH_done (by kernel_rfl) ?_ _
     go_wp2_with fail
     go_ret
     exact ⟨by rw [HPF.out]; rfl, below_then (below_then bV hB) HB⟩
    | true =>
     by_cases hg : m = 256
     ·have d3 : ((m : Int) != 256) = false := by simp [hg]
      refine wp_region_seg (S := fun w' => Below wr.heap.size wr w') 0 (brw9 19 524287) [(0, true), (1, true), (2, true), (3, true), (4, true), (5, true), (6, true), (7, false), (8, true), (9, true), (10, true), (11, true), (12, true), (13, true), (14, true), (15, true), (16, true), (17, true), (18, true)] (by kernel_rfl) (by kernel_rfl) (fun _ _ d _ _ h => by first | (cases d <;> exact h) | cases h.1) ((Below.refl wr.heap.size wr).drew) ?_
      have HB := (Below.refl wr.heap.size wr).drew
      iterate 7 (refine seg_take (v := ?_) rfl (Or.inl ⟨by rfl, ?_⟩) ?_; rotate_left; (focus (intro w' hw'; have k0 := (hw'.cell (p := ⟨w.heap.size, 0, none⟩) lq).trans j0; have k1 := (hw'.cell (p := ⟨w.heap.size, 1, none⟩) lq).trans j1; have k2 := (hw'.cell (p := ⟨b, o + i * 2, none⟩) hb).trans hc0; have k3 := (hw'.cell (p := ⟨b, o + i * 2 + 1, none⟩) hb).trans hc1; go_simp <;> with_reducible rfl)); try simp only [Act.put, pst3])
      refine seg_run rfl (fun K hK => ?_)
      go_simp
      refine (H.out _).mono ?_
      rintro e w2 ⟨rfl, hb2⟩
      have HB := below_then HB hb2
      refine hK.out _ _ (HB) ?_
      clear hK
      try simp only [Act.put, pst3]
      iterate 2 (refine seg_take (v := ?_) rfl (Or.inl ⟨by rfl, ?_⟩) ?_; rotate_left; (focus (intro w' hw'; have k0 := (hw'.cell (p := ⟨w.heap.size, 0, none⟩) lq).trans j0; have k1 := (hw'.cell (p := ⟨w.heap.size, 1, none⟩) lq).trans j1; have k2 := (hw'.cell (p := ⟨b, o + i * 2, none⟩) hb).trans hc0; have k3 := (hw'.cell (p := ⟨b, o + i * 2 + 1, none⟩) hb).trans hc1; go_simp <;> with_reducible rfl)); try simp only [Act.put, pst3])
      iterate 8 ((first | refine seg_take (v := undef) rfl (Or.inr ⟨by rfl, rfl⟩) ?_ | (refine seg_take (v := ?_) rfl (Or.inl ⟨by rfl, ?_⟩) ?_; rotate_left; (focus (intro w' hw'; have k0 := (hw'.cell (p := ⟨w.heap.size, 0, none⟩) lq).trans j0; have k1 := (hw'.cell (p := ⟨w.heap.size, 1, none⟩) lq).trans j1; have k2 := (hw'.cell (p := ⟨b, o + i * 2, none⟩) hb).trans hc0; have k3 := (hw'.cell (p := ⟨b, o + i * 2 + 1, none⟩) hb).trans hc1; go_simp <;> with_reducible rfl)))); try simp only [Act.put, pst3])
      iterate 1 (refine seg_take (v := ?_) rfl (Or.inl ⟨by rfl, ?_⟩) ?_; rotate_left; (focus (intro w' hw'; have k0 := (hw'.cell (p := ⟨w.heap.size, 0, none⟩) lq).trans j0; have k1 := (hw'.cell (p := ⟨w.heap.size, 1, none⟩) lq).trans j1; have k2 := (hw'.cell (p := ⟨b, o + i * 2, none⟩) hb).trans hc0; have k3 := (hw'.cell (p := ⟨b, o + i * 2 + 1, none⟩) hb).trans hc1; go_simp <;> with_reducible rfl)); try simp only [Act.put, pst3])
      refine seg_done (fun _ => ?_)
      refine wpAnyH_done (by kernel_rfl) ?_ _
      go_wp2_with fail
      go_roundw
      case rel => exact ⟨i + 1, by omega, by go_num, lp_next HPq.out (by show wLost _ _ _ = false; rw [HSL.out, HLO.out, decide_eq_true hg]; rfl), below_then hB HB⟩
      case measure => simp [intOf]; omega
     ·have d3 : ((m : Int) != 256) = true := by rw [bne_iff_ne]; omega
      have HPF := Lib.hid (HF.out _ (fun h => (HI.out.1 h).2.2.2 i hlt) (by rw [HLO.out, decide_eq_false hg]; simp))
      refine wp_region_seg (S := fun w' => Below wr.heap.size wr w') 0 (brw9 19 524287) [(0, true), (1, true), (2, true), (3, true), (4, true), (5, true), (6, true), (7, false), (8, true), (9, true), (10, true), (11, true), (12, true), (13, true), (14, true), (15, true), (16, true), (17, true), (18, true)] (by kernel_rfl) (by kernel_rfl) (fun _ _ d _ _ h => by first | (cases d <;> exact h) | cases h.1) ((Below.refl wr.heap.size wr).drew) ?_
      have HB := (Below.refl wr.heap.size wr).drew
      iterate 7 (refine seg_take (v := ?_) rfl (Or.inl ⟨by rfl, ?_⟩) ?_; rotate_left; (focus (intro w' hw'; have k0 := (hw'.cell (p := ⟨w.heap.size, 0, none⟩) lq).trans j0; have k1 := (hw'.cell (p := ⟨w.heap.size, 1, none⟩) lq).trans j1; have k2 := (hw'.cell (p := ⟨b, o + i * 2, none⟩) hb).trans hc0; have k3 := (hw'.cell (p := ⟨b, o + i * 2 + 1, none⟩) hb).trans hc1; go_simp <;> with_reducible rfl)); try simp only [Act.put, pst3])
      refine seg_run rfl (fun K hK => ?_)
      go_simp
      refine (H.out _).mono ?_
      rintro e w2 ⟨rfl, hb2⟩
      have HB := below_then HB hb2
      refine hK.out _ _ (HB) ?_
      clear hK
      try simp only [Act.put, pst3]
      iterate 2 (refine seg_take (v := ?_) rfl (Or.inl ⟨by rfl, ?_⟩) ?_; rotate_left; (focus (intro w' hw'; have k0 := (hw'.cell (p := ⟨w.heap.size, 0, none⟩) lq).trans j0; have k1 := (hw'.cell (p := ⟨w.heap.size, 1, none⟩) lq).trans j1; have k2 := (hw'.cell (p := ⟨b, o + i * 2, none⟩) hb).trans hc0; have k3 := (hw'.cell (p := ⟨b, o + i * 2 + 1, none⟩) hb).trans hc1; go_simp <;> with_reducible rfl)); try simp only [Act.put, pst3])
      iterate 8 ((first | refine seg_take (v := undef) rfl (Or.inr ⟨by rfl, rfl⟩) ?_ | (refine seg_take (v := ?_) rfl (Or.inl ⟨by rfl, ?_⟩) ?_; rotate_left; (focus (intro w' hw'; have k0 := (hw'.cell (p := ⟨w.heap.size, 0, none⟩) lq).trans j0; have k1 := (hw'.cell (p := ⟨w.heap.size, 1, none⟩) lq).trans j1; have k2 := (hw'.cell (p := ⟨b, o + i * 2, none⟩) hb).trans hc0; have k3 := (hw'.cell (p := ⟨b, o + i * 2 + 1, none⟩) hb).trans hc1; go_simp <;> with_reducible rfl)))); try simp only [Act.put, pst3])
      iterate 1 (refine seg_take (v := ?_) rfl (Or.inl ⟨by rfl, ?_⟩) ?_; rotate_left; (focus (intro w' hw'; have k0 := (hw'.cell (p := ⟨w.heap.size, 0, none⟩) lq).trans j0; have k1 := (hw'.cell (p := ⟨w.heap.size, 1, none⟩) lq).trans j1; have k2 := (hw'.cell (p := ⟨b, o + i * 2, none⟩) hb).trans hc0; have k3 := (hw'.cell (p := ⟨b, o + i * 2 + 1, none⟩) hb).trans hc1; go_simp <;> with_reducible rfl)); try simp only [Act.put, pst3])
      refine seg_done (fun _ => ?_)
      refine wpAnyH_done (by kernel_rfl) ?_ _
      go_wp2_with fail
      go_ret
      exact ⟨by rw [HPF.out]; rfl, below_then (below_then bV hB) HB⟩
   obtain rfl : kn = i := by omega
   go_wp2_with fail
   go_ret
   exact ⟨by rw [HI.out.2 ⟨h1, h2, HPp.out, fun j hj => by have := HPq.out j hj; first | exact this | rwa [HSL.out] at this⟩]; rfl, below_then bV hB⟩
  ·have d1 : decide ((256 : Int) < (sn : Int)) = false := decide_eq_false (by omega)
   have d2 : decide ((512 : Int) < (kn : Int)) = true := decide_eq_true (by omega)
   rw [HF.out _ (fun h => (HI.out.1 h).2.1) h2]
   go_enter Tryz.func73, Tryz.ntmps73
   go_wp2_with fail
   rw [← HV.out]
   go_ret
   exact ⟨rfl, bV⟩
 ·have d1 : decide ((256 : Int) < (sn : Int)) = true := decide_eq_true (by omega)
  rw [HF.out _ (fun h => (HI.out.1 h).1) h1]
  go_enter Tryz.func73, Tryz.ntmps73
  go_wp2_with fail
  rw [← HV.out]
  go_ret
  exact ⟨rfl, bV⟩
theorem refDskSame_self (S : Option Addr) (sn sc : Nat) (K : Option Addr) (kn kc : Nat) (S2 : Option Addr) (sn2 sc2 : Nat) (K2 : Option Addr) (kn2 kc2 : Nat) (D : Dk) (w : World) (hr : RdDk w S sn sc K kn kc D) (hr2 : RdDk w S2 sn2 sc2 K2 kn2 kc2 D) :
  Calls Tryz.prog 37 #[.agg #[.slice S sn sc, .slice K kn kc], .agg #[.slice S2 sn2 sc2, .slice K2 kn2 kc2]] w (RetV w (.bool true)) := by
 obtain ⟨hn1, hn2, _, _, _, _⟩ := hr.n63
 obtain rfl : sn = sn2 := by rw [← hr.sl, hr2.sl]
 obtain rfl : kn = kn2 := by rw [← hr.kl, hr2.kl]
 obtain ⟨V, hV⟩ : ∃ V, V = (w.alloc (.cells #[.slice S sn sc, .slice K kn kc] 40)).alloc (.cells #[.slice S2 sn sc2, .slice K2 kn kc2] 40) := ⟨_, rfl⟩
 have bV : Below w.heap.size w V := by rw [hV]; exact ((below_self w).alloc (Nat.le_refl _) _).alloc (by simp) _
 have qV : Hid (DkAt V w.heap.size S sn sc K kn kc) := by rw [hV]; exact Lib.hid (drw_old _ (drw_at _ rfl))
 have pV : Hid (DkAt V (w.heap.size + 1) S2 sn sc2 K2 kn kc2) := by rw [hV]; exact Lib.hid (drw_at _ (by simp))
 have HV := Lib.hid hV
 have t1 : ((sn : Int) != (sn : Int)) = false := by simp
 have t2 : ((kn : Int) != (kn : Int)) = false := by simp
 clear hV
 obtain ⟨⟨vs, hs⟩, us, hk⟩ := hr.below bV
 obtain ⟨⟨vs2, hs2⟩, us2, hk2⟩ := hr2.below bV
 go_enter Tryz.func37, Tryz.ntmps37
 go_wp2_with fail
 rw [← HV.out]
 go_loopw [5] (LpI V sn (fun _ => True)) (fun i _ => sn - (intOf i).toNat)
 case atStart => exact ⟨0, by omega, rfl, fun j hj => trivial, Below.refl _ _⟩
 case round =>
 obtain ⟨k, hkk, rfl, -, hB⟩ := hrel
 have j0 := (qV.out.up hB).c0
 have j1 := (qV.out.up hB).c1
 have i0 := (pV.out.up hB).c0
 have i1 := (pV.out.up hB).c1
 by_cases hlt : k < sn
 ·obtain ⟨b, o, B, m, d, rfl, hb, hc, hy⟩ := (hs.below hB).at_ k hlt
  obtain ⟨b2, o2, B2, m2, d2, rfl, hb2, hc2, hy2⟩ := (hs2.below hB).at_ k hlt
  obtain ⟨Z, hZ⟩ : ∃ Z, D.s.getD k [] = Z := ⟨_, rfl⟩
  rw [hZ] at hy hy2
  have s1 := hy.drew.str
  have s2 := hy2.drew.str
  have s3 : ((strOf Z).toList != (strOf Z).toList) = false := by simp
  have l1 : (k : Int) < (sn : Int) := by omega
  clear hZ
  go_wp2_with fail
  refine wp_region_plan (S := fun w' => w' = wr.drew) [(0, true), (1, true), (2, true), (3, true), (4, true), (5, true), (6, true), (7, true), (8, true), (9, true), (10, true), (11, true), (12, true)] (by kernel_rfl) (by kernel_rfl) (fun _ _ d _ _ h => by cases d <;> exact h) (rfl) ?_
  iterate 13 (refine plan_take (v := ?_) rfl (Or.inl ⟨by rfl, ?_⟩) ?_; rotate_left; (focus (intro w' hw'; subst hw'; go_simp <;> with_reducible rfl)); try simp only [Act.put, pst3])
  refine plan_done ?_
  go_wp2_with fail
  go_roundw
  case rel => exact ⟨k + 1, by omega, by go_num, fun _ _ => trivial, hB.drew⟩
  case measure => simp [intOf]; omega
 obtain rfl : sn = k := by omega
 obtain ⟨W1, hW1⟩ : ∃ W : World, W = wr := ⟨_, rfl⟩
 rw [← hW1] at hB j0 j1 i0 i1 ⊢
 clear hW1
 go_wp2_with fail
 go_loopw [6] (LpI V kn (fun _ => True)) (fun i _ => kn - (intOf i).toNat)
 case atStart => exact ⟨0, by omega, rfl, fun j hj => trivial, hB⟩
 case round =>
 obtain ⟨i, hi, rfl, -, hB⟩ := hrel
 have j0 := (qV.out.up hB).c0
 have j1 := (qV.out.up hB).c1
 have i0 := (pV.out.up hB).c0
 have i1 := (pV.out.up hB).c1
 by_cases hlt : i < kn
 ·obtain ⟨b, o, B, m, d, rfl, hb, hc0, hc1, hy, hrg⟩ := (hk.below hB).at_ i hlt
  obtain ⟨b2, o2, B2, m2, d2, rfl, hb2, hd0, hd1, hy2, _⟩ := (hk2.below hB).at_ i hlt
  obtain ⟨Z, hZ⟩ : ∃ Z, D.k.getD i (0, []) = Z := ⟨_, rfl⟩
  rw [hZ] at hy hy2 hc0 hd0
  obtain ⟨a, Z⟩ := Z
  simp only at hy hy2 hc0 hd0
  have s1 := hy.drew.str
  have s2 := hy2.drew.str
  have s3 : ((strOf Z).toList != (strOf Z).toList) = false := by simp
  have s4 : (a != a) = false := by simp
  have l1 : (i : Int) < (kn : Int) := by omega
  clear hZ
  go_wp2_with fail
  refine wp_region_plan (S := fun w' => w' = wr.drew) [(0, true), (1, true), (2, true), (3, true), (4, true), (5, true), (6, true), (7, true), (8, true), (9, true), (10, true), (11, true), (12, true), (13, true), (14, true), (15, true), (16, true), (17, true), (18, true), (19, true), (20, true), (21, true), (22, true), (23, true), (24, true), (25, true), (26, true), (27, true), (28, true), (29, true)] (by kernel_rfl) (by kernel_rfl) (fun _ _ d _ _ h => by cases d <;> exact h) (rfl) ?_
  iterate 14 (refine plan_take (v := ?_) rfl (Or.inl ⟨by rfl, ?_⟩) ?_; rotate_left; (focus (intro w' hw'; subst hw'; go_simp <;> with_reducible rfl)); try simp only [Act.put, pst3])
  iterate 15 ((first | refine plan_take (v := undef) rfl (Or.inr ⟨by rfl, rfl⟩) ?_ | (refine plan_take (v := ?_) rfl (Or.inl ⟨by rfl, ?_⟩) ?_; rotate_left; (focus (intro w' hw'; subst hw'; go_simp <;> with_reducible rfl)))); try simp only [Act.put, pst3])
  iterate 1 (refine plan_take (v := ?_) rfl (Or.inl ⟨by rfl, ?_⟩) ?_; rotate_left; (focus (intro w' hw'; subst hw'; go_simp <;> with_reducible rfl)); try simp only [Act.put, pst3])
  refine plan_done ?_
  go_wp2_with fail
  go_roundw
  case rel => exact ⟨i + 1, by omega, by go_num, fun _ _ => trivial, hB.drew⟩
  case measure => simp [intOf]; omega
 obtain rfl : kn = i := by omega
 go_wp2_with fail
 go_ret
 exact ⟨rfl, below_then bV hB⟩
set_option maxHeartbeats 4000000
theorem down_keepT {w w' : World} {base : Nat} {e : TypeId} {v : Value} {n size : Nat} {xs : List Value} (h : w.ownsRow base e size v n xs) (hk : ∀ (g : Nat) (cur : Array Value), v.ownBlock = some g → w.heap[g]? = some (.cells cur e (0, 0)) → w'.heap[g]? = w.heap[g]?) : w'.ownsRow base e size v n xs := by
 refine ⟨h.1, ?_⟩
 rcases h.2 with h0 | ⟨g, cap, cur, rfl, hb, hg, rest⟩
 ·exact .inl h0
 ·exact .inr ⟨g, cap, cur, rfl, hb, (hk g cur rfl hg).trans hg, rest⟩
theorem down_keep {w w' : World} {base : Nat} {e : TypeId} {v : Value} {n size : Nat} {xs : List Value} (h : w.ownsRow base e size v n xs) (hb : Below w.heap.size w w') : w'.ownsRow base e size v n xs := down_keepT h (fun g _ _ hg => hb.block g (drw_lt hg))
theorem dtyp_ne {w : World} {g h : Nat} {cs ds : Array Value} {T U : TypeId} {f1 f2 : Nat × Nat} (h1 : w.heap[g]? = some (.cells cs T f1)) (h2 : w.heap[h]? = some (.cells ds U f2)) (hne : T ≠ U) : g ≠ h := by
 rintro rfl
 rw [h1] at h2
 injection h2 with h2
 injection h2 with _ h2
 exact hne h2
theorem delemSS : ElemAt Tryz.prog 37 47 (.slice none 0 0) 24 := ⟨Tryz.underlying37, by kernel_rfl, rfl⟩
def OwSS (w : World) (base g n : Nat) (vs : List Value) : Prop := w.ownsRow base 47 1 (.slice (some ⟨g, 0, none⟩) n n) n vs
theorem OwSS.row {w : World} {base g n : Nat} {vs : List Value} (h : OwSS w base g n vs) : ∃ cur, w.heap[g]? = some (.cells cur 47 (0, 0)) := by
 rcases h.2 with ⟨h1, _⟩ | ⟨g', cap, cur, hv, _, hg, _⟩
 ·cases h1
 ·injection hv with hv; injection hv with hv; injection hv with hv; subst hv; exact ⟨cur, hg⟩
theorem OwSS.len {w : World} {base g n : Nat} {vs : List Value} (h : OwSS w base g n vs) : vs.length = n := by have := h.1; omega
theorem OwSS.base {w : World} {base g n : Nat} {vs : List Value} (h : OwSS w base g n vs) : base ≤ g ∧ g < w.heap.size := by
 obtain ⟨cur, hg⟩ := h.row
 rcases h.2 with ⟨h1, _⟩ | ⟨g', cap, cur, hv, hb, _⟩
 ·cases h1
 ·injection hv with hv; injection hv with hv; injection hv with hv; subst hv; exact ⟨hb, drw_lt hg⟩
theorem OwSS.mono {w : World} {base base' g n : Nat} {vs : List Value} (h : OwSS w base g n vs) (hb : base' ≤ base) : OwSS w base' g n vs := own_mono h hb
theorem OwSS.below {w w' : World} {base g n : Nat} {vs : List Value} (h : OwSS w base g n vs) (hb : Below w.heap.size w w') : OwSS w' base g n vs := down_keep h hb
theorem OwSS.set_ {w : World} {base g n : Nat} {vs : List Value} (h : OwSS w base g n vs) (k : Nat) (v : Value) : OwSS (w.setCell ⟨g, k, none⟩ v) base g n (vs.set k v) := (World.ownsRow.stored h k v).1
theorem OwSS.cell {w : World} {base g n : Nat} {vs : List Value} (h : OwSS w base g n vs) (k : Nat) (hk : k < n) : w.cell? ⟨g, k, none⟩ = vs[k]? := World.ownsRow.cellAt h k (by omega)
theorem OwSS.fr {w : World} {base g n : Nat} {vs : List Value} (h : OwSS w base g n vs) (k : Nat) : w.frozen? ⟨g, k, none⟩ = false := World.ownsRow.frozenAt h k
theorem OwSS.rd {w : World} {base g n : Nat} {vs : List Value} (h : OwSS w base g n vs) : Rd w (some ⟨g, 0, none⟩) vs := Rd.of_own h
theorem own_besideSS {w : World} {base base2 g n : Nat} {vs : List Value} (h : OwSS w base g n vs) {A : Option Addr} {m c : Nat} {ys : List UInt8} (hy : OwnB w base2 A m c ys) (k : Nat) (v : Value) : OwnB (w.setCell ⟨g, k, none⟩ v) base2 A m c ys := by
 obtain ⟨cur, hg⟩ := h.row
 exact down_keepT hy (fun g' cur' _ hg' => heap_setCell_other w ⟨g, k, none⟩ g' v (fun e => dtyp_ne hg' hg (by decide) e))
theorem parts_get {w : World} : ∀ {vs : List Value} {yss : List (List UInt8)}, vs.length = yss.length → (∀ k, k < vs.length → ∃ A n c, vs[k]? = some (.slice A n c) ∧ RdB w A n c (yss.getD k [])) → Parts w vs yss
 | [], [], _, _ => trivial
 | v :: vs, ys :: yss, hl, h => by
  obtain ⟨A, n, c, e, hr⟩ := h 0 (by simp)
  refine ⟨⟨A, n, c, by simpa using e, by simpa using hr⟩, parts_get (by simpa using hl) (fun k hk => ?_)⟩
  have := h (k + 1) (by simpa using hk)
  simpa using this
 | [], _ :: _, hl, _ => by simp at hl
 | _ :: _, [], hl, _ => by simp at hl
theorem wp_makeSS {ops : Array Oper} {rest : List Oper} {o : Oper} {a : Act} {w : World} {Q : Exit → Act → World → Prop} (hgd : o.guard = none) (l c : Operand) (ho : o.op = Op.makeSlice 37 l c)
  (kl kc : IntKind) (n : Nat) (hl : a.eval l = .int kl n) (hc : a.eval c = .int kc n) (hn : n ≤ 1000000)
  (h : ∀ w', OwSS w' w.heap.size w.heap.size n (List.replicate n (.slice none 0 0)) → Below w.heap.size w w' → wpList Tryz.prog ops Q rest (a.put o.dst (.slice (some ⟨w.heap.size, 0, none⟩) n n)) w') : wpList Tryz.prog ops Q (o :: rest) a w := by
 obtain ⟨i, hi, hz, hsz, hby⟩ := info_parts delemSS.info
 refine wpList_make_full w hgd l c _ ho w.heap.size _ i _ 1 delemSS.slice hi hz hsz kl kc n n n hl hc rfl rfl (by rw [hby]; omega) (by unfold maxLen; omega) (Nat.le_refl _) (fun w' h1 h2 => h w' ?_ ?_)
 ·unfold OwSS
  rw [Nat.mul_one, show (Value.slice none 0 0).cells = #[Value.slice none 0 0] from rfl, toList_madeCells_one] at h1
  exact h1
 ·exact ⟨h2.os, h2.tape, h2.output, h2.size, fun k hk => h2.block k hk (by simp)⟩
theorem op_makeB {o : Oper} {a : Act} {w : World} {K : Act → World → Prop} {Q : Exit → Act → World → Prop} (l c : Operand) (ho : o.op = Op.makeSlice 47 l c)
  (kl kc : IntKind) (n : Nat) (hl : a.eval l = .int kl n) (hc : a.eval c = .int kc n) (hn : n ≤ 70368744177664)
  (h : ∀ w', OwnB w' w.heap.size (some ⟨w.heap.size, 0, none⟩) n n (List.replicate n 0) → Below w.heap.size w w' → K (a.put o.dst (.slice (some ⟨w.heap.size, 0, none⟩) n n)) w') : o.wp Tryz.prog a w K Q := by
 obtain ⟨i, hi, hz, hsz, hby⟩ := info_parts elemB.info
 obtain ⟨w', hrun, r1, r2⟩ := run_make_full (P := Tryz.prog) w w.heap.size 47 _ i _ 1 elemB.slice hi hz hsz kl kc n (by rw [hby]; omega) (by unfold maxLen; omega) (Nat.le_refl _)
 unfold Oper.wp
 simp [execOp, ho, hl, hc, hrun, Result.andThen]
 refine h w' ?_ ⟨r2.os, r2.tape, r2.output, r2.size, fun k hk => r2.block k hk (by simp)⟩
 unfold OwnB
 have e : (madeCells (Value.int .u8 0).cells (n * 1)).toList = (List.replicate n (0 : UInt8)).map vB := by
  rw [Nat.mul_one, show (Value.int .u8 0).cells = #[Value.int .u8 0] from rfl, toList_madeCells_one, List.map_replicate]; rfl
 rw [← e]
 exact r1
theorem rdDk_nil (w : World) : RdDk w none 0 0 none 0 0 ⟨[], []⟩ := ⟨⟨[], .inl rfl, rfl, Nat.le_refl _, by simp [maxLen], trivial⟩, [], .inl rfl, rfl, Nat.le_refl _, by simp [maxLen], trivial⟩
def SecsI (w0 : World) (g n : Nat) (f : Nat → List UInt8) (i : Nat) (wr : World) : Prop := ∃ vs, OwSS wr w0.heap.size g n vs ∧ ∀ j, j < i → ∃ A m c, vs[j]? = some (.slice A m c) ∧ OwnB wr w0.heap.size A m c (f j)
theorem SecsI.zero {w0 w : World} {g n : Nat} {f : Nat → List UInt8} {vs : List Value} (h : OwSS w w0.heap.size g n vs) : SecsI w0 g n f 0 w := ⟨vs, h, fun j hj => by omega⟩
theorem SecsI.below {w0 w w' : World} {g n i : Nat} {f : Nat → List UInt8} (h : SecsI w0 g n f i w) (hb : Below w.heap.size w w') : SecsI w0 g n f i w' := by
 obtain ⟨vs, h1, h2⟩ := h
 refine ⟨vs, h1.below hb, fun j hj => ?_⟩
 obtain ⟨A, m, c, h3, h4⟩ := h2 j hj
 exact ⟨A, m, c, h3, h4.below hb⟩
theorem SecsI.next {w0 w : World} {g n i : Nat} {f : Nat → List UInt8} (h : SecsI w0 g n f i w) (hi : i < n) {A : Option Addr} {m c : Nat} {ys : List UInt8} (hy : OwnB w w0.heap.size A m c ys) (hf : f i = ys) : SecsI w0 g n f (i + 1) (w.setCell ⟨g, i, none⟩ (.slice A m c)) := by
 obtain ⟨vs, h1, h2⟩ := h
 refine ⟨_, h1.set_ i _, fun j hj => ?_⟩
 rcases Nat.lt_or_ge j i with hj2 | hj2
 ·obtain ⟨A', m', c', h3, h4⟩ := h2 j hj2
  exact ⟨A', m', c', by rw [List.getElem?_set_ne (by omega)]; exact h3, own_besideSS h1 h4 _ _⟩
 ·obtain rfl : j = i := by omega
  exact ⟨A, m, c, by rw [List.getElem?_set_self (by rw [h1.len]; exact hi)], by rw [hf]; exact own_besideSS h1 hy _ _⟩
theorem SecsI.cells {w0 w : World} {g n i : Nat} {f : Nat → List UInt8} (h : SecsI w0 g n f i w) (k : Nat) (hk : k < n) : (∃ v, w.cell? ⟨g, k, none⟩ = some v) ∧ w.frozen? ⟨g, k, none⟩ = false := by
 obtain ⟨vs, h1, h2⟩ := h
 refine ⟨?_, h1.fr k⟩
 rw [h1.cell k hk, List.getElem?_eq_getElem (by rw [h1.len]; exact hk)]
 exact ⟨_, rfl⟩
theorem SecsI.done {w0 w : World} {g n : Nat} {f : Nat → List UInt8} (h : SecsI w0 g n f n w) (hn : n ≤ 1000000) : ∃ vs, RdSS w (some ⟨g, 0, none⟩) n n vs ((List.range n).map f) := by
 obtain ⟨vs, h1, h2⟩ := h
 refine ⟨vs, h1.rd, h1.len, Nat.le_refl _, by unfold maxLen; omega, parts_get (by simp [h1.len]) (fun k hk => ?_)⟩
 rw [h1.len] at hk
 obtain ⟨A, m, c, h3, h4⟩ := h2 k hk
 exact ⟨A, m, c, h3, by simpa [List.getD, hk] using h4.rd⟩
theorem SecsI.lt {w0 w : World} {g n i : Nat} {f : Nat → List UInt8} (h : SecsI w0 g n f i w) : w0.heap.size ≤ g ∧ g < w.heap.size := by
 obtain ⟨vs, h1, h2⟩ := h; exact h1.base
end Go.Proofs.YtpahicfnhhhifaaGreat
