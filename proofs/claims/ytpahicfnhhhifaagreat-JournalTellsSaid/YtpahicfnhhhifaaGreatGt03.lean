/-
 Proved here, for the statement JournalTells:
 'append(s, make([]byte, k)...)' where s is owned.
 Layer 5: disks (the document): Few, Check, Same (of equal ones); a sector full o
-/
import Derived.Maps.Own
import Derived.Maps.Views
import Derived.Deep.SlicePairs
import Derived.Deep.Grids
import Derived.Test.YtpahicfnhhhifaaGreatGt02
set_option linter.unusedVariables false
set_option linter.unusedSimpArgs false
namespace Go.Proofs.YtpahicfnhhhifaaGreat
set_option maxRecDepth 20000
open Go.RowKit
theorem zeros_u8 (k : Nat) : (Builtin.zeroCells (Value.int .u8 0).cells k).toList = (List.replicate k (0 : UInt8)).map vB := by
 rw [show (Value.int .u8 0).cells = #[Value.int .u8 0] from rfl]
 apply List.ext_getElem
 ·simp [Builtin.zeroCells]
 ·intro i h1 h2
  simp [Builtin.zeroCells, vB, Nat.mod_one]
theorem run_appZ {w : World} {base n c : Nat} {A : Option Addr} {xs : List UInt8} (hown : OwnB w base A n c xs) (ty tn : TypeId) (kn kq : IntKind) (htn : Tryz.prog.underlying tn = some (.int kn)) (k : Nat) (hm : n + k ≤ 70368744177664) (hbase : base ≤ w.heap.size) :
  ∃ A' c' w', (Builtin.append_ #[47, tn] ty #[.slice A n c, .int kq k]).run Tryz.prog w = .ok (.slice A' (n + k) c') w' ∧ OwnB w' base A' (n + k) c' (xs ++ List.replicate k 0) ∧ w.grownBy w' (Value.slice A n c).ownBlock := by
 obtain ⟨i, hi, hz, hsz, hby⟩ := info_parts elemB.info
 have ht := elemB.slice
 have hlen := hown.len
 have hw : IntKind.i64.wrap (k : Int) = k := by rw [IntKind.wrap_i64]; omega
 have hneg : ¬ ((k : Int) < 0) := by omega
 have h48i : ¬ (281474976710656 < (k : Int) * (i.bytes : Int)) := by rw [hby]; omega
 rcases Nat.eq_zero_or_pos k with rfl | hk
 ·refine ⟨A, c, w, ?_, by simpa using hown, World.grownBy.refl _ _⟩
  have hnc : n ≤ c := hown.rd.2.2.1
  have hw0 : IntKind.i64.wrap 0 = 0 := by decide
  cases A with
  | none => simp [Builtin.append_, run_underlying ht, run_underlying htn, sizeOf, typeInfo, zeroValue, hi, hz, asInt, asIntOf, hnc, Builtin.lenOf, hw0]
  | some a => simp [Builtin.append_, run_underlying ht, run_underlying htn, sizeOf, typeInfo, zeroValue, hi, hz, asInt, asIntOf, hnc, Builtin.lenOf, hw0, storeCells]
 ·have grown : ∀ (old : Nat), old < n + k → ∀ (row : Option Nat),
    OwnB (w.drew.alloc (.cells ((xs.map vB).toArray ++ Builtin.zeroCells (Value.int .u8 0).cells k ++ Builtin.zeroCells (Value.int .u8 0).cells (grownCap w (n + k) old 5 - (n + k))) 5)) base (some ⟨w.heap.size, 0, none⟩) (n + k) (grownCap w (n + k) old 5) (xs ++ List.replicate k 0) ∧
    w.grownBy (w.drew.alloc (.cells ((xs.map vB).toArray ++ Builtin.zeroCells (Value.int .u8 0).cells k ++ Builtin.zeroCells (Value.int .u8 0).cells (grownCap w (n + k) old 5 - (n + k))) 5)) row := by
   intro old ho row
   have hge := grownCap_ge w (n + k) old 5
   have hcm : grownCap w (n + k) old 5 ≤ maxLen := grownCap_le_maxLen w (n + k) old 5 (by unfold maxLen; omega)
   refine ⟨⟨by simp [hlen], .inr ⟨w.heap.size, _, _, rfl, hbase, heap_alloc_new w.drew _, hge, hcm, ?_, ?_⟩⟩, ⟨rfl, rfl, rfl, by simp, fun j hj _ => Below.heap_alloc w.drew _ j hj⟩⟩
   ·simp only [Array.size_append, List.size_toArray, size_zeroCells, List.length_map, hlen, show (Value.int .u8 0).cells.size = 1 from rfl]
    omega
   ·simp only [Array.toList_append, zeros_u8, List.append_assoc, Nat.mul_one]
    rw [← List.append_assoc, ← List.map_append]
    rw [List.take_left' (by simp [hlen])]
  rcases hown.2 with ⟨he, h0⟩ | ⟨g, cap, cur, he, hbg, hg, hnc, hcm, hcs, htake⟩
  ·injection he with e1 e2 e3
   subst e1 e2 e3
   have hx : xs = [] := List.eq_nil_of_length_eq_zero hlen
   subst hx
   have hr := Lib.run_append_nil_zeros (P := Tryz.prog) w 47 tn ty 5 i _ kq kn ht htn hi hz k hk (by omega) (by omega) (by rw [hby]; omega)
   have hgr := grown 0 (by omega) (Value.ownBlock (.slice none 0 0))
   simp only [Nat.zero_add, List.nil_append, List.map_nil, Array.empty_append] at hgr ⊢
   exact ⟨_, _, _, hr, hgr.1, hgr.2⟩
  ·injection he with e1 e2 e3
   subst e1 e3
   by_cases hroom : n + k ≤ c
   ·rw [Nat.mul_one] at hcs htake
    have hst := run_storeCells_at Tryz.prog g n 5 (Builtin.zeroCells (Value.int .u8 0).cells k).toList 0 cur w hg (by rw [zeros_u8]; simp; omega) (by rw [zeros_u8]; exact oneCell_vB _)
    simp only [Nat.add_zero] at hst
    refine ⟨some ⟨g, 0, none⟩, c, w.setRow g (cur.toList.take n ++ (Builtin.zeroCells (Value.int .u8 0).cells k).toList ++ cur.toList.drop (n + (Builtin.zeroCells (Value.int .u8 0).cells k).toList.length)).toArray, ?_, ⟨by simp [hlen], .inr ⟨g, c, _, rfl, hbg, setRow_heap w g cur _ 5 _ hg, hroom, hcm, ?_, ?_⟩⟩, ⟨rfl, rfl, rfl, by simp, fun j _ hj => setRow_other w g j _ (fun e => hj (by simp [Value.ownBlock, e]))⟩⟩
    ·have hk0 : ¬ k = 0 := by omega
     have hks : ¬ (k * i.size = 0) := Nat.mul_ne_zero hk0 (by omega)
     simp [Builtin.append_, run_underlying ht, run_underlying htn, sizeOf, typeInfo, zeroValue, hi, hz, asInt, asIntOf, hw, hneg, h48i, hks, hroom, Addr.add_lit, hsz, hk0]
     simp at hst
     rw [hst]
     simp
    ·rw [zeros_u8]; simp; omega
    ·rw [htake, Nat.mul_one, zeros_u8, ← List.map_append, List.take_left' (by simp [hlen])]
   ·have hrd := hown.rd.1
    have hold : (Builtin.firstCells i.size n (.slice (some ⟨g, 0, none⟩) n c)).run Tryz.prog w.drew = .ok (xs.map vB).toArray w.drew := by
     refine run_firstCells_some (P := Tryz.prog) w.drew i.size n ⟨g, 0, none⟩ n c (xs.map vB) (by simp [hlen, hsz]) ?_
     intro j u hj
     exact World.ownsRow.cells (g := g) hown rfl j u hj
    have hr := Lib.run_append_grow_zeros (P := Tryz.prog) w 47 tn ty 5 i _ kq kn ht htn hi hz (some ⟨g, 0, none⟩) n c (xs.map vB) hold k hk (by omega) (by omega) (by omega) (by rw [hby]; omega) (growslice_fits (by omega) (by rw [hby]; omega))
    have hgr := grown c (by omega) (Value.ownBlock (.slice (some ⟨g, 0, none⟩) n c))
    exact ⟨_, _, _, hr, hgr.1, hgr.2⟩
theorem wp_appZ {ops : Array Oper} {rest : List Oper} {o : Oper} {a : Act} {w0 w : World} {Q : Exit → Act → World → Prop} (hgd : o.guard = none) (s x : Operand)
  (ho : o.op = .call { callee := .builtin .append, args := #[s, x], argTypes := #[47, 3] })
  (hb : Below w0.heap.size w0 w) {base : Nat} (hbase : w0.heap.size ≤ base) (hbw : base ≤ w.heap.size) (A : Option Addr) (n c : Nat) (xs : List UInt8) (hs : a.eval s = .slice A n c) (hown : OwnB w base A n c xs)
  (k : Nat) (kq : IntKind) (z : Int) (hx : a.eval x = .int kq z) (hzk : z = (k : Int)) (hm : n + k ≤ 70368744177664) (m : Nat) (zs : List UInt8) (hk : n + k = m) (hz : xs ++ List.replicate k 0 = zs)
  (h : ∀ A' c' w', OwnB w' base A' m c' zs → Below w0.heap.size w0 w' → w.grownBy w' (Value.slice A n c).ownBlock → wpList Tryz.prog ops Q rest (a.put o.dst (.slice A' m c')) w') : wpList Tryz.prog ops Q (o :: rest) a w := by
 subst hk hz hzk
 refine wpList_plain hgd fun K hK => ?_
 obtain ⟨A', c', w', hr, h2, h3⟩ := run_appZ hown o.type 3 .i64 kq Tryz.underlying3 k hm hbw
 unfold Oper.wp execOp
 simp only [ho, resolve, invoke, builtin, Sem.run_bind, Sem.run_pure, Result.andThen_ok, List.map_toArray, List.map_cons, List.map_nil, hs, hx, hr]
 exact hK _ _ (h A' c' w' h2 (hb.grown h3 hb.size (fun q hq => Nat.le_trans hbase (hown.lt q hq).1)) h3)
set_option maxHeartbeats 4000000
theorem dkOk_iff2 (D : Dk) : dkOk D = true ↔ D.s.length ≤ 256 ∧ D.k.length ≤ 512 ∧ (∀ j, j < D.s.length → (D.s.getD j []).length = 256) ∧ (∀ j, j < D.k.length → wLost D.s.length (D.k.getD j (0, [])).1 (D.k.getD j (0, [])).2.length = false) := by
 unfold dkOk
 rw [Bool.and_eq_true, Bool.and_eq_true, Bool.and_eq_true, all_getD D.s _ [], all_getD D.k _ (0, [])]
 have e : ∀ p : Int × List UInt8, ((dkHas D p.1 && decide (p.2.length = 256)) = true) ↔ wLost D.s.length p.1 p.2.length = false := fun p => by
  unfold wLost dkHas
  cases decide (0 ≤ p.1) <;> cases decide (p.1 < (D.s.length : Int)) <;> cases decide (p.2.length = 256) <;> simp
 simp only [decide_eq_true_eq, and_assoc, e]
def LpI (V : World) (n : Nat) (p : Nat → Prop) (v : Value) (wr : World) : Prop := ∃ k : Nat, k ≤ n ∧ v = .int .i64 (k : Int) ∧ (∀ j, j < k → p j) ∧ Below V.heap.size V wr
theorem lp_next {k : Nat} {p : Nat → Prop} (h : ∀ j, j < k → p j) (hk : p k) : ∀ j, j < k + 1 → p j := fun j hj => by
 rcases Nat.lt_or_ge j k with h1 | h1
 ·exact h j h1
 ·obtain rfl : j = k := by omega
  exact hk
theorem refDskCheck_any (S : Option Addr) (sn sc : Nat) (K : Option Addr) (kn kc : Nat) (D : Dk) (w : World) (hr : RdDk w S sn sc K kn kc D) :
  Calls Tryz.prog 73 #[.agg #[.slice S sn sc, .slice K kn kc]] w (RetV w (.bool (dkOk D))) := by
 obtain ⟨hn1, hn2, _, _, _, _⟩ := hr.n63
 have hsl := hr.sl
 have hkl := hr.kl
 obtain ⟨V, hV⟩ : ∃ V, V = w.alloc (.cells #[.slice S sn sc, .slice K kn kc] 40) := ⟨_, rfl⟩
 have bV : Below w.heap.size w V := by rw [hV]; exact (below_self w).alloc (Nat.le_refl _) _
 have qV : Hid (DkAt V w.heap.size S sn sc K kn kc) := by rw [hV]; exact Lib.hid (drw_at _ rfl)
 have HV := Lib.hid hV
 clear hV
 have hI := dkOk_iff2 D
 rw [hsl, hkl] at hI
 have HI := Lib.hid hI
 obtain ⟨P, hP⟩ : ∃ P, dkOk D = P := ⟨_, rfl⟩
 rw [hP] at HI ⊢
 have hF : ∀ (Q : Prop), (P = true → Q) → ¬ Q → P = false := fun Q h1 h2 => by
  cases P with
  | false => rfl
  | true => exact absurd (h1 rfl) h2
 have HF := Lib.hid hF
 have HSL := Lib.hid hsl
 have HKL := Lib.hid hkl
 clear hI hP hF hsl hkl
 by_cases h1 : sn ≤ 256
 ·by_cases h2 : kn ≤ 512
  ·have d1 : decide ((256 : Int) < (sn : Int)) = false := decide_eq_false (by omega)
   have d2 : decide ((512 : Int) < (kn : Int)) = false := decide_eq_false (by omega)
   obtain ⟨⟨vs, hs⟩, us, hk⟩ := hr.below bV
   go_enter Tryz.func73, Tryz.ntmps73
   go_wp2_with fail
   rw [← HV.out]
   go_loopw [3] (LpI V sn (fun j => (D.s.getD j []).length = 256)) (fun i _ => sn - (intOf i).toNat)
   case atStart => exact ⟨0, by omega, rfl, fun j hj => by omega, Below.refl _ _⟩
   case round =>
   obtain ⟨k, hkk, rfl, hp, hB⟩ := hrel
   have HPp := Lib.hid hp
   have j0 := (qV.out.up hB).c0
   have j1 := (qV.out.up hB).c1
   clear hp
   by_cases hlt : k < sn
   ·obtain ⟨b, o, B, m, d, rfl, hb, hc, hy⟩ := (hs.below hB).at_ k hlt
    have hm := hy.n63
    have HM := Lib.hid hy.2.1
    by_cases hg : m = 256
    ·have d3 : ((m : Int) != 256) = false := by simp [hg]
     go_wp2_with fail
     go_roundw
     case rel => exact ⟨k + 1, by omega, by go_num, lp_next HPp.out (by rw [HM.out]; exact hg), hB⟩
     case measure => simp [intOf]; omega
    ·have d3 : ((m : Int) != 256) = true := by rw [bne_iff_ne]; omega
     rw [HF.out _ (fun h => (HI.out.1 h).2.2.1 k hlt) (by rw [HM.out]; exact hg)]
     go_wp2_with fail
     go_ret
     exact ⟨rfl, below_then bV hB⟩
   obtain rfl : sn = k := by omega
   obtain ⟨W1, hW1⟩ : ∃ W : World, W = wr := ⟨_, rfl⟩
   rw [← hW1] at hB j0 j1 ⊢
   clear hW1
   go_wp2_with fail
   go_loopw [4] (LpI V kn (fun j => wLost D.s.length (D.k.getD j (0, [])).1 (D.k.getD j (0, [])).2.length = false)) (fun i _ => kn - (intOf i).toNat)
   case atStart => exact ⟨0, by omega, rfl, fun j hj => by omega, hB⟩
   case round =>
   obtain ⟨i, hi, rfl, hp, hB⟩ := hrel
   have HPq := Lib.hid hp
   have j0 := (qV.out.up hB).c0
   have j1 := (qV.out.up hB).c1
   clear hp
   by_cases hlt : i < kn
   ·obtain ⟨b, o, B, m, d, rfl, hb, hc0, hc1, hy, hrg⟩ := (hk.below hB).at_ i hlt
    have hm := hy.n63
    have HM := Lib.hid hy.2.1
    obtain ⟨a, ha⟩ : ∃ a, (D.k.getD i (0, [])).1 = a := ⟨_, rfl⟩
    rw [ha] at hc0 hrg
    have HA := Lib.hid ha
    have H := Lib.hid (fun W => refDskHas_any S sn sc (some ⟨b, o, none⟩) kn kc a W hn1 hrg)
    have HLo : wLost sn (D.k.getD i (0, [])).1 (D.k.getD i (0, [])).2.length = (!(decide (0 ≤ a) && decide (a < (sn : Int))) || !decide (m = 256)) := by rw [HM.out, ha]; rfl
    have HLO := Lib.hid HLo
    have lq := (qV.out.up hB).lt
    have hbb := hb
    clear ha HLo
    obtain ⟨T, hT⟩ : ∃ T, (decide (0 ≤ a) && decide (a < (sn : Int))) = T := ⟨_, rfl⟩
    rw [hT] at H HLO
    clear hT
    go_wp2_with fail
    cases T with
    | false =>
     have HPF := Lib.hid (HF.out _ (fun h => (HI.out.1 h).2.2.2 i hlt) (by rw [HLO.out]; simp))
     refine wp_region_seg (S := fun w' => Below wr.heap.size wr w') 0 (brw9 19 524287) [(0, true), (1, true), (2, true), (3, true), (4, true), (5, true), (6, true), (7, false), (8, true), (9, true), (10, true), (11, true), (12, true), (13, true), (14, true), (15, true), (16, true), (17, true), (18, true)] (by kernel_rfl) (by kernel_rfl) (fun _ _ d _ _ h => by first | (cases d <;> exact h) | cases h.1) ((Below.refl wr.heap.size wr).drew) ?_
     have HB := (Below.refl wr.heap.size wr).drew
     iterate 7 (refine seg_take (v := ?_) rfl (Or.inl ⟨by rfl, ?_⟩) ?_; rotate_left; (focus (intro w' hw'; have k0 := (hw'.cell (p := ⟨w.heap.size, 0, none⟩) lq).trans j0; have k1 := (hw'.cell (p := ⟨w.heap.size, 1, none⟩) lq).trans j1; have k2 := (hw'.cell (p := ⟨b, o + i * 2, none⟩) hb).trans hc0; have k3 := (hw'.cell (p := ⟨b, o + i * 2 + 1, none⟩) hb).trans hc1; go_simp <;> with_reducible rfl)); try simp only [Act.put, pst3])
     refine seg_run rfl (fun K hK => ?_)
     go_simp
     refine (H.out _).mono ?_
     rintro e w2 ⟨rfl, hb2⟩
     have HB := below_then HB hb2
     refine hK.out _ _ (HB) ?_
     clear hK
     try simp only [Act.put, pst3]
     iterate 2 (refine seg_take (v := ?_) rfl (Or.inl ⟨by rfl, ?_⟩) ?_; rotate_left; (focus (intro w' hw'; have k0 := (hw'.cell (p := ⟨w.heap.size, 0, none⟩) lq).trans j0; have k1 := (hw'.cell (p := ⟨w.heap.size, 1, none⟩) lq).trans j1; have k2 := (hw'.cell (p := ⟨b, o + i * 2, none⟩) hb).trans hc0; have k3 := (hw'.cell (p := ⟨b, o + i * 2 + 1, none⟩) hb).trans hc1; go_simp <;> with_reducible rfl)); try simp only [Act.put, pst3])
     iterate 8 ((first | refine seg_take (v := undef) rfl (Or.inr ⟨by rfl, rfl⟩) ?_ | (refine seg_take (v := ?_) rfl (Or.inl ⟨by rfl, ?_⟩) ?_; rotate_left; (focus (intro w' hw'; have k0 := (hw'.cell (p := ⟨w.heap.size, 0, none⟩) lq).trans j0; have k1 := (hw'.cell (p := ⟨w.heap.size, 1, none⟩) lq).trans j1; have k2 := (hw'.cell (p := ⟨b, o + i * 2, none⟩) hb).trans hc0; have k3 := (hw'.cell (p := ⟨b, o + i * 2 + 1, none⟩) hb).trans hc1; go_simp <;> with_reducible rfl)))); try simp only [Act.put, pst3])
     iterate 1 (refine seg_take (v := ?_) rfl (Or.inl ⟨by rfl, ?_⟩) ?_; rotate_left; (focus (intro w' hw'; have k0 := (hw'.cell (p := ⟨w.heap.size, 0, none⟩) lq).trans j0; have k1 := (hw'.cell (p := ⟨w.heap.size, 1, none⟩) lq).trans j1; have k2 := (hw'.cell (p := ⟨b, o + i * 2, none⟩) hb).trans hc0; have k3 := (hw'.cell (p := ⟨b, o + i * 2 + 1, none⟩) hb).trans hc1; go_simp <;> with_reducible rfl)); try simp only [Act.put, pst3])
     refine seg_done (fun _ => ?_)
     refine wpAnyH_done (by kernel_rfl) ?_ _
     go_wp2_with fail
     go_ret
     exact ⟨by rw [HPF.out]; rfl, below_then (below_then bV hB) HB⟩
    | true =>
     by_cases hg : m = 256
     ·have d3 : ((m : Int) != 256) = false := by simp [hg]
      refine wp_region_seg (S := fun w' => Below wr.heap.size wr w') 0 (brw9 19 524287) [(0, true), (1, true), (2, true), (3, true), (4, true), (5, true), (6, true), (7, false), (8, true), (9, true), (10, true), (11, true), (12, true), (13, true), (14, true), (15, true), (16, true), (17, true), (18, true)] (by kernel_rfl) (by kernel_rfl) (fun _ _ d _ _ h => by first | (cases d <;> exact h) | cases h.1) ((Below.refl wr.heap.size wr).drew) ?_
      have HB := (Below.refl wr.heap.size wr).drew
      iterate 7 (refine seg_take (v := ?_) rfl (Or.inl ⟨by rfl, ?_⟩) ?_; rotate_left; (focus (intro w' hw'; have k0 := (hw'.cell (p := ⟨w.heap.size, 0, none⟩) lq).trans j0; have k1 := (hw'.cell (p := ⟨w.heap.size, 1, none⟩) lq).trans j1; have k2 := (hw'.cell (p := ⟨b, o + i * 2, none⟩) hb).trans hc0; have k3 := (hw'.cell (p := ⟨b, o + i * 2 + 1, none⟩) hb).trans hc1; go_simp <;> with_reducible rfl)); try simp only [Act.put, pst3])
      refine seg_run rfl (fun K hK => ?_)
      go_simp
      refine (H.out _).mono ?_
      rintro e w2 ⟨rfl, hb2⟩
      have HB := below_then HB hb2
      refine hK.out _ _ (HB) ?_
      clear hK
      try simp only [Act.put, pst3]
      iterate 2 (refine seg_take (v := ?_) rfl (Or.inl ⟨by rfl, ?_⟩) ?_; rotate_left; (focus (intro w' hw'; have k0 := (hw'.cell (p := ⟨w.heap.size, 0, none⟩) lq).trans j0; have k1 := (hw'.cell (p := ⟨w.heap.size, 1, none⟩) lq).trans j1; have k2 := (hw'.cell (p := ⟨b, o + i * 2, none⟩) hb).trans hc0; have k3 := (hw'.cell (p := ⟨b, o + i * 2 + 1, none⟩) hb).trans hc1; go_simp <;> with_reducible rfl)); try simp only [Act.put, pst3])
      iterate 8 ((first | refine seg_take (v := undef) rfl (Or.inr ⟨by rfl, rfl⟩) ?_ | (refine seg_take (v := ?_) rfl (Or.inl ⟨by rfl, ?_⟩) ?_; rotate_left; (focus (intro w' hw'; have k0 := (hw'.cell (p := ⟨w.heap.size, 0, none⟩) lq).trans j0; have k1 := (hw'.cell (p := ⟨w.heap.size, 1, none⟩) lq).trans j1; have k2 := (hw'.cell (p := ⟨b, o + i * 2, none⟩) hb).trans hc0; have k3 := (hw'.cell (p := ⟨b, o + i * 2 + 1, none⟩) hb).trans hc1; go_simp <;> with_reducible rfl)))); try simp only [Act.put, pst3])
      iterate 1 (refine seg_take (v := ?_) rfl (Or.inl ⟨by rfl, ?_⟩) ?_; rotate_left; (focus (intro w' hw'; have k0 := (hw'.cell (p := ⟨w.heap.size, 0, none⟩) lq).trans j0; have k1 := (hw'.cell (p := ⟨w.heap.size, 1, none⟩) lq).trans j1; have k2 := (hw'.cell (p := ⟨b, o + i * 2, none⟩) hb).trans hc0; have k3 := (hw'.cell (p := ⟨b, o + i * 2 + 1, none⟩) hb).trans hc1; go_simp <;> with_reducible rfl)); try simp only [Act.put, pst3])
      refine seg_done (fun _ => ?_)
      refine wpAnyH_done (by kernel_rfl) ?_ _
      go_wp2_with fail
      go_roundw
      case rel => exact ⟨i + 1, by omega, by go_num, lp_next HPq.out (by show wLost _ _ _ = false; rw [HSL.out, HLO.out, decide_eq_true hg]; rfl), below_then hB HB⟩
      case measure => simp [intOf]; omega
     ·have d3 : ((m : Int) != 256) = true := by rw [bne_iff_ne]; omega
      have HPF := Lib.hid (HF.out _ (fun h => (HI.out.1 h).2.2.2 i hlt) (by rw [HLO.out, decide_eq_false hg]; simp))
      refine wp_region_seg (S := fun w' => Below wr.heap.size wr w') 0 (brw9 19 524287) [(0, true), (1, true), (2, true), (3, true), (4, true), (5, true), (6, true), (7, false), (8, true), (9, true), (10, true), (11, true), (12, true), (13, true), (14, true), (15, true), (16, true), (17, true), (18, true)] (by kernel_rfl) (by kernel_rfl) (fun _ _ d _ _ h => by first | (cases d <;> exact h) | cases h.1) ((Below.refl wr.heap.size wr).drew) ?_
      have HB := (Below.refl wr.heap.size wr).drew
      iterate 7 (refine seg_take (v := ?_) rfl (Or.inl ⟨by rfl, ?_⟩) ?_; rotate_left; (focus (intro w' hw'; have k0 := (hw'.cell (p := ⟨w.heap.size, 0, none⟩) lq).trans j0; have k1 := (hw'.cell (p := ⟨w.heap.size, 1, none⟩) lq).trans j1; have k2 := (hw'.cell (p := ⟨b, o + i * 2, none⟩) hb).trans hc0; have k3 := (hw'.cell (p := ⟨b, o + i * 2 + 1, none⟩) hb).trans hc1; go_simp <;> with_reducible rfl)); try simp only [Act.put, pst3])
      refine seg_run rfl (fun K hK => ?_)
      go_simp
      refine (H.out _).mono ?_
      rintro e w2 ⟨rfl, hb2⟩
      have HB := below_then HB hb2
      refine hK.out _ _ (HB) ?_
      clear hK
      try simp only [Act.put, pst3]
      iterate 2 (refine seg_take (v := ?_) rfl (Or.inl ⟨by rfl, ?_⟩) ?_; rotate_left; (focus (intro w' hw'; have k0 := (hw'.cell (p := ⟨w.heap.size, 0, none⟩) lq).trans j0; have k1 := (hw'.cell (p := ⟨w.heap.size, 1, none⟩) lq).trans j1; have k2 := (hw'.cell (p := ⟨b, o + i * 2, none⟩) hb).trans hc0; have k3 := (hw'.cell (p := ⟨b, o + i * 2 + 1, none⟩) hb).trans hc1; go_simp <;> with_reducible rfl)); try simp only [Act.put, pst3])
      iterate 8 ((first | refine seg_take (v := undef) rfl (Or.inr ⟨by rfl, rfl⟩) ?_ | (refine seg_take (v := ?_) rfl (Or.inl ⟨by rfl, ?_⟩) ?_; rotate_left; (focus (intro w' hw'; have k0 := (hw'.cell (p := ⟨w.heap.size, 0, none⟩) lq).trans j0; have k1 := (hw'.cell (p := ⟨w.heap.size, 1, none⟩) lq).trans j1; have k2 := (hw'.cell (p := ⟨b, o + i * 2, none⟩) hb).trans hc0; have k3 := (hw'.cell (p := ⟨b, o + i * 2 + 1, none⟩) hb).trans hc1; go_simp <;> with_reducible rfl)))); try simp only [Act.put, pst3])
      iterate 1 (refine seg_take (v := ?_) rfl (Or.inl ⟨by rfl, ?_⟩) ?_; rotate_left; (focus (intro w' hw'; have k0 := (hw'.cell (p := ⟨w.heap.size, 0, none⟩) lq).trans j0; have k1 := (hw'.cell (p := ⟨w.heap.size, 1, none⟩) lq).trans j1; have k2 := (hw'.cell (p := ⟨b, o + i * 2, none⟩) hb).trans hc0; have k3 := (hw'.cell (p := ⟨b, o + i * 2 + 1, none⟩) hb).trans hc1; go_simp <;> with_reducible rfl)); try simp only [Act.put, pst3])
      refine seg_done (fun _ => ?_)
      refine wpAnyH_done (by kernel_rfl) ?_ _
      go_wp2_with fail
      go_ret
      exact ⟨by rw [HPF.out]; rfl, below_then (below_then bV hB) HB⟩
   obtain rfl : kn = i := by omega
   go_wp2_with fail
   go_ret
   exact ⟨by rw [HI.out.2 ⟨h1, h2, HPp.out, fun j hj => by have := HPq.out j hj; first | exact this | rwa [HSL.out] at this⟩]; rfl, below_then bV hB⟩
  ·have d1 : decide ((256 : Int) < (sn : Int)) = false := decide_eq_false (by omega)
   have d2 : decide ((512 : Int) < (kn : Int)) = true := decide_eq_true (by omega)
   rw [HF.out _ (fun h => (HI.out.1 h).2.1) h2]
   go_enter Tryz.func73, Tryz.ntmps73
   go_wp2_with fail
   rw [← HV.out]
   go_ret
   exact ⟨rfl, bV⟩
 ·have d1 : decide ((256 : Int) < (sn : Int)) = true := decide_eq_true (by omega)
  rw [HF.out _ (fun h => (HI.out.1 h).1) h1]
  go_enter Tryz.func73, Tryz.ntmps73
  go_wp2_with fail
  rw [← HV.out]
  go_ret
  exact ⟨rfl, bV⟩
set_option maxHeartbeats 4000000
theorem down_keepT {w w' : World} {base : Nat} {e : TypeId} {v : Value} {n size : Nat} {xs : List Value} (h : w.ownsRow base e size v n xs) (hk : ∀ (g : Nat) (cur : Array Value), v.ownBlock = some g → w.heap[g]? = some (.cells cur e (0, 0)) → w'.heap[g]? = w.heap[g]?) : w'.ownsRow base e size v n xs := by
 refine ⟨h.1, ?_⟩
 rcases h.2 with h0 | ⟨g, cap, cur, rfl, hb, hg, rest⟩
 ·exact .inl h0
 ·exact .inr ⟨g, cap, cur, rfl, hb, (hk g cur rfl hg).trans hg, rest⟩
theorem down_keep {w w' : World} {base : Nat} {e : TypeId} {v : Value} {n size : Nat} {xs : List Value} (h : w.ownsRow base e size v n xs) (hb : Below w.heap.size w w') : w'.ownsRow base e size v n xs := down_keepT h (fun g _ _ hg => hb.block g (drw_lt hg))
theorem dtyp_ne {w : World} {g h : Nat} {cs ds : Array Value} {T U : TypeId} {f1 f2 : Nat × Nat} (h1 : w.heap[g]? = some (.cells cs T f1)) (h2 : w.heap[h]? = some (.cells ds U f2)) (hne : T ≠ U) : g ≠ h := by
 rintro rfl
 rw [h1] at h2
 injection h2 with h2
 injection h2 with _ h2
 exact hne h2
theorem delemSS : ElemAt Tryz.prog 37 47 (.slice none 0 0) 24 := ⟨Tryz.underlying37, by kernel_rfl, rfl⟩
def OwSS (w : World) (base g n : Nat) (vs : List Value) : Prop := w.ownsRow base 47 1 (.slice (some ⟨g, 0, none⟩) n n) n vs
theorem OwSS.row {w : World} {base g n : Nat} {vs : List Value} (h : OwSS w base g n vs) : ∃ cur, w.heap[g]? = some (.cells cur 47 (0, 0)) := by
 rcases h.2 with ⟨h1, _⟩ | ⟨g', cap, cur, hv, _, hg, _⟩
 ·cases h1
 ·injection hv with hv; injection hv with hv; injection hv with hv; subst hv; exact ⟨cur, hg⟩
theorem OwSS.len {w : World} {base g n : Nat} {vs : List Value} (h : OwSS w base g n vs) : vs.length = n := by have := h.1; omega
theorem OwSS.base {w : World} {base g n : Nat} {vs : List Value} (h : OwSS w base g n vs) : base ≤ g ∧ g < w.heap.size := by
 obtain ⟨cur, hg⟩ := h.row
 rcases h.2 with ⟨h1, _⟩ | ⟨g', cap, cur, hv, hb, _⟩
 ·cases h1
 ·injection hv with hv; injection hv with hv; injection hv with hv; subst hv; exact ⟨hb, drw_lt hg⟩
theorem OwSS.mono {w : World} {base base' g n : Nat} {vs : List Value} (h : OwSS w base g n vs) (hb : base' ≤ base) : OwSS w base' g n vs := own_mono h hb
theorem OwSS.below {w w' : World} {base g n : Nat} {vs : List Value} (h : OwSS w base g n vs) (hb : Below w.heap.size w w') : OwSS w' base g n vs := down_keep h hb
theorem OwSS.set_ {w : World} {base g n : Nat} {vs : List Value} (h : OwSS w base g n vs) (k : Nat) (v : Value) : OwSS (w.setCell ⟨g, k, none⟩ v) base g n (vs.set k v) := (World.ownsRow.stored h k v).1
theorem OwSS.cell {w : World} {base g n : Nat} {vs : List Value} (h : OwSS w base g n vs) (k : Nat) (hk : k < n) : w.cell? ⟨g, k, none⟩ = vs[k]? := World.ownsRow.cellAt h k (by omega)
theorem OwSS.fr {w : World} {base g n : Nat} {vs : List Value} (h : OwSS w base g n vs) (k : Nat) : w.frozen? ⟨g, k, none⟩ = false := World.ownsRow.frozenAt h k
theorem OwSS.rd {w : World} {base g n : Nat} {vs : List Value} (h : OwSS w base g n vs) : Rd w (some ⟨g, 0, none⟩) vs := Rd.of_own h
theorem own_besideSS {w : World} {base base2 g n : Nat} {vs : List Value} (h : OwSS w base g n vs) {A : Option Addr} {m c : Nat} {ys : List UInt8} (hy : OwnB w base2 A m c ys) (k : Nat) (v : Value) : OwnB (w.setCell ⟨g, k, none⟩ v) base2 A m c ys := by
 obtain ⟨cur, hg⟩ := h.row
 exact down_keepT hy (fun g' cur' _ hg' => heap_setCell_other w ⟨g, k, none⟩ g' v (fun e => dtyp_ne hg' hg (by decide) e))
theorem parts_get {w : World} : ∀ {vs : List Value} {yss : List (List UInt8)}, vs.length = yss.length → (∀ k, k < vs.length → ∃ A n c, vs[k]? = some (.slice A n c) ∧ RdB w A n c (yss.getD k [])) → Parts w vs yss
 | [], [], _, _ => trivial
 | v :: vs, ys :: yss, hl, h => by
  obtain ⟨A, n, c, e, hr⟩ := h 0 (by simp)
  refine ⟨⟨A, n, c, by simpa using e, by simpa using hr⟩, parts_get (by simpa using hl) (fun k hk => ?_)⟩
  have := h (k + 1) (by simpa using hk)
  simpa using this
 | [], _ :: _, hl, _ => by simp at hl
 | _ :: _, [], hl, _ => by simp at hl
theorem wp_makeSS {ops : Array Oper} {rest : List Oper} {o : Oper} {a : Act} {w : World} {Q : Exit → Act → World → Prop} (hgd : o.guard = none) (l c : Operand) (ho : o.op = Op.makeSlice 37 l c)
  (kl kc : IntKind) (n : Nat) (hl : a.eval l = .int kl n) (hc : a.eval c = .int kc n) (hn : n ≤ 1000000)
  (h : ∀ w', OwSS w' w.heap.size w.heap.size n (List.replicate n (.slice none 0 0)) → Below w.heap.size w w' → wpList Tryz.prog ops Q rest (a.put o.dst (.slice (some ⟨w.heap.size, 0, none⟩) n n)) w') : wpList Tryz.prog ops Q (o :: rest) a w := by
 obtain ⟨i, hi, hz, hsz, hby⟩ := info_parts delemSS.info
 refine wpList_make_full w hgd l c _ ho w.heap.size _ i _ 1 delemSS.slice hi hz hsz kl kc n n n hl hc rfl rfl (by rw [hby]; omega) (by unfold maxLen; omega) (Nat.le_refl _) (fun w' h1 h2 => h w' ?_ ?_)
 ·unfold OwSS
  rw [Nat.mul_one, show (Value.slice none 0 0).cells = #[Value.slice none 0 0] from rfl, toList_madeCells_one] at h1
  exact h1
 ·exact ⟨h2.os, h2.tape, h2.output, h2.size, fun k hk => h2.block k hk (by simp)⟩
theorem op_makeB {o : Oper} {a : Act} {w : World} {K : Act → World → Prop} {Q : Exit → Act → World → Prop} (l c : Operand) (ho : o.op = Op.makeSlice 47 l c)
  (kl kc : IntKind) (n : Nat) (hl : a.eval l = .int kl n) (hc : a.eval c = .int kc n) (hn : n ≤ 70368744177664)
  (h : ∀ w', OwnB w' w.heap.size (some ⟨w.heap.size, 0, none⟩) n n (List.replicate n 0) → Below w.heap.size w w' → K (a.put o.dst (.slice (some ⟨w.heap.size, 0, none⟩) n n)) w') : o.wp Tryz.prog a w K Q := by
 obtain ⟨i, hi, hz, hsz, hby⟩ := info_parts elemB.info
 obtain ⟨w', hrun, r1, r2⟩ := run_make_full (P := Tryz.prog) w w.heap.size 47 _ i _ 1 elemB.slice hi hz hsz kl kc n (by rw [hby]; omega) (by unfold maxLen; omega) (Nat.le_refl _)
 unfold Oper.wp
 simp [execOp, ho, hl, hc, hrun, Result.andThen]
 refine h w' ?_ ⟨r2.os, r2.tape, r2.output, r2.size, fun k hk => r2.block k hk (by simp)⟩
 unfold OwnB
 have e : (madeCells (Value.int .u8 0).cells (n * 1)).toList = (List.replicate n (0 : UInt8)).map vB := by
  rw [Nat.mul_one, show (Value.int .u8 0).cells = #[Value.int .u8 0] from rfl, toList_madeCells_one, List.map_replicate]; rfl
 rw [← e]
 exact r1
theorem rdDk_nil (w : World) : RdDk w none 0 0 none 0 0 ⟨[], []⟩ := ⟨⟨[], .inl rfl, rfl, Nat.le_refl _, by simp [maxLen], trivial⟩, [], .inl rfl, rfl, Nat.le_refl _, by simp [maxLen], trivial⟩
def SecsI (w0 : World) (g n : Nat) (f : Nat → List UInt8) (i : Nat) (wr : World) : Prop := ∃ vs, OwSS wr w0.heap.size g n vs ∧ ∀ j, j < i → ∃ A m c, vs[j]? = some (.slice A m c) ∧ OwnB wr w0.heap.size A m c (f j)
theorem SecsI.zero {w0 w : World} {g n : Nat} {f : Nat → List UInt8} {vs : List Value} (h : OwSS w w0.heap.size g n vs) : SecsI w0 g n f 0 w := ⟨vs, h, fun j hj => by omega⟩
theorem SecsI.below {w0 w w' : World} {g n i : Nat} {f : Nat → List UInt8} (h : SecsI w0 g n f i w) (hb : Below w.heap.size w w') : SecsI w0 g n f i w' := by
 obtain ⟨vs, h1, h2⟩ := h
 refine ⟨vs, h1.below hb, fun j hj => ?_⟩
 obtain ⟨A, m, c, h3, h4⟩ := h2 j hj
 exact ⟨A, m, c, h3, h4.below hb⟩
theorem SecsI.next {w0 w : World} {g n i : Nat} {f : Nat → List UInt8} (h : SecsI w0 g n f i w) (hi : i < n) {A : Option Addr} {m c : Nat} {ys : List UInt8} (hy : OwnB w w0.heap.size A m c ys) (hf : f i = ys) : SecsI w0 g n f (i + 1) (w.setCell ⟨g, i, none⟩ (.slice A m c)) := by
 obtain ⟨vs, h1, h2⟩ := h
 refine ⟨_, h1.set_ i _, fun j hj => ?_⟩
 rcases Nat.lt_or_ge j i with hj2 | hj2
 ·obtain ⟨A', m', c', h3, h4⟩ := h2 j hj2
  exact ⟨A', m', c', by rw [List.getElem?_set_ne (by omega)]; exact h3, own_besideSS h1 h4 _ _⟩
 ·obtain rfl : j = i := by omega
  exact ⟨A, m, c, by rw [List.getElem?_set_self (by rw [h1.len]; exact hi)], by rw [hf]; exact own_besideSS h1 hy _ _⟩
theorem SecsI.cells {w0 w : World} {g n i : Nat} {f : Nat → List UInt8} (h : SecsI w0 g n f i w) (k : Nat) (hk : k < n) : (∃ v, w.cell? ⟨g, k, none⟩ = some v) ∧ w.frozen? ⟨g, k, none⟩ = false := by
 obtain ⟨vs, h1, h2⟩ := h
 refine ⟨?_, h1.fr k⟩
 rw [h1.cell k hk, List.getElem?_eq_getElem (by rw [h1.len]; exact hk)]
 exact ⟨_, rfl⟩
theorem SecsI.done {w0 w : World} {g n : Nat} {f : Nat → List UInt8} (h : SecsI w0 g n f n w) (hn : n ≤ 1000000) : ∃ vs, RdSS w (some ⟨g, 0, none⟩) n n vs ((List.range n).map f) := by
 obtain ⟨vs, h1, h2⟩ := h
 refine ⟨vs, h1.rd, h1.len, Nat.le_refl _, by unfold maxLen; omega, parts_get (by simp [h1.len]) (fun k hk => ?_)⟩
 rw [h1.len] at hk
 obtain ⟨A, m, c, h3, h4⟩ := h2 k hk
 exact ⟨A, m, c, h3, by simpa [List.getD, hk] using h4.rd⟩
theorem SecsI.lt {w0 w : World} {g n i : Nat} {f : Nat → List UInt8} (h : SecsI w0 g n f i w) : w0.heap.size ≤ g ∧ g < w.heap.size := by
 obtain ⟨vs, h1, h2⟩ := h; exact h1.base
end Go.Proofs.YtpahicfnhhhifaaGreat
namespace Go.Proofs.YtpahicfnhhhifaaGreat
set_option maxRecDepth 20000
open Go.RowKit Go.Maps
set_option maxHeartbeats 4000000
def heldE (v : Value) : Option (DataW Value × List MemPlace) := some (.held v, [])
theorem lawI : Keyed Tryz.prog 3 := int_keyed Tryz.underlying3
theorem zeroSl (w : World) : (zeroValue 47).run Tryz.prog w = .ok (.slice none 0 0) w := by kernel_rfl
def MapIs (w : World) (b n : Nat) (o : Int → Option Value) : Prop := ∃ D : DataW Value, w.ownsMap Tryz.prog 3 heldE b n D ∧ IsMap D ∧ ∀ i : Int, (∀ v, o i = some v → ∀ z, D.atKey (.int .i64 i) z = .held v) ∧ (o i = none → ∀ z, D.atKey (.int .i64 i) z = z)
theorem MapIs.made (w : World) : MapIs (w.alloc (.map #[] 0)) w.heap.size 0 (fun _ => none) := ⟨_, World.ownsMap_made w _ _ _, isMap_empty, fun i => ⟨fun v h => by simp at h, fun _ z => rfl⟩⟩
theorem MapIs.lt {w : World} {b n : Nat} {o : Int → Option Value} (h : MapIs w b n o) : b < w.heap.size := by obtain ⟨D, h1, _⟩ := h; exact h1.lt
theorem MapIs.keep {w w' : World} {b n : Nat} {o : Int → Option Value} (h : MapIs w b n o) (hb : w'.heap[b]? = w.heap[b]?) : MapIs w' b n o := by
 obtain ⟨D, ⟨es, clock, h1, h2, h3, h4⟩, r⟩ := h
 exact ⟨D, ⟨es, clock, hb.trans h1, h2, h3, h4⟩, r⟩
theorem MapIs.below {w w' : World} {b n : Nat} {o : Int → Option Value} (h : MapIs w b n o) (hb : Below w.heap.size w w') : MapIs w' b n o := h.keep (hb.block b h.lt)
theorem MapIs.mono {w : World} {b n n' : Nat} {o : Int → Option Value} (h : MapIs w b n o) (hn : n ≤ n') : MapIs w b n' o := by obtain ⟨D, h1, r⟩ := h; exact ⟨D, h1.mono hn, r⟩
theorem wfI {i : Int} (h : -9223372036854775808 ≤ i ∧ i ≤ 9223372036854775807) : (Lit.int .i64 i).wf = true := by
 simp [Lit.wf, IntKind.min, IntKind.max, IntKind.signed, IntKind.bits]; omega
theorem MapIs.look {w : World} {b n : Nat} {o : Int → Option Value} (h : MapIs w b n o) (i : Int) (hi : -9223372036854775808 ≤ i ∧ i ≤ 9223372036854775807) :
  (Instr.lookup 190 (.map (some b)) (.int .i64 i) true).run Tryz.prog w = .ok (.tuple #[(o i).getD (.slice none 0 0), .bool (o i).isSome]) w := by
 obtain ⟨D, ⟨es, clock, hb, F, hs, rfl⟩, hm, hat⟩ := h
 have hz := zeroSl w
 rcases Maps.fit_look true lawI Tryz.underlying190 hz hb F (keyOf_int_mk Tryz.underlying3 (wfI hi)) with ⟨hrun, _, h3⟩ | ⟨e0, y, _, _, hrun, hRv, h3, _⟩
 ·rw [hrun]
  cases ho : o i with
  | none => rfl
  | some v =>
   have h4 := (hat i).1 v ho .nil
   rw [h3 .nil] at h4; cases h4
 ·rw [hrun]
  unfold heldE at hRv
  injection hRv with hRv
  subst hRv
  cases ho : o i with
  | none =>
   have h4 := (hat i).2 ho .nil
   rw [h3 .nil] at h4; cases h4
  | some v =>
   have h4 := (hat i).1 v ho .nil
   rw [h3 .nil] at h4
   injection h4 with h4
   subst h4; rfl
theorem MapIs.put {w' : World} {b n : Nat} {D : DataW Value} {o : Int → Option Value} {i : Int} {v : Value} (hm : IsMap D) (hat : ∀ i : Int, (∀ v, o i = some v → ∀ z, D.atKey (.int .i64 i) z = .held v) ∧ (o i = none → ∀ z, D.atKey (.int .i64 i) z = z)) (h : w'.ownsMap Tryz.prog 3 heldE b (n + 1) (D.put (.int .i64 i) (.held v))) : MapIs w' b (n + 1) (fun j => if j = i then some v else o j) := by
 refine ⟨_, h, hm.put _ _, fun j => ?_⟩
 by_cases hj : j = i
 ·subst hj
  refine ⟨fun u hu z => ?_, fun hu => by simp at hu⟩
  replace hu : some v = some u := by simpa using hu
  injection hu with hu
  subst hu
  exact atKey_put_same hm (by simp [WideAt.IsKeyLit]) _ _
 ·have hne : (Lit.int .i64 j) ≠ (Lit.int .i64 i) := fun e => hj (by injection e)
  refine ⟨fun u hu z => ?_, fun hu z => ?_⟩
  ·replace hu : o j = some u := by simpa [hj] using hu
   rw [atKey_put_other hne]; exact (hat j).1 u hu z
  ·replace hu : o j = none := by simpa [hj] using hu
   rw [atKey_put_other hne]; exact (hat j).2 hu z
def dkIdx (l : List (Int × List UInt8)) (kept : Nat → Bool) (i : Int) : Nat → Option Nat
 | 0 => none
 | n + 1 => if kept n = true ∧ (l.getD n (0, [])).1 = i then some n else dkIdx l kept i n
theorem dkIdx_last (l : List (Int × List UInt8)) (kept : Nat → Bool) (i : Int) : ∀ n, dkLast l kept i n = (dkIdx l kept i n).map (fun j => (l.getD j (0, [])).2)
 | 0 => rfl
 | n + 1 => by
  unfold dkLast dkIdx
  split
  ·rfl
  ·exact dkIdx_last l kept i n
theorem dkIdx_lt (l : List (Int × List UInt8)) (kept : Nat → Bool) (i : Int) : ∀ n j, dkIdx l kept i n = some j → j < n
 | 0, j, h => by simp [dkIdx] at h
 | n + 1, j, h => by
  unfold dkIdx at h
  split at h
  ·injection h with h; omega
  ·have := dkIdx_lt l kept i n j h; omega
def LfI (V : World) (m kn : Nat) (l : List (Int × List UInt8)) (kept : Nat → Bool) (X : Nat → Value) (v : Value) (wr : World) : Prop :=
 ∃ k : Nat, k ≤ kn ∧ v = .int .i64 (k : Int) ∧ MapIs wr m k (fun i => (dkIdx l kept i k).map X) ∧ Below m V wr
def LgI (w V : World) (m g sn kn : Nat) (D : Dk) (kept : Nat → Bool) (X : Nat → Value) (v : Value) (wr : World) : Prop :=
 ∃ i : Nat, i ≤ sn ∧ v = .int .i64 (i : Int) ∧ MapIs wr m kn (fun i => (dkIdx D.k kept i kn).map X) ∧ SecsI w g sn (dkAt D kept) i wr ∧ Below m V wr
theorem RdWs.atv {w : World} {A : Option Addr} {n c : Nat} {vs : List Value} {l : List (Int × List UInt8)} (h : RdWs w A n c vs l) (k : Nat) (hk : k < n) :
  ∃ b o B m d, A = some ⟨b, o, none⟩ ∧ b < w.heap.size ∧ w.cell? ⟨b, o + k * 2, none⟩ = some (.int .i64 (l.getD k (0, [])).1) ∧ w.cell? ⟨b, o + k * 2 + 1, none⟩ = some (.slice B m d) ∧ RdB w B m d (l.getD k (0, [])).2 ∧ (-9223372036854775808 ≤ (l.getD k (0, [])).1 ∧ (l.getD k (0, [])).1 ≤ 9223372036854775807) ∧ vs.getD (k * 2 + 1) undef = .slice B m d := by
 obtain ⟨b, o, B, m, d, rfl, hb, h0, h1, h2, h3⟩ := h.at_ k hk
 refine ⟨b, o, B, m, d, rfl, hb, h0, h1, h2, h3, ?_⟩
 obtain ⟨b', o', he, _, hc⟩ := h.1.at_ (k * 2 + 1) (by have := h.2.1; omega)
 injection he with he; injection he with e1 e2; subst e1 e2
 rw [← Nat.add_assoc] at hc
 rw [hc] at h1
 injection h1 with h1
 rw [List.getD, List.getElem?_eq_getElem (by have := h.2.1; omega)]
 exact h1
theorem idx_next (l : List (Int × List UInt8)) (kept : Nat → Bool) (X : Nat → Value) (k : Nat) (hk : kept k = true) : (fun i => (dkIdx l kept i (k + 1)).map X) = fun j => if j = (l.getD k (0, [])).1 then some (X k) else (dkIdx l kept j k).map X := by
 funext i
 by_cases h : i = (l.getD k (0, [])).1
 ·rw [if_pos h]; unfold dkIdx; rw [if_pos ⟨hk, h.symm⟩]; rfl
 ·rw [if_neg h]; conv => lhs; unfold dkIdx
  rw [if_neg (fun hh => h hh.2.symm)]
theorem idx_skip (l : List (Int × List UInt8)) (kept : Nat → Bool) (X : Nat → Value) (k : Nat) (hk : kept k = false) : (fun i => (dkIdx l kept i (k + 1)).map X) = fun i => (dkIdx l kept i k).map X := by
 funext i
 conv => lhs; unfold dkIdx
 rw [if_neg (by rw [hk]; simp)]
theorem dresults_cell {P : Program} {fn : Func} {p : Tmp} {ty : TypeId} (h : fn.results = #[.cell p ty]) (tmps : Array Value) (w : World) (g : Nat) (t : TypeId) (cs : Array Value) (fr : Nat × Nat) (d : TypeDesc)
  (hp : tmps.getD p undef = .pointer (some ⟨g, 0, none⟩)) (hg : w.heap[g]? = some (.cells cs t fr))
  (hu : P.underlying ty = some d) (hd : (match d with | .struct _ | .array _ _ => true | _ => false) = true) (hi : (P.info? ty).map (·.size) = some cs.size) :
  (results fn tmps).run P w = .ok (.agg cs) w := by
 have hp' : tmps[p]?.getD undef = .pointer (some ⟨g, 0, none⟩) := by simpa using hp
 simp [results, h, hp', asAddr, run_loadVar_row w g t ty cs fr d hg hu hd hi]
theorem dresults_cell_tmp {P : Program} {fn : Func} {p q : Tmp} {ty : TypeId} (h : fn.results = #[.cell p ty, .tmp q]) (tmps : Array Value) (w : World) (g : Nat) (t : TypeId) (cs : Array Value) (fr : Nat × Nat) (d : TypeDesc)
  (hp : tmps.getD p undef = .pointer (some ⟨g, 0, none⟩)) (hg : w.heap[g]? = some (.cells cs t fr))
  (hu : P.underlying ty = some d) (hd : (match d with | .struct _ | .array _ _ => true | _ => false) = true) (hi : (P.info? ty).map (·.size) = some cs.size) :
  (results fn tmps).run P w = .ok (.tuple #[.agg cs, tmps.getD q undef]) w := by
 have hp' : tmps[p]?.getD undef = .pointer (some ⟨g, 0, none⟩) := by simpa using hp
 simp [results, h, hp', asAddr, run_loadVar_row w g t ty cs fr d hg hu hd hi]
theorem dkInfo (S : Option Addr) (sn sc : Nat) (K : Option Addr) (kn kc : Nat) : (Tryz.prog.info? 40).map (·.size) = some (#[.slice S sn sc, .slice K kn kc] : Array Value).size := by show _ = some 2; kernel_rfl
theorem SecsI.far {w0 w : World} {g n i : Nat} {f : Nat → List UInt8} (h : SecsI w0 g n f i w) {q : Nat} {cs : Array Value} {T : TypeId} {fr : Nat × Nat} (hq : w.heap[q]? = some (.cells cs T fr)) (h1 : T ≠ 5) (h2 : T ≠ 47) (k : Nat) (v : Value) : SecsI w0 g n f i (w.setCell ⟨q, k, none⟩ v) := by
 obtain ⟨vs, a, b⟩ := h
 refine ⟨vs, down_keepT a (fun g' cur' _ hg' => heap_setCell_other w ⟨q, k, none⟩ g' v (fun e => dtyp_ne hg' hq h2.symm e)), fun j hj => ?_⟩
 obtain ⟨A, m, c, h3, h4⟩ := b j hj
 exact ⟨A, m, c, h3, down_keepT h4 (fun g' cur' _ hg' => heap_setCell_other w ⟨q, k, none⟩ g' v (fun e => dtyp_ne hg' hq h1.symm e))⟩
theorem dkOk_slen {D : Dk} (h : dkOk D = true) (j : Nat) (hj : j < D.s.length) : (D.s.getD j []).length = 256 := ((dkOk_iff2 D).1 h).2.2.1 j hj
theorem dkOk_klen {D : Dk} (h : dkOk D = true) (j : Nat) (hj : j < D.k.length) : (D.k.getD j (0, [])).2.length = 256 := by
 have := ((dkOk_iff2 D).1 h).2.2.2 j hj
 unfold wLost at this
 rw [Bool.or_eq_false_iff] at this
 simpa using this.2
theorem dskLeft_any (F : FuncId) (caps : Array Value) (S : Option Addr) (sn sc : Nat) (K : Option Addr) (kn kc : Nat) (D : Dk) (w : World) (kept : Nat → Bool) (hr : RdDk w S sn sc K kn kc D) (hok : dkOk D = true)
  (hF : ∀ (args : Array Value) (W : World), (callFunc F args).run Tryz.prog W = .ok (.enter F args) W)
  (hdo : ∀ (W : World) (i : Nat), Below w.heap.size w W → i < kn → Calls Tryz.prog F (#[.int .i64 (i : Int)] ++ caps) W (RetV W (.bool (kept i)))) :
  Calls Tryz.prog 120 #[.agg #[.slice S sn sc, .slice K kn kc], .func (.func F) #[] caps] w (fun e w' => ∃ g, e = .returned (.agg #[.slice (some ⟨g, 0, none⟩) sn sn, .slice none 0 0]) ∧ SecsI w g sn (dkAt D kept) sn w' ∧ Below w.heap.size w w') := by
 have hsn : sn ≤ 1000000 := by have := ((dkOk_iff D).1 hok).1; have := hr.sl; omega
 have hkn : kn ≤ 1000000 := by have := ((dkOk_iff D).1 hok).2.1; have := hr.kl; omega
 have HOK := Lib.hid hok
 have HDO := Lib.hid hdo
 have HFF := Lib.hid hF
 have hsl := hr.sl
 have hkl := hr.kl
 obtain ⟨V, hV⟩ : ∃ V, V = ((w.alloc (.cells #[.slice S sn sc, .slice K kn kc] 40)).alloc (.cells #[.slice none 0 0, .slice none 0 0] 40)).alloc (.map #[] 0) := ⟨_, rfl⟩
 have bV : Below w.heap.size w V := by rw [hV]; exact (((below_self w).alloc (Nat.le_refl _) _).alloc (by simp) _).alloc (by simp; omega) _
 have qV : Hid (DkAt V w.heap.size S sn sc K kn kc) := by rw [hV]; exact Lib.hid (drw_old _ (drw_old _ (drw_at _ rfl)))
 have rV : Hid (DkAt V (w.heap.size + 1) none 0 0 none 0 0) := by rw [hV]; exact Lib.hid (drw_old _ (drw_at _ (by simp)))
 have mV : Hid (MapIs V (w.heap.size + 2) 0 (fun _ => none)) := by
  have := MapIs.made ((w.alloc (.cells #[.slice S sn sc, .slice K kn kc] 40)).alloc (.cells #[.slice none 0 0, .slice none 0 0] 40))
  rw [← hV] at this
  simpa using Lib.hid this
 have HV := Lib.hid hV
 have zV : V.heap.size = w.heap.size + 3 := by rw [hV]; simp
 have ZV := Lib.hid zV
 obtain ⟨⟨vs, hs⟩, us, hk⟩ := hr
 have hmm := @run_makeMap Tryz.prog
 obtain ⟨X, hX⟩ : ∃ X : Nat → Value, X = fun j => us.getD (j * 2 + 1) undef := ⟨_, rfl⟩
 have hXv : ∀ j, us.getD (j * 2 + 1) undef = X j := fun j => by rw [hX]
 have HX := Lib.hid hXv
 clear hV hdo hF zV hX hXv hok
 go_enter Tryz.func120, Tryz.ntmps120
 go_wp2_with fail
 rw [← HV.out]
 clear hmm
 go_loopw [17] (LfI V (w.heap.size + 1 + 1) kn D.k kept X) (fun i _ => kn - (intOf i).toNat)
 case atStart => exact ⟨0, by omega, rfl, mV.out, Below.refl _ _⟩
 case round =>
 obtain ⟨k, hkk, rfl, hM, hB⟩ := hrel
 have BW := bV.trans (hB.mono (by omega))
 have HM := Lib.hid hM
 clear hM
 by_cases hlt : k < kn
 ·obtain ⟨b, o, B, m, d, rfl, hb, hc0, hc1, hy, hrg, hxv⟩ := (hk.below BW).atv k hlt
  rw [HX.out] at hxv
  obtain ⟨a, ha⟩ : ∃ a, (D.k.getD k (0, [])).1 = a := ⟨_, rfl⟩
  rw [ha] at hc0 hrg
  have HA := Lib.hid ha
  have HXV := Lib.hid hxv
  have bX := (below_self wr).alloc (Nat.le_refl _) (.cells #[.int .i64 a, .slice B m d] 119)
  have hcall := HDO.out (wr.alloc (.cells #[.int .i64 a, .slice B m d] 119)) k (below_then BW bX) hlt
  have qX := drw_at (w := wr) (.cells #[.int .i64 a, .slice B m d] 119) rfl
  have QX := Lib.hid qX
  have BX := Lib.hid bX
  clear ha hxv qX bX
  go_wp2_with fail
  rw [HFF.out]
  cases hkp : kept k with
  | false =>
   rw [hkp] at hcall
   have HKP := Lib.hid hkp
   clear hkp
   go_wp2_with fail
   refine hcall.mono ?_
   rintro e w2 ⟨rfl, hb2⟩
   go_wp2_with fail
   go_roundw
   case rel => exact ⟨k + 1, by omega, by go_num, by rw [idx_skip _ _ _ _ HKP.out]; exact ((HM.out.below BX.out).below hb2).mono (by omega), hB.trans ((below_then BX.out hb2).mono (by have := HM.out.lt; omega))⟩
   case measure => simp [intOf]; omega
  | true =>
   rw [hkp] at hcall
   have HKP := Lib.hid hkp
   clear hkp
   go_wp2_with fail
   refine hcall.mono ?_
   rintro e w2 ⟨rfl, hb2⟩
   have Q2 := drw_up QX.out hb2
   have x0 := (cell_of_row w2 _ 0 _ _ _ Q2).trans (show (#[.int .i64 a, .slice B m d] : Array Value)[0]? = some (.int .i64 a) from rfl)
   have x1 := (cell_of_row w2 _ 1 _ _ _ Q2).trans (show (#[.int .i64 a, .slice B m d] : Array Value)[1]? = some (.slice B m d) from rfl)
   obtain ⟨D0, hown, hmap, hat⟩ := (HM.out.below BX.out).below hb2
   have HMAP := Lib.hid hmap
   have HAT := Lib.hid hat
   have HOWN := Lib.hid hown
   clear hmap hat Q2 hown
   go_wp2_with (at_mapUpdate; refine wpList_mapUpdate_own _ rfl _ _ _ 190 rfl 3 47 lawI Tryz.underlying190 heldE (w.heap.size + 1 + 1) k D0 rfl HOWN.out (by unfold maxLen; omega) (.int .i64 a) (.slice B m d) (.int .i64 a) rfl rfl (keyOf_int_mk Tryz.underlying3 (wfI hrg)) (.held (.slice B m d)) [] rfl ?_; intro w3 hown3 hgrow3)
   go_roundw
   case rel => exact ⟨k + 1, by omega, by go_num, by rw [idx_next _ _ _ _ HKP.out, HA.out, HXV.out]; exact MapIs.put HMAP.out HAT.out hown3, (hB.trans ((below_then BX.out hb2).mono (by have := HM.out.lt; omega))).grown hgrow3 (by have := HM.out.lt; have := BX.out.size; have := hb2.size; omega) (fun q hq => by injection hq with hq; omega)⟩
   case measure => simp [intOf]; omega
 obtain rfl : kn = k := by omega
 obtain ⟨W1, hW1⟩ : ∃ W : World, W = wr := ⟨_, rfl⟩
 rw [← hW1] at HM hB BW ⊢
 clear hW1
 have hm1 := HM.out.lt
 have hBq : Below (w.heap.size + 1) V W1 := hB.mono (by omega)
 have j0 := (hB.cell (p := ⟨w.heap.size, 0, none⟩) (by show w.heap.size < _; omega)).trans qV.out.c0
 have HJ0 := Lib.hid j0
 go_wp2_with (refine wp_makeSS rfl _ _ rfl .i64 .i64 sn rfl rfl (by omega) ?_; intro w3 ho3 hb3; have j0 := (hb3.cell (p := ⟨w.heap.size, 0, none⟩) (by show w.heap.size < _; omega)).trans HJ0.out)
 clear j0
 go_loopw [38] (LgI w V (w.heap.size + 1 + 1) W1.heap.size sn kn D kept X) (fun i _ => sn - (intOf i).toNat)
 case atStart => exact ⟨0, by omega, rfl, HM.out.below hb3, SecsI.zero (ho3.mono (by omega)), hB.trans (hb3.mono (by omega))⟩
 case round =>
 obtain ⟨i, hi, rfl, hM2, hS, hB2⟩ := hrel
 have BW2 := bV.trans (hB2.mono (by omega))
 have HM2 := Lib.hid hM2
 have HS := Lib.hid hS
 clear hM2 hS
 by_cases hlt2 : i < sn
 ·obtain ⟨b, o, B, m, d, rfl, hb, hc, hy⟩ := (hs.below BW2).at_ i hlt2
  have hlook := HM2.out.look (i : Int) ⟨by omega, by omega⟩
  have hAt : dkAt D kept i = ((dkIdx D.k kept (i : Int) kn).map (fun j => (D.k.getD j (0, [])).2)).getD (D.s.getD i []) := by unfold dkAt; rw [dkIdx_last, hkl]
  have HAt := Lib.hid hAt
  clear hAt
  cases hix : dkIdx D.k kept (i : Int) kn with
  | none =>
   rw [hix] at hlook HAt
   simp only [Option.map_none, Option.getD_none, Option.isSome_none] at hlook HAt
   clear hix
   have hn3 := hy.n63
   have hcl := clone_any B m d _ wr hy (by have := hy.2.1; have := dkOk_slen HOK.out i (by omega); omega)
   have HCL := Lib.hid hcl
   clear hcl
   go_wp2_with fail
   refine HCL.out.mono ?_
   rintro e w4 ⟨A4, n4, c4, rfl, ho4, hb4⟩
   obtain ⟨⟨v9, hv9⟩, hf9⟩ := (HS.out.below hb4).cells i hlt2
   have l1 : (i : Int) < (sn : Int) := by omega
   have HO4 := Lib.hid ho4
   clear ho4
   go_wp2_with fail
   go_roundw
   case rel => exact ⟨i + 1, by omega, by go_num, (HM2.out.below hb4).keep (heap_setCell_other _ _ _ _ (by have := HS.out.lt; have := HM.out.lt; show _ ≠ W1.heap.size; omega)), (HS.out.below hb4).next hlt2 (HO4.out.mono (by have := BW2.size; omega)) HAt.out, (hB2.trans (hb4.mono (by have := HM2.out.lt; omega))).setCell (p := ⟨W1.heap.size, i, none⟩) (by show _ ≤ W1.heap.size; omega) _⟩
   case measure => simp [intOf]; omega
  | some j =>
   rw [hix] at hlook HAt
   have hj := dkIdx_lt _ _ _ _ _ hix
   obtain ⟨b5, o5, B5, m5, d5, he5, hb5, h50, h51, hy5, _, hxv⟩ := (hk.below BW2).atv j hj
   rw [HX.out] at hxv
   simp only [Option.map_some, Option.getD_some, Option.isSome_some, hxv] at hlook HAt
   clear hix hxv h50 h51 he5
   have hn3 := hy5.n63
   have hcl := clone_any B5 m5 d5 _ wr hy5 (by have := hy5.2.1; have := dkOk_klen HOK.out j (by omega); omega)
   have HCL := Lib.hid hcl
   clear hcl
   go_wp2_with fail
   refine HCL.out.mono ?_
   rintro e w4 ⟨A4, n4, c4, rfl, ho4, hb4⟩
   obtain ⟨⟨v9, hv9⟩, hf9⟩ := (HS.out.below hb4).cells i hlt2
   have l1 : (i : Int) < (sn : Int) := by omega
   have HO4 := Lib.hid ho4
   clear ho4
   go_wp2_with fail
   go_roundw
   case rel => exact ⟨i + 1, by omega, by go_num, (HM2.out.below hb4).keep (heap_setCell_other _ _ _ _ (by have := HS.out.lt; have := HM.out.lt; show _ ≠ W1.heap.size; omega)), (HS.out.below hb4).next hlt2 (HO4.out.mono (by have := BW2.size; omega)) HAt.out, (hB2.trans (hb4.mono (by have := HM2.out.lt; omega))).setCell (p := ⟨W1.heap.size, i, none⟩) (by show _ ≤ W1.heap.size; omega) _⟩
   case measure => simp [intOf]; omega
 obtain rfl : sn = i := by omega
 have qR : DkAt wr (w.heap.size + 1) none 0 0 none 0 0 := (hB2.block _ (by omega)).trans rV.out
 have y0 := qR.c0
 have y1 := qR.c1
 have f0 := qR.fr 0
 have f1 := qR.fr 1
 have qS : DkAt ((wr.setCell ⟨w.heap.size + 1, 0, none⟩ (.slice (some ⟨W1.heap.size, 0, none⟩) sn sn)).setCell ⟨w.heap.size + 1, 1, none⟩ (.slice none 0 0)) (w.heap.size + 1) (some ⟨W1.heap.size, 0, none⟩) sn sn none 0 0 := (qR.s0 _ _ _).s1 none 0 0
 have hfin := (HS.out.far qR (by decide) (by decide) 0 (.slice (some ⟨W1.heap.size, 0, none⟩) sn sn)).far (qR.s0 (some ⟨W1.heap.size, 0, none⟩) sn sn) (by decide) (by decide) 1 (.slice none 0 0)
 have BF := (BW2.setCell (p := ⟨w.heap.size + 1, 0, none⟩) (by show w.heap.size ≤ w.heap.size + 1; omega) (.slice (some ⟨W1.heap.size, 0, none⟩) sn sn)).setCell (p := ⟨w.heap.size + 1, 1, none⟩) (by show w.heap.size ≤ w.heap.size + 1; omega) (.slice none 0 0)
 have QS := Lib.hid qS
 have HFIN := Lib.hid hfin
 have BFH := Lib.hid BF
 clear qS hfin BF qR
 go_wp2_with fail
 refine bodyPost_ret (dresults_cell Tryz.results120 _ _ (w.heap.size + 1) 40 _ (0, 0) _ rfl QS.out Tryz.underlying40 rfl (dkInfo ..)) rfl ?_
 exact ⟨_, rfl, HFIN.out, BFH.out⟩
theorem SecsI.disk {w0 w : World} {g sn : Nat} {D : Dk} {kept : Nat → Bool} (h : SecsI w0 g sn (dkAt D kept) sn w) (hsl : D.s.length = sn) (hn : sn ≤ 1000000) : RdDk w (some ⟨g, 0, none⟩) sn sn none 0 0 (dkLeft D kept) := by
 obtain ⟨vs9, h9⟩ := h.done hn
 exact ⟨⟨vs9, by unfold dkLeft; rw [hsl]; exact h9⟩, (rdDk_nil _).2⟩
end Go.Proofs.YtpahicfnhhhifaaGreat
namespace Go.Proofs.YtpahicfnhhhifaaGreat
set_option maxRecDepth 20000
open Go.RowKit
set_option maxHeartbeats 4000000
theorem RdDk.far2 {w W : World} {S K : Option Addr} {sn sc kn kc : Nat} {D : Dk} (h : RdDk w S sn sc K kn kc D) (hb : Below w.heap.size w W) {q : Nat} (hq : w.heap.size ≤ q) (v0 v1 : Value) : RdDk ((W.setCell ⟨q, 0, none⟩ v0).setCell ⟨q, 1, none⟩ v1) S sn sc K kn kc D :=
 h.below ((hb.setCell (p := ⟨q, 0, none⟩) hq v0).setCell (p := ⟨q, 1, none⟩) hq v1)
theorem below2 {w W : World} {B : Nat} (hb : Below B w W) {q : Nat} (hq : B ≤ q) (v0 v1 : Value) : Below B w ((W.setCell ⟨q, 0, none⟩ v0).setCell ⟨q, 1, none⟩ v1) := (hb.setCell (p := ⟨q, 0, none⟩) hq v0).setCell (p := ⟨q, 1, none⟩) hq v1
theorem DkAt.s01 {w : World} {g : Nat} {S K : Option Addr} {sn sc kn kc : Nat} (h : DkAt w g S sn sc K kn kc) (S' : Option Addr) (sn' sc' : Nat) (K' : Option Addr) (kn' kc' : Nat) : DkAt ((w.setCell ⟨g, 0, none⟩ (.slice S' sn' sc')).setCell ⟨g, 1, none⟩ (.slice K' kn' kc')) g S' sn' sc' K' kn' kc' := (h.s0 S' sn' sc').s1 K' kn' kc'
theorem dskFlush1_any (i : Int) (w : World) : Calls Tryz.prog 121 #[.int .i64 i] w (RetV w (.bool true)) := by
 go_enter Tryz.func121, Tryz.ntmps121
 go_wp2
 go_ret
 exact ⟨rfl, Below.refl _ _⟩
end Go.Proofs.YtpahicfnhhhifaaGreat
namespace Go.Proofs.YtpahicfnhhhifaaGreat
set_option maxRecDepth 20000
open Go.ChangeShapes Go.WideShapes Go.ChangeAt Go.RowKit Go.Deep
set_option maxHeartbeats 2000000
theorem pairs_get (V0 V1 : Nat → Value) : ∀ (is : List Nat) (k : Nat), (is.flatMap (fun i => [V0 i, V1 i]))[2 * k]? = is[k]?.map V0 ∧ (is.flatMap (fun i => [V0 i, V1 i]))[2 * k + 1]? = is[k]?.map V1
 | [], k => by simp
 | i :: is, 0 => by simp
 | i :: is, k + 1 => by
  have := pairs_get V0 V1 is k
  rw [show 2 * (k + 1) = 2 * k + 1 + 1 by omega]
  simpa using this
theorem pairs_len (V0 V1 : Nat → Value) : ∀ (is : List Nat), (is.flatMap (fun i => [V0 i, V1 i])).length = 2 * is.length
 | [] => rfl
 | i :: is => by simp [pairs_len V0 V1 is]; omega
theorem wparts_of {W : World} (V0 V1 : Nat → Value) (Y : Nat → Int × List UInt8) : ∀ (is : List Nat), (∀ i ∈ is, V0 i = .int .i64 (Y i).1 ∧ (-9223372036854775808 ≤ (Y i).1 ∧ (Y i).1 ≤ 9223372036854775807) ∧ ∃ A n c, V1 i = .slice A n c ∧ RdB W A n c (Y i).2) → WParts W (is.flatMap (fun i => [V0 i, V1 i])) (is.map Y)
 | [], _ => trivial
 | i :: is, h => by
  obtain ⟨h1, h2, h3⟩ := h i (by simp)
  exact ⟨h1, h2, h3, wparts_of V0 V1 Y is (fun j hj => h j (by simp [hj]))⟩
end Go.Proofs.YtpahicfnhhhifaaGreat
