/-
  Layer 18, frames: Put, of the package and of the document.
-/
import Derived.Test.YtieilgphcfiapaaEth
import Derived.Test.YtieilgphcfiapaaNumE
import Derived.Test.YtieilgphcfiapaaPlanT
namespace Go.Proofs.Ytieilgphcfiapaa
set_option maxRecDepth 20000
open Go.RowKit
set_option linter.unusedVariables false
set_option linter.unusedSimpArgs false

/-- Six bytes in a row. -/
theorem MacAt.rd {w : World} {g o : Nat} {m : Mc} (h : MacAt w g o m) (hg : g < w.heap.size) : RdB w (some ⟨g, o, none⟩) 6 6 m.l := by
  obtain ⟨h0, h1, h2, h3, h4, h5⟩ := h
  refine ⟨.inr ⟨g, o, rfl, hg, fun i v hv => ?_⟩, rfl, Nat.le_refl _, by simp [maxLen]⟩
  obtain ⟨hi, rfl⟩ := List.getElem?_eq_some_iff.1 hv
  have hi6 : i < 6 := by simpa [Mc.l] using hi
  match i, hi6 with
  | 0, _ => exact h0
  | 1, _ => exact h1
  | 2, _ => exact h2
  | 3, _ => exact h3
  | 4, _ => exact h4
  | 5, _ => exact h5

/-- A frame in a box. -/
def FrAt (w : World) (g : Nat) (d s : Mc) (k : Nat) (A : Option Addr) (n c : Nat) : Prop :=
  MacAt w g 0 d ∧ MacAt w g 6 s ∧ w.cell? ⟨g, 12, none⟩ = some (.int .u16 k) ∧ w.cell? ⟨g, 13, none⟩ = some (.slice A n c)
theorem FrAt.below {W w : World} {g : Nat} {d s : Mc} {k : Nat} {A : Option Addr} {n c : Nat} (h : FrAt W g d s k A n c) (hb : Below W.heap.size W w) (hg : g < W.heap.size) : FrAt w g d s k A n c :=
  ⟨h.1.below hb hg, h.2.1.below hb hg, (hb.cell (p := ⟨g, 12, none⟩) hg).trans h.2.2.1, (hb.cell (p := ⟨g, 13, none⟩) hg).trans h.2.2.2⟩
theorem frBox (w : World) (d s : Mc) (k : Nat) (A : Option Addr) (n c : Nat) (T : TypeId) : FrAt (w.alloc (.cells #[.int .u8 (d.a0.toNat : Int), .int .u8 (d.a1.toNat : Int), .int .u8 (d.a2.toNat : Int), .int .u8 (d.a3.toNat : Int), .int .u8 (d.a4.toNat : Int), .int .u8 (d.a5.toNat : Int), .int .u8 (s.a0.toNat : Int), .int .u8 (s.a1.toNat : Int), .int .u8 (s.a2.toNat : Int), .int .u8 (s.a3.toNat : Int), .int .u8 (s.a4.toNat : Int), .int .u8 (s.a5.toNat : Int), .int .u16 k, .slice A n c] T)) w.heap.size d s k A n c :=
  ⟨⟨alloc_box _ _ _ 0, alloc_box _ _ _ 1, alloc_box _ _ _ 2, alloc_box _ _ _ 3, alloc_box _ _ _ 4, alloc_box _ _ _ 5⟩, ⟨alloc_box _ _ _ 6, alloc_box _ _ _ 7, alloc_box _ _ _ 8, alloc_box _ _ _ 9, alloc_box _ _ _ 10, alloc_box _ _ _ 11⟩, alloc_box _ _ _ 12, alloc_box _ _ _ 13⟩

theorem joined_any (A : Option Addr) (K c : Nat) (ss : List Value) (yss : List (List UInt8)) (w : World) (hr : Rd w A ss) (hK : ss.length = K) (hK2 : K ≤ 1000000) (hp : Parts w ss yss) (hm : yss.flatten.length ≤ 70368744177664) :
    Calls Try.prog 63 #[.slice A K c] w (RetB w yss.flatten) := by
  go_enter Try.func63, Try.ntmps63
  go_wp2_with fail
  refine (concat_any A K c ss yss _ hr hK hK2 hp hm).mono ?_
  rintro e w1 ⟨A1, n1, c1, rfl, ho, hb⟩
  go_wp2
  go_ret
  exact ⟨_, _, _, rfl, ho, hb⟩

/-- A frame's bytes. -/
def ethPutL (d s : Mc) (k : Nat) (xs : List UInt8) : List UInt8 := if 166 < xs.length then [] else d.l ++ (s.l ++ (beB k 2 ++ xs))
def ethPutE (xs : List UInt8) : Int := if 166 < xs.length then 2 else 0
theorem ethPut_any (d s : Mc) (k : Nat) (A : Option Addr) (n c : Nat) (xs : List UInt8) (w : World) (hk : k < 65536) (hr : RdB w A n c xs) :
    Calls Try.prog 18 #[.agg #[.int .u8 (d.a0.toNat : Int), .int .u8 (d.a1.toNat : Int), .int .u8 (d.a2.toNat : Int), .int .u8 (d.a3.toNat : Int), .int .u8 (d.a4.toNat : Int), .int .u8 (d.a5.toNat : Int), .int .u8 (s.a0.toNat : Int), .int .u8 (s.a1.toNat : Int), .int .u8 (s.a2.toNat : Int), .int .u8 (s.a3.toNat : Int), .int .u8 (s.a4.toNat : Int), .int .u8 (s.a5.toNat : Int), .int .u16 k, .slice A n c]] w (RetBE w (ethPutL d s k xs) (ethPutE xs)) := by
  have hn63 := hr.n63
  have hlen := hr.2.1
  by_cases h : 166 < n
  · have e1 : ethPutL d s k xs = [] := by unfold ethPutL; rw [if_pos (by omega)]
    have e2 : ethPutE xs = 2 := by unfold ethPutE; rw [if_pos (by omega)]
    rw [e1, e2]
    have d1 : decide ((166 : Int) < (n : Int)) = true := decide_eq_true (by omega)
    clear e1 e2 hlen
    go_enter Try.func18, Try.ntmps18
    go_wp2
    go_ret2
    exact ⟨none, 0, 0, rfl, OwnB.nilB _ _, (below_self w).alloc (Nat.le_refl _) _⟩
  · have e1 : ethPutL d s k xs = d.l ++ (s.l ++ (beB k 2 ++ xs)) := by unfold ethPutL; rw [if_neg (by omega)]
    have e2 : ethPutE xs = 0 := by unfold ethPutE; rw [if_neg (by omega)]
    rw [e1, e2]
    have d1 : decide ((166 : Int) < (n : Int)) = false := decide_eq_false (by omega)
    have hk64 : k < 18446744073709551616 := by omega
    have wk := w64n hk64
    have hc2 : clamp 2 = 2 := rfl
    have HC := Lib.hid hc2
    have HL := Lib.hid hlen
    clear e1 e2 hlen hc2
    go_enter Try.func18, Try.ntmps18
    go_wp2_with fail
    obtain ⟨W, hW⟩ : ∃ W, W = w.alloc (.cells #[.int .u8 (d.a0.toNat : Int), .int .u8 (d.a1.toNat : Int), .int .u8 (d.a2.toNat : Int), .int .u8 (d.a3.toNat : Int), .int .u8 (d.a4.toNat : Int), .int .u8 (d.a5.toNat : Int), .int .u8 (s.a0.toNat : Int), .int .u8 (s.a1.toNat : Int), .int .u8 (s.a2.toNat : Int), .int .u8 (s.a3.toNat : Int), .int .u8 (s.a4.toNat : Int), .int .u8 (s.a5.toNat : Int), .int .u16 k, .slice A n c] 27) := ⟨_, rfl⟩
    have bW : Below w.heap.size w W := by rw [hW]; exact (below_self w).alloc (Nat.le_refl _) _
    have hz : w.heap.size < W.heap.size := by rw [hW]; simp
    have fr : FrAt W w.heap.size d s k A n c := by rw [hW]; exact frBox ..
    rw [← hW]
    have md := fr.1
    have ms := fr.2.1
    clear hW
    refine wp_region_plan (S := fun w' => Below W.heap.size W w') [(0, true), (1, true), (2, true), (3, true), (4, true), (5, true), (6, true), (8, true), (9, true), (7, false), (10, false), (11, false), (12, true), (13, true)] (by kernel_rfl) (by kernel_rfl) (fun _ _ d _ _ h => by cases d <;> exact h) ((Below.refl _ W).drew) ?_
    iterate 9 (refine plan_take (v := ?_) rfl (Or.inl ⟨by rfl, ?_⟩) ?_; rotate_left; (focus (intro w' hw'; obtain ⟨_, _, j1, j2⟩ := fr.below hw' hz; go_simp <;> with_reducible rfl)); try simp only [Act.put, List.setIfInBounds_toArray, List.set_cons_zero, List.set_cons_succ])
    refine plan_run rfl (fun K hK => ?_)
    go_simp
    refine (be_any k 2 _ hk64).mono ?_
    rintro e w1 ⟨A1, n1, c1, rfl, ho1, hb1⟩
    rw [HC.out] at ho1
    refine hK.out _ _ (undrew hb1) ?_
    clear hK
    try simp only [Act.put, List.setIfInBounds_toArray, List.set_cons_zero, List.set_cons_succ]
    refine plan_run rfl (fun K hK => ?_)
    go_simp
    refine hK.out _ _ ((undrew hb1).alloc (undrew hb1).size _) ?_
    clear hK
    try simp only [Act.put, List.setIfInBounds_toArray, List.set_cons_zero, List.set_cons_succ]
    refine plan_run rfl (fun K hK => ?_)
    go_simp
    have B1 := undrew hb1
    have rd := (md.below B1 hz).rd (by have := B1.size; omega)
    have rs := (ms.below B1 hz).rd (by have := B1.size; omega)
    have hlen2 : ([d.l, s.l, beB k 2, xs] : List (List UInt8)).flatten.length ≤ 70368744177664 := by simp [HL.out, Mc.l, beB_length]; omega
    refine (joined_any _ _ _ [.slice (some ⟨w.heap.size, 0, none⟩) 6 6, .slice (some ⟨w.heap.size, 6, none⟩) 6 6, .slice A1 n1 c1, .slice A n c] [d.l, s.l, beB k 2, xs] _ (Rd.new w1 #[.slice (some ⟨w.heap.size, 0, none⟩) 6 6, .slice (some ⟨w.heap.size, 6, none⟩) 6 6, .slice A1 n1 c1, .slice A n c] _) rfl (by simp)
      ⟨⟨_, _, _, rfl, rd.alloc _⟩, ⟨_, _, _, rfl, rs.alloc _⟩, ⟨_, _, _, rfl, ho1.rd.alloc _⟩, ⟨_, _, _, rfl, ((hr.below bW).below B1).alloc _⟩, trivial⟩ hlen2).mono ?_
    rintro e w3 ⟨A3, n3, c3, rfl, ho3, hb3⟩
    refine hK.out _ _ (below_then ((undrew hb1).alloc (undrew hb1).size _) hb3) ?_
    clear hK
    try simp only [Act.put, List.setIfInBounds_toArray, List.set_cons_zero, List.set_cons_succ]
    iterate 2 (refine plan_take (v := ?_) rfl (Or.inl ⟨by rfl, ?_⟩) ?_; rotate_left; (focus (intro w' hw'; obtain ⟨_, _, j1, j2⟩ := fr.below hw' hz; go_simp <;> with_reducible rfl)); try simp only [Act.put, List.setIfInBounds_toArray, List.set_cons_zero, List.set_cons_succ])
    refine plan_done ?_
    go_wp2
    go_ret2
    have B3 := below_then ((undrew hb1).alloc (undrew hb1).size _) hb3
    refine ⟨_, _, _, rfl, ?_, below_then bW B3⟩
    have := OwnB.mono ho3 (show w.heap.size ≤ _ by have := (undrew hb1).size; simp; omega)
    simpa using this

theorem refPut18_any (d s : Mc) (k : Nat) (A : Option Addr) (n c : Nat) (xs : List UInt8) (w : World) (hk : k < 65536) (hr : RdB w A n c xs) :
    Calls Try.prog 19 #[.agg #[.int .u8 (d.a0.toNat : Int), .int .u8 (d.a1.toNat : Int), .int .u8 (d.a2.toNat : Int), .int .u8 (d.a3.toNat : Int), .int .u8 (d.a4.toNat : Int), .int .u8 (d.a5.toNat : Int), .int .u8 (s.a0.toNat : Int), .int .u8 (s.a1.toNat : Int), .int .u8 (s.a2.toNat : Int), .int .u8 (s.a3.toNat : Int), .int .u8 (s.a4.toNat : Int), .int .u8 (s.a5.toNat : Int), .int .u16 k, .slice A n c]] w (RetBE w (ethPutL d s k xs) (ethPutE xs)) := by
  have hn63 := hr.n63
  have hlen := hr.2.1
  by_cases h : 166 < n
  · have e1 : ethPutL d s k xs = [] := by unfold ethPutL; rw [if_pos (by omega)]
    have e2 : ethPutE xs = 2 := by unfold ethPutE; rw [if_pos (by omega)]
    rw [e1, e2]
    have d1 : decide ((166 : Int) < (n : Int)) = true := decide_eq_true (by omega)
    clear e1 e2 hlen
    go_enter Try.func19, Try.ntmps19
    go_wp2
    go_ret2
    exact ⟨none, 0, 0, rfl, OwnB.nilB _ _, (below_self w).alloc (Nat.le_refl _) _⟩
  · have e1 : ethPutL d s k xs = d.l ++ (s.l ++ (beB k 2 ++ xs)) := by unfold ethPutL; rw [if_neg (by omega)]
    have e2 : ethPutE xs = 0 := by unfold ethPutE; rw [if_neg (by omega)]
    rw [e1, e2]
    have d1 : decide ((166 : Int) < (n : Int)) = false := decide_eq_false (by omega)
    have hk64 : k < 18446744073709551616 := by omega
    have hc2 : clamp 2 = 2 := rfl
    have HC := Lib.hid hc2
    have HL := Lib.hid hlen
    clear e1 e2 hlen hc2
    go_enter Try.func19, Try.ntmps19
    obtain ⟨W, hW⟩ : ∃ W, W = w.alloc (.cells #[.int .u8 (d.a0.toNat : Int), .int .u8 (d.a1.toNat : Int), .int .u8 (d.a2.toNat : Int), .int .u8 (d.a3.toNat : Int), .int .u8 (d.a4.toNat : Int), .int .u8 (d.a5.toNat : Int), .int .u8 (s.a0.toNat : Int), .int .u8 (s.a1.toNat : Int), .int .u8 (s.a2.toNat : Int), .int .u8 (s.a3.toNat : Int), .int .u8 (s.a4.toNat : Int), .int .u8 (s.a5.toNat : Int), .int .u16 k, .slice A n c] 27) := ⟨_, rfl⟩
    have bW : Below w.heap.size w W := by rw [hW]; exact (below_self w).alloc (Nat.le_refl _) _
    have hz : w.heap.size < W.heap.size := by rw [hW]; simp
    have fr : FrAt W w.heap.size d s k A n c := by rw [hW]; exact frBox ..
    have md := fr.1
    have ms := fr.2.1
    have hzW : W.heap.size = w.heap.size + 1 := by rw [hW]; simp
    have HW := Lib.hid hW
    have HZW := Lib.hid hzW
    clear hW hzW
    have hrW := hr.below bW
    go_wp2_with (first
      | (at_builtin; refine wp_appB rfl _ _ rfl hb1 (Nat.le_refl _) hb1.size _ _ _ _ rfl ho1 _ _ _ _ rfl ((ms.below hb1 hz).rd (Nat.lt_of_lt_of_le hz hb1.size)) (by omega) 12 (d.l ++ s.l) rfl rfl ?_; intro A2 c2 w2 ho2 hb2 hg2; have fr2 := fr.below hb2 hz; obtain ⟨_, _, f12, f13⟩ := fr2)
      | (at_builtin; rw [← HW.out]; refine wp_appB rfl _ _ rfl ((below_self W).alloc (Nat.le_refl _) _) (Nat.le_refl _) (by simp) _ _ _ _ rfl (own0' HZW.out) _ _ _ _ rfl ((md.rd hz).alloc _) (by omega) 6 d.l rfl (by simp) ?_; intro A1 c1 w1 ho1 hb1 hg1))
    refine (refBe_any k 2 _ hk64).mono ?_
    rintro e w3 ⟨A3, n3, c3, rfl, ho3, hb3⟩
    rw [HC.out] at ho3
    have hn3 : n3 = 2 := by rw [← ho3.len, beB_length]
    subst hn3
    have B3 := below_then hb2 hb3
    have ho2' := ho2.below hb3
    clear f12 f13
    go_wp2_with (first
      | (at_builtin; refine wp_appB rfl _ _ rfl hb4 (Nat.le_refl _) hb4.size _ _ _ _ rfl ho4 _ _ _ _ rfl (hrW.below hb4) (by omega) (14 + n) (d.l ++ s.l ++ beB k 2 ++ xs) rfl rfl ?_; intro A5 c5 w5 ho5 hb5 hg5)
      | (at_builtin; refine wp_appB rfl _ _ rfl B3 (Nat.le_refl _) B3.size _ _ _ _ rfl ho2' _ _ _ _ rfl ho3.rd (by omega) 14 (d.l ++ s.l ++ beB k 2) rfl rfl ?_; intro A4 c4 w4 ho4 hb4 hg4; have fr4 := fr.below hb4 hz; obtain ⟨_, _, f12, f13⟩ := fr4))
    go_ret2
    refine ⟨_, _, _, rfl, ?_, below_then bW hb5⟩
    have := OwnB.mono ho5 (show w.heap.size ≤ _ by omega)
    simpa [List.append_assoc] using this
end Go.Proofs.Ytieilgphcfiapaa
