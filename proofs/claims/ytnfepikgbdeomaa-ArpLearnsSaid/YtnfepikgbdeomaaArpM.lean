/-
  Layer 19: arp: what is asked: begins, said, Ask; HasPrefix.
-/
import Derived.Test.YtnfepikgbdeomaaArpL
import Derived.Test.YtnfepikgbdeomaaEthB
import Derived.Test.YtnfepikgbdeomaaNumC
namespace Go.Proofs.Ytnfepikgbdeomaa
set_option maxRecDepth 20000
open Go.RowKit
set_option linter.unusedVariables false
set_option linter.unusedSimpArgs false
set_option maxHeartbeats 8000000

def arBegins : List UInt8 := [0, 1, 8, 0, 6, 4]
/-- What is said: what for, to whom, of which address. -/
def arSaid (op : Nat) (to : Mc) (ip : Nat) : List UInt8 := [arBegins, beB op 2, mcOwn.l, beB 167772161 4, to.l, beB ip 4].flatten
/-- A literal slice handed back. -/
def RetBg (w : World) (e : Ending) (w' : World) : Prop := ∃ g, e = .returned (.slice (some ⟨g, 0, none⟩) 6 6) ∧ RdB w' (some ⟨g, 0, none⟩) 6 6 arBegins ∧ Below w.heap.size w w'
theorem arpBegins_any (w : World) : Calls Try.prog 103 #[] w (RetBg w) := by
  go_enter Try.func103, Try.ntmps103
  go_wp2
  go_ret
  exact ⟨w.heap.size, rfl, RdB.litM w _ (0, 0) arBegins 6 rfl rfl (by simp [maxLen]), (below_self w).alloc (Nat.le_refl _) _⟩
theorem arpEqB_any (A1 A2 : Option Addr) (n c m d : Nat) (xs ys : List UInt8) (w : World) (h1 : RdB w A1 n c xs) (h2 : RdB w A2 m d ys) :
    Calls Try.prog 96 #[.slice A1 n c, .slice A2 m d] w fun e w' => e = .returned (.bool (decide (xs = ys))) ∧ w = w' := by
  have k1 := h1.str
  have k2 := h2.str
  have k3 := strOf_eq xs ys
  go_enter Try.func96, Try.ntmps96
  go_wp2
  go_ret
  exact ⟨rfl, rfl⟩
theorem hasPrefix_any (A1 A2 : Option Addr) (n c m d : Nat) (xs ys : List UInt8) (w : World) (h1 : RdB w A1 n c xs) (h2 : RdB w A2 m d ys) (hmn : m ≤ n) :
    Calls Try.prog 102 #[.slice A1 n c, .slice A2 m d] w (RetV w (.bool (decide (xs.take m = ys)))) := by
  have d1 : decide (m ≤ n) = true := decide_eq_true hmn
  have d2 : decide ((m : Int) ≤ (n : Int)) = true := decide_eq_true (by omega)
  have hmc : m ≤ c := by have := h1.2.2.1; omega
  have H := Lib.hid (fun W (a : RdB W A1 m c (xs.take m)) (b : RdB W A2 m d ys) => arpEqB_any A1 A2 m c m d (xs.take m) ys W a b)
  obtain ⟨F, hF⟩ : ∃ F, decide (xs.take m = ys) = F := ⟨_, rfl⟩
  rw [hF] at H ⊢
  have r1 := h1.take m hmn
  have R1 := Lib.hid r1
  have R2 := Lib.hid h2
  clear hF h1 r1 h2
  go_enter Try.func102, Try.ntmps102
  go_wp2_with fail
  refine (H.out _ R1.out R2.out).mono ?_
  rintro e w1 ⟨rfl, rfl⟩
  go_wp2_with fail
  go_ret
  exact ⟨rfl, Below.refl _ _⟩
theorem arpSaid_any (op : Nat) (to : Mc) (ip : Nat) (w : World) (hop : op < 18446744073709551616) (hip : ip < 4294967296) :
    Calls Try.prog 106 #[.int .u64 (op : Int), .agg #[.int .u8 (to.a0.toNat : Int), .int .u8 (to.a1.toNat : Int), .int .u8 (to.a2.toNat : Int), .int .u8 (to.a3.toNat : Int), .int .u8 (to.a4.toNat : Int), .int .u8 (to.a5.toNat : Int)], .int .u32 (ip : Int)] w (RetB w (arSaid op to ip)) := by
  obtain ⟨V, hV⟩ : ∃ V, V = w.alloc (.cells #[.int .u8 (to.a0.toNat : Int), .int .u8 (to.a1.toNat : Int), .int .u8 (to.a2.toNat : Int), .int .u8 (to.a3.toNat : Int), .int .u8 (to.a4.toNat : Int), .int .u8 (to.a5.toNat : Int)] 96) := ⟨_, rfl⟩
  have bV : Below w.heap.size w V := by rw [hV]; exact (below_self w).alloc (Nat.le_refl _) _
  have qV : MacAt V w.heap.size 0 to := by rw [hV]; exact ⟨alloc_box _ _ _ 0, alloc_box _ _ _ 1, alloc_box _ _ _ 2, alloc_box _ _ _ 3, alloc_box _ _ _ 4, alloc_box _ _ _ 5⟩
  have lV : w.heap.size < V.heap.size := by rw [hV]; simp
  have HV := Lib.hid hV
  have HQ := Lib.hid qV
  have hfl : (arSaid op to ip).length ≤ 100 := by
    have h : ∀ n k, (beB n k).length = k := fun n k => by simp [beB, leB]
    simp [arSaid, arBegins, h, Mc.l]
  have HFL := Lib.hid hfl
  have w1 : IntKind.u64.wrap (ip : Int) = (ip : Int) := w64n (by omega)
  have H2 := Lib.hid (fun W => be_any op 2 W hop)
  have H4 : Hid (∀ W, Calls Try.prog 136 #[.int .u64 167772161, .int .i64 4] W (RetB W (beB 167772161 4))) := Lib.hid (fun W => be_any 167772161 4 W (by omega))
  have H6 := Lib.hid (fun W => be_any ip 4 W (by omega))
  clear hV qV hfl
  go_enter Try.func106, Try.ntmps106
  go_wp2_with fail
  rw [← HV.out]
  refine (ethOwn_any _).mono ?_
  rintro e w1 ⟨rfl, hb1⟩
  have B1 := below_then bV hb1
  have q1 := HQ.out.below hb1 lV
  have l1 := hb1.size
  go_wp2_with fail
  obtain ⟨W2, hW2⟩ : ∃ W, W = w1.alloc (.cells #[.int .u8 (mcOwn.a0.toNat : Int), .int .u8 (mcOwn.a1.toNat : Int), .int .u8 (mcOwn.a2.toNat : Int), .int .u8 (mcOwn.a3.toNat : Int), .int .u8 (mcOwn.a4.toNat : Int), .int .u8 (mcOwn.a5.toNat : Int)] 96) := ⟨_, rfl⟩
  have bW2 : Below w1.heap.size w1 W2 := by rw [hW2]; exact (below_self w1).alloc (Nat.le_refl _) _
  have m2 : MacAt W2 w1.heap.size 0 mcOwn := by rw [hW2]; exact ⟨alloc_box _ _ _ 0, alloc_box _ _ _ 1, alloc_box _ _ _ 2, alloc_box _ _ _ 3, alloc_box _ _ _ 4, alloc_box _ _ _ 5⟩
  have lm2 : w1.heap.size < W2.heap.size := by rw [hW2]; simp
  have q2 := q1.below bW2 (by omega)
  have B2 := below_then B1 bW2
  have rm := Lib.hid (m2.rd lm2)
  have rt := Lib.hid (q2.rd (by omega))
  rw [← hW2]
  clear hW2 m2 q2 q1
  refine wp_region_seg (S := fun w' => Below W2.heap.size W2 w') 0 #[true, true, true, true, true, true, true, true, true, true, true, true, true, true] [(1, true), (3, true), (4, true), (5, true), (7, true), (8, true), (9, true), (0, false), (2, false), (6, false), (10, false), (11, false), (12, false), (13, true)] (by kernel_rfl) (by kernel_rfl) (fun _ _ d _ _ h => by first | (cases d <;> exact h) | cases h.1) ((Below.refl W2.heap.size W2).drew) ?_
  have HB := (Below.refl W2.heap.size W2).drew
  iterate 7 (refine seg_take (v := ?_) rfl (Or.inl ⟨by rfl, ?_⟩) ?_; rotate_left; (focus (intro w' hw'; go_simp <;> with_reducible rfl)); try simp only [Act.put, List.setIfInBounds_toArray, List.set_cons_zero, List.set_cons_succ])
  refine seg_run rfl (fun K hK => ?_)
  go_simp
  refine (arpBegins_any _).mono ?_
  rintro e_ w3 ⟨g3, rfl, r3, hb3⟩
  have HB := below_then HB hb3
  refine hK.out _ _ (HB) ?_
  clear hK
  try simp only [Act.put, List.setIfInBounds_toArray, List.set_cons_zero, List.set_cons_succ]
  refine seg_run rfl (fun K hK => ?_)
  go_simp
  refine (H2.out _).mono ?_
  rintro e_ w4 ⟨A4, n4, c4, rfl, o4, hb4⟩
  have HB := below_then HB hb4
  have r4 := o4.rd
  have r3 := r3.below hb4
  refine hK.out _ _ (HB) ?_
  clear hK
  try simp only [Act.put, List.setIfInBounds_toArray, List.set_cons_zero, List.set_cons_succ]
  refine seg_run rfl (fun K hK => ?_)
  go_simp
  refine (H4.out _).mono ?_
  rintro e_ w5 ⟨A5, n5, c5, rfl, o5, hb5⟩
  have HB := below_then HB hb5
  have r5 := o5.rd
  have r4 := r4.below hb5
  have r3 := r3.below hb5
  refine hK.out _ _ (HB) ?_
  clear hK
  try simp only [Act.put, List.setIfInBounds_toArray, List.set_cons_zero, List.set_cons_succ]
  refine seg_run rfl (fun K hK => ?_)
  go_simp
  refine (H6.out _).mono ?_
  rintro e_ w6 ⟨A6, n6, c6, rfl, o6, hb6⟩
  have HB := below_then HB hb6
  have r6 := o6.rd
  have r5 := r5.below hb6
  have r4 := r4.below hb6
  have r3 := r3.below hb6
  refine hK.out _ _ (HB) ?_
  clear hK
  try simp only [Act.put, List.setIfInBounds_toArray, List.set_cons_zero, List.set_cons_succ]
  refine seg_run rfl (fun K hK => ?_)
  rw [if_pos (by rfl)]
  refine op_lit #[.slice (some ⟨g3, 0, none⟩) 6 6, .slice A4 n4 c4, .slice (some ⟨w1.heap.size, 0, none⟩) 6 6, .slice A5 n5 c5, .slice (some ⟨w.heap.size, 0, none⟩) 6 6, .slice A6 n6 c6] 26 6 rfl (fun w => by go_simp) ?_
  intro gP wP eP hProw HPb hPsz
  have HB := below_then HB HPb
  have r3 := r3.below HPb
  have r4 := r4.below HPb
  have r5 := r5.below HPb
  have r6 := r6.below HPb
  have rP := rdsAt hProw
  refine hK.out _ _ (HB) ?_
  clear hK
  try simp only [Act.put, List.setIfInBounds_toArray, List.set_cons_zero, List.set_cons_succ]
  refine seg_run rfl (fun K hK => ?_)
  go_simp
  refine (concat_any _ 6 6 _ [arBegins, beB op 2, mcOwn.l, beB 167772161 4, to.l, beB ip 4] _ rP rfl (by omega) ⟨⟨_, _, _, rfl, r3⟩, ⟨_, _, _, rfl, r4⟩, ⟨_, _, _, rfl, rm.out.below HB⟩, ⟨_, _, _, rfl, r5⟩, ⟨_, _, _, rfl, rt.out.below HB⟩, ⟨_, _, _, rfl, r6⟩, trivial⟩ (Nat.le_trans HFL.out (by omega))).mono ?_
  rintro e_ wJ ⟨AJ, nJ, cJ, rfl, oJ, hbJ⟩
  have HBJ := HB
  have HB := below_then HB hbJ
  refine hK.out _ _ (HB) ?_
  clear hK
  try simp only [Act.put, List.setIfInBounds_toArray, List.set_cons_zero, List.set_cons_succ]
  iterate 1 (refine seg_take (v := ?_) rfl (Or.inl ⟨by rfl, ?_⟩) ?_; rotate_left; (focus (intro w' hw'; go_simp <;> with_reducible rfl)); try simp only [Act.put, List.setIfInBounds_toArray, List.set_cons_zero, List.set_cons_succ])
  refine seg_done (fun _ => ?_)
  refine wpAnyH_done (by kernel_rfl) ?_ _
  go_wp2_with fail
  go_ret
  have B9 := below_then B2 HB
  exact ⟨AJ, nJ, cJ, rfl, oJ.mono (below_then B2 HBJ).size, B9⟩
theorem arpAsk_any (ip : Nat) (w : World) (hip : ip < 4294967296) :
    Calls Try.prog 99 #[.int .u32 (ip : Int)] w (RetB w (arSaid 1 mcZero ip)) := by
  have H : Hid (∀ W, Calls Try.prog 106 #[.int .u64 1, .agg #[.int .u8 0, .int .u8 0, .int .u8 0, .int .u8 0, .int .u8 0, .int .u8 0], .int .u32 (ip : Int)] W (RetB W (arSaid 1 mcZero ip))) := Lib.hid (fun W => arpSaid_any 1 mcZero ip W (by omega) hip)
  go_enter Try.func99, Try.ntmps99
  go_wp2_with fail
  refine (H.out _).mono ?_
  rintro e w1 ⟨A1, n1, c1, rfl, o1, hb1⟩
  go_wp2_with fail
  go_ret
  exact ⟨A1, n1, c1, rfl, o1, hb1⟩
end Go.Proofs.Ytnfepikgbdeomaa
