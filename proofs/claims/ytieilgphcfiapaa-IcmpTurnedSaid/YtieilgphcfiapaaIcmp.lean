/-
  Layer 22: sums in their place.
-/
import Derived.Test.YtieilgphcfiapaaIpM
import Derived.Test.YtieilgphcfiapaaIpP
import Derived.Test.YtieilgphcfiapaaAid
import Derived.Lib.SliceRun
namespace Go.Proofs.Ytieilgphcfiapaa
set_option maxRecDepth 20000
open Go.RowKit
set_option linter.unusedVariables false
set_option linter.unusedSimpArgs false
set_option maxHeartbeats 4000000

def smd (xs : List UInt8) : List UInt8 := xs.take 2 ++ (beB (numCheck (xs.take 2 ++ ([0, 0] ++ xs.drop 4))) 2 ++ xs.drop 4)
theorem smd_length (xs : List UInt8) (h : 4 ≤ xs.length) : (smd xs).length = xs.length := by simp [smd, beB_length]; omega
theorem smd_check (xs : List UInt8) (h : 4 ≤ xs.length) : numCheck (smd xs) = 0 := ck_field_zero _ _ (by rw [List.length_take]; omega)

/-- 'clear(s)' of two bytes. -/
theorem wp_clear2 {ops : Array Oper} {rest : List Oper} {o : Oper} {a : Act} {w : World} {Q : Exit → Act → World → Prop} (hgd : o.guard = none) (s : Operand)
    (ho : o.op = .call { callee := .builtin .clear, args := #[s], argTypes := #[25] })
    (b off cap : Nat) (hs : a.eval s = .slice (some ⟨b, off, none⟩) 2 cap) (u v : Value) (c0 : w.cell? ⟨b, off, none⟩ = some u) (c1 : w.cell? ⟨b, off + 1, none⟩ = some v) (f0 : w.frozen? ⟨b, off, none⟩ = false) (f1 : w.frozen? ⟨b, off + 1, none⟩ = false)
    (h : wpList Try.prog ops Q rest (a.put o.dst (.tuple #[])) ((w.setCell ⟨b, off, none⟩ (.int .u8 0)).setCell ⟨b, off + 1, none⟩ (.int .u8 0))) : wpList Try.prog ops Q (o :: rest) a w := by
  refine wpList_plain hgd fun K hK => ?_
  have hrun := Lib.run_clear_slice (P := Try.prog) w 25 5 o.type (.int .u8 0) Try.underlying25 (fun w => by kernel_rfl) rfl rfl b off 2 cap (by omega)
    (fun j hj => by match j, hj with
      | 0, _ => rw [Nat.add_zero, c0]; rfl
      | 1, _ => rw [c1]; rfl)
    (fun j hj => by match j, hj with
      | 0, _ => exact f0
      | 1, _ => exact f1)
  unfold Oper.wp execOp
  simp only [ho, resolve, invoke, builtin, Sem.run_bind, Sem.run_pure, Result.andThen_ok, List.map_toArray, List.map_cons, List.map_nil, hs, hrun]
  exact hK _ _ h

theorem icmpHolds_any (A : Option Addr) (n c : Nat) (xs : List UInt8) (w : World) (hr : RdB w A n c xs) :
    Calls Try.prog 61 #[.slice A n c] w fun e w' => e = .returned (.bool (decide (8 ≤ n) && decide (numCheck xs = 0))) ∧ w = w' := by
  have hn := hr.n63
  by_cases h : 8 ≤ n
  · have d1 : decide ((8 : Int) ≤ (n : Int)) = true := decide_eq_true (by omega)
    have e1 : decide (8 ≤ n) = true := decide_eq_true h
    have e2 : (((numCheck xs : Nat) : Int) == 0) = decide (numCheck xs = 0) := by
      rw [Bool.eq_iff_iff, beq_iff_eq, decide_eq_true_iff]; omega
    obtain ⟨R, hR⟩ : ∃ R, decide (numCheck xs = 0) = R := ⟨decide (numCheck xs = 0), rfl⟩
    rw [hR] at e2 ⊢
    obtain ⟨C, hC⟩ : ∃ C, numCheck xs = C := ⟨numCheck xs, rfl⟩
    rw [hC] at e2
    have HC := Lib.hid hC
    clear hC hR
    go_enter Try.func61, Try.ntmps61
    go_wp2_with fail
    have hh := numCheck_any A n c xs w hr
    rw [HC.out] at hh
    refine hh.mono ?_
    rintro e w1 ⟨rfl, rfl⟩
    go_wp2
    go_ret
    exact ⟨by rw [e1]; rfl, rfl⟩
  · have d1 : decide ((8 : Int) ≤ (n : Int)) = false := decide_eq_false (by omega)
    have e1 : decide (8 ≤ n) = false := decide_eq_false h
    go_enter Try.func61, Try.ntmps61
    go_wp2
    go_ret
    exact ⟨by rw [e1]; rfl, rfl⟩

def echoE (n : Nat) (xs : List UInt8) : Int := if n < 8 then 5 else if numCheck xs ≠ 0 then 6 else if xs.getD 0 0 ≠ 8 ∨ xs.getD 1 0 ≠ 0 then 180 else 0
theorem summed_any (A : Option Addr) (n c : Nat) (xs : List UInt8) (w : World) (hr : RdB w A n c xs) (h4 : 4 ≤ n) (hn : n ≤ 1000000) :
    Calls Try.prog 80 #[.slice A n c, .func (.func 70) #[] #[]] w (RetB w (smd xs)) := by
  have hl := hr.2.1
  go_enter Try.func80, Try.ntmps80
  go_wp2_with fail
  refine (clone18_any A n c xs w hr (by omega)).mono ?_
  rintro e w1 ⟨A1, n1, c1, rfl, ho1, hb1⟩
  have hn1 : n = n1 := by rw [← ho1.len, hl]
  subst hn1
  obtain ⟨g, rfl, hg1, hg2⟩ := ho1.addr (by omega)
  have hc1 := ho1.rd.2.2.1
  have hc63 := ho1.rd.c63
  have c2 := ho1.rd.cellS 2 (by omega)
  have c3 := ho1.rd.cellS 3 (by omega)
  rw [Nat.zero_add] at c2 c3
  have f2 := ho1.free 2
  have f3 := ho1.free 3
  have k4 : (4 : Int) ≤ (c1 : Int) := by omega
  go_wp2_with (refine wp_clear2 rfl _ rfl g 2 2 rfl _ _ c2 c3 f2 f3 ?_)
  have o2 := (ho1.set_ 2 0).set_ 3 0
  have hxs : ((xs.set 2 0).set 3 0) = xs.take 2 ++ ([0, 0] ++ xs.drop 4) := set2_field xs 0 0 2 (by omega)
  rw [hxs] at o2
  have b2 := (hb1.setCell (p := ⟨g, 2, none⟩) hg1 (.int .u8 0)).setCell (p := ⟨g, 3, none⟩) hg1 (.int .u8 0)
  refine named ?_
  intro W2 hW2
  have o2' : OwnB W2 w.heap.size (some ⟨g, 0, none⟩) n c1 (xs.take 2 ++ ([0, 0] ++ xs.drop 4)) := by rw [hW2]; exact o2
  have b2' : Below w.heap.size w W2 := by rw [hW2]; exact b2
  clear c2 c3 f2 f3 o2 b2 hW2 ho1
  obtain ⟨Z, hZ⟩ : ∃ Z, xs.take 2 ++ ([0, 0] ++ xs.drop 4) = Z := ⟨_, rfl⟩
  rw [hZ] at o2'
  obtain ⟨S, hS⟩ : ∃ S, numCheck Z = S := ⟨numCheck Z, rfl⟩
  have hS2 : S < 65536 := by rw [← hS]; unfold numCheck; omega
  have wS := w64n (k := S) (by omega)
  have hh := numCheck_any (some ⟨g, 0, none⟩) n c1 Z W2 o2'.rd
  rw [hS] at hh
  refine hh.mono ?_
  clear hh
  rintro e w3 ⟨rfl, rfl⟩
  go_wp2_with fail
  refine (be_any S 2 W2 (by omega)).mono ?_
  rintro e w4 ⟨A4, n4, c4, rfl, ho4, hb4⟩
  rw [show clamp 2 = 2 from rfl] at ho4
  have hn4 : n4 = 2 := by rw [← ho4.len, beB_length]
  subst hn4
  have z2 := b2'.size
  go_wp2_with ((with_reducible refine wp_copyB rfl (.tmp 12) (.tmp 17) rfl (below_then b2' hb4) (Nat.le_refl _) (some ⟨g, 0, none⟩) n c1 Z (o2'.below hb4) 2 2 (some ⟨g, 2, none⟩) 2 2 rfl (fun _ => ⟨g, rfl, rfl⟩) A4 c4 (beB S 2) rfl ho4.rd (by omega) (by omega) ?_); intro w5 ho5 hb5)
  go_ret
  refine ⟨_, _, _, rfl, ?_, hb5⟩
  have e5 : Z.take 2 ++ (beB S 2 ++ Z.drop (2 + 2)) = smd xs := by
    have t2 : (xs.take 2).length = 2 := by rw [List.length_take]; omega
    have e6 : (xs.take 2 ++ ([0, 0] ++ xs.drop 4)).take 2 = xs.take 2 := by
      rw [List.take_append_of_le_length (by omega), List.take_of_length_le (by omega)]
    have e7 : (xs.take 2 ++ ([0, 0] ++ xs.drop 4)).drop (2 + 2) = xs.drop 4 := by
      rw [List.drop_append, List.drop_of_length_le (show (xs.take 2).length ≤ 2 + 2 by omega), List.nil_append, t2]
      rfl
    unfold smd
    rw [← hS, ← hZ, e6, e7]
  rw [e5] at ho5
  exact ho5

theorem echo_cases (n : Nat) (xs : List UInt8) : (n < 8 ∧ echoE n xs = 5) ∨ (8 ≤ n ∧ numCheck xs ≠ 0 ∧ echoE n xs = 6) ∨ (8 ≤ n ∧ numCheck xs = 0 ∧ xs.getD 0 0 ≠ 8 ∧ echoE n xs = 180) ∨ (8 ≤ n ∧ numCheck xs = 0 ∧ xs.getD 0 0 = 8 ∧ xs.getD 1 0 ≠ 0 ∧ echoE n xs = 180) ∨ (8 ≤ n ∧ numCheck xs = 0 ∧ xs.getD 0 0 = 8 ∧ xs.getD 1 0 = 0 ∧ echoE n xs = 0) := by
  unfold echoE
  by_cases h1 : n < 8
  · exact .inl ⟨h1, if_pos h1⟩
  · right; rw [if_neg h1]
    have h1' : 8 ≤ n := by omega
    by_cases h2 : numCheck xs ≠ 0
    · exact .inl ⟨h1', h2, if_pos h2⟩
    · right; rw [if_neg h2]
      have h2' : numCheck xs = 0 := Decidable.not_not.1 h2
      by_cases h3 : xs.getD 0 0 = 8
      · by_cases h4 : xs.getD 1 0 = 0
        · right; right; exact ⟨h1', h2', h3, h4, if_neg (by rw [h3, h4]; decide)⟩
        · right; left; exact ⟨h1', h2', h3, h4, if_pos (.inr h4)⟩
      · left; exact ⟨h1', h2', h3, if_pos (.inl h3)⟩
def echoL (xs : List UInt8) (er : Int) : List UInt8 := if er = 0 then smd ([0] ++ xs.drop 1) else []
theorem u8_ne' (u v : UInt8) (h : u ≠ v) : ((u.toNat : Int) != (v.toNat : Int)) = true := by
  rw [bne_iff_ne]; intro e; exact h (UInt8.toNat_inj.1 (by omega))

theorem echo_any (A : Option Addr) (n c : Nat) (xs : List UInt8) (w : World) (hr : RdB w A n c xs) (hn : n ≤ 100000) :
    Calls Try.prog 60 #[.slice A n c] w (RetBE w (echoL xs (echoE n xs)) (echoE n xs)) := by
  have hl := hr.2.1
  have hh : Calls Try.prog 61 #[.slice A n c] w fun e w' => e = .returned (.bool (decide (8 ≤ n) && decide (numCheck xs = 0))) ∧ w = w' := icmpHolds_any A n c xs w hr
  have hnc := hr.2.2.1
  have hc63 := hr.c63
  rcases echo_cases n xs with ⟨h1, h2⟩ | ⟨h1, h2, h3⟩ | ⟨h1, h2, h3, h4⟩ | ⟨h1, h2, h3, h4, h5⟩ | ⟨h1, h2, h3, h4, h5⟩
  · rw [h2, show echoL xs 5 = [] from rfl]
    have d1 : decide ((n : Int) < 8) = true := decide_eq_true (by omega)
    clear h2 hh
    go_enter Try.func60, Try.ntmps60
    go_wp2
    go_ret2
    exact ⟨none, 0, 0, rfl, OwnB.nilB _ _, below_self w⟩
  · rw [h3, show echoL xs 6 = [] from rfl]
    have d1 : decide ((n : Int) < 8) = false := decide_eq_false (by omega)
    rw [decide_eq_true h1, decide_eq_false h2] at hh
    clear h3 h2
    go_enter Try.func60, Try.ntmps60
    go_wp2_with fail
    refine hh.mono ?_
    rintro e w1 ⟨rfl, rfl⟩
    go_wp2
    go_ret2
    exact ⟨none, 0, 0, rfl, OwnB.nilB _ _, below_self w⟩
  · rw [h4, show echoL xs 180 = [] from rfl]
    have d1 : decide ((n : Int) < 8) = false := decide_eq_false (by omega)
    rw [decide_eq_true h1, decide_eq_true h2] at hh
    have hne := u8_ne' _ 8 h3
    clear h4 h2 h3
    obtain ⟨b, o, u, rfl, hbl, _⟩ := hr.at_ 0 (by omega)
    have c0 := hr.cellS 0 (by omega)
    rw [Nat.add_zero] at c0
    obtain ⟨V, hV⟩ : ∃ V : Nat, (xs.getD 0 0).toNat = V := ⟨_, rfl⟩
    rw [hV] at c0 hne
    have hne : ((V : Int) != 8) = true := hne
    have k0 : (0 : Int) < (n : Int) := by omega
    clear hV
    go_enter Try.func60, Try.ntmps60
    go_wp2_with fail
    refine hh.mono ?_
    rintro e w1 ⟨rfl, rfl⟩
    go_wp2
    go_ret2
    exact ⟨none, 0, 0, rfl, OwnB.nilB _ _, below_self w⟩
  · rw [h5, show echoL xs 180 = [] from rfl]
    have d1 : decide ((n : Int) < 8) = false := decide_eq_false (by omega)
    rw [decide_eq_true h1, decide_eq_true h2] at hh
    have hne := u8_ne' _ 0 h4
    obtain ⟨b, o, u, rfl, hbl, _⟩ := hr.at_ 0 (by omega)
    have c0 := hr.cellS 0 (by omega)
    rw [Nat.add_zero, h3] at c0
    have c0 : w.cell? ⟨b, o, none⟩ = some (.int .u8 8) := c0
    have c1 := hr.cellS 1 (by omega)
    obtain ⟨V, hV⟩ : ∃ V : Nat, (xs.getD 1 0).toNat = V := ⟨_, rfl⟩
    rw [hV] at c1 hne
    have hne : ((V : Int) != 0) = true := hne
    have k0 : (0 : Int) < (n : Int) := by omega
    have k1 : (1 : Int) < (n : Int) := by omega
    clear hV h5 h2 h3 h4
    go_enter Try.func60, Try.ntmps60
    go_wp2_with fail
    refine hh.mono ?_
    rintro e w1 ⟨rfl, rfl⟩
    go_wp2
    go_ret2
    exact ⟨none, 0, 0, rfl, OwnB.nilB _ _, below_self w⟩
  · rw [h5, show echoL xs 0 = smd ([0] ++ xs.drop 1) from rfl]
    have d1 : decide ((n : Int) < 8) = false := decide_eq_false (by omega)
    rw [decide_eq_true h1, decide_eq_true h2] at hh
    obtain ⟨b, o, u, rfl, hbl, _⟩ := hr.at_ 0 (by omega)
    have c0 := hr.cellS 0 (by omega)
    rw [Nat.add_zero, h3] at c0
    have c0 : w.cell? ⟨b, o, none⟩ = some (.int .u8 8) := c0
    have c1 := hr.cellS 1 (by omega)
    rw [h4] at c1
    have c1 : w.cell? ⟨b, o + 1, none⟩ = some (.int .u8 0) := c1
    have k0 : (0 : Int) < (n : Int) := by omega
    have k1 : (1 : Int) < (n : Int) := by omega
    have k2 : (1 : Int) ≤ (n : Int) := by omega
    have k3 : (n : Int) ≤ (c : Int) := by omega
    have kc : ¬ (c = 1) := by omega
    have hd := hr.cutS 1 (n - 1) (by omega) (by omega)
    clear h5 h2 h3 h4
    go_enter Try.func60, Try.ntmps60
    go_wp2_with fail
    refine hh.mono ?_
    rintro e w1 ⟨rfl, rfl⟩
    go_wp2_with fail
    refine named ?_
    intro W2 hW2
    have bW2 : Below w.heap.size w W2 := by rw [hW2]; repeat' (first | exact Below.refl _ _ | (refine Below.alloc ?_ ?_ _; rotate_left; (simp <;> omega)) | refine Below.drew ?_)
    have zW2 := bW2.size
    have HW2 := Lib.hid hW2
    clear hW2
    have hrow : Rd W2 (some ⟨w.heap.size + 1, 0, none⟩) [.slice (some ⟨w.heap.size, 0, none⟩) 1 1, .slice (some ⟨b, o + 1, none⟩) (n - 1) (c - 1)] := by
      rw [HW2.out]
      have := Rd.new (w.alloc (.cells #[.int .u8 0] 5)) #[.slice (some ⟨w.heap.size, 0, none⟩) 1 1, .slice (some ⟨b, o + 1, none⟩) (n - 1) (c - 1)] 25
      rwa [show (w.alloc (.cells #[.int .u8 0] 5)).heap.size = w.heap.size + 1 by simp] at this
    have r0 : RdB W2 (some ⟨w.heap.size, 0, none⟩) 1 1 [0] := by rw [HW2.out]; exact (rd1 w 0 0 rfl).alloc _
    have r1 := hd.below bW2
    have hlen : ([[0], xs.drop 1] : List (List UInt8)).flatten.length ≤ 70368744177664 := by simp [hl]; omega
    refine (concat_any (some ⟨w.heap.size + 1, 0, none⟩) 2 2 [.slice (some ⟨w.heap.size, 0, none⟩) 1 1, .slice (some ⟨b, o + 1, none⟩) (n - 1) (c - 1)] [[0], xs.drop 1] W2 hrow rfl (by omega) ⟨⟨_, _, _, rfl, r0⟩, ⟨_, _, _, rfl, r1⟩, trivial⟩ hlen).mono ?_
    rintro e w3 ⟨A3, n3, c3, rfl, ho3, hb3⟩
    rw [show [[0], xs.drop 1].flatten = [0] ++ xs.drop 1 by simp] at ho3
    have hn3 : n3 = n := by rw [← ho3.len]; simp [hl]; omega
    subst hn3
    go_wp2_with fail
    refine (summed_any A3 n3 c3 _ w3 ho3.rd (by omega) (by omega)).mono ?_
    rintro e w4 ⟨A4, n4, c4, rfl, ho4, hb4⟩
    go_wp2
    go_ret2
    exact ⟨_, _, _, rfl, ho4.mono (by have := bW2.size; have := hb3.size; omega), below_then bW2 (below_then hb3 hb4)⟩
end Go.Proofs.Ytieilgphcfiapaa
