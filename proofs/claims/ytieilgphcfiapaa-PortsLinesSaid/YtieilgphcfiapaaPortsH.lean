/-
  The law PortsLines.
-/
import Derived.Test.YtieilgphcfiapaaPortsG
namespace Go.Proofs.Ytieilgphcfiapaa
set_option maxRecDepth 20000
open Go.RowKit
set_option linter.unusedVariables false
set_option linter.unusedSimpArgs false
set_option maxHeartbeats 8000000

def LinesI (w : World) (m k : Nat) (A : Option Addr) (n c : Nat) (s3 s4 : Value) (V : World) : Prop :=
  ∃ (i : Nat) (last : Int) (l : Nat), -1 ≤ last ∧ last ≤ 31 ∧ (i : Int) ≤ last + 1 ∧ l < 4294967296 ∧ (∀ q : Nat, (q : Int) ≤ last → (l &&& m).testBit q = false) ∧ s3 = .int .i64 last ∧ s4 = .int .i64 (i : Nat) ∧ PtAt V w.heap.size l m k A n c ∧ Below w.heap.size w V

theorem clr_and (l m j q : Nat) (h : ∀ r : Nat, r < j → (l &&& m).testBit r = false) (hq : q ≤ j) : (clrN l j &&& m).testBit q = false := by
  rw [Nat.testBit_and, clrN_test]
  by_cases e : j = q
  · simp [e]
  · have := h q (by omega)
    rw [Nat.testBit_and] at this
    cases h1 : l.testBit q <;> cases h2 : m.testBit q <;> simp_all

theorem portsLines_law (l m k : Nat) (A : Option Addr) (n c : Nat) (xs : List UInt8) (w : World) (hl : l < 4294967296) (hm : m < 4294967296) (hk : k < 18446744073709551616) (hr : RdB w A n c xs) :
    Calls Try.prog 9 #[.agg #[.int .u32 l, .int .u32 m, .int .u64 k, .slice A n c]] w (RetV w (.bool true)) := by
  have hn := hr.n63
  go_enter Try.func9, Try.ntmps9
  go_wp2_with fail
  refine named ?_
  intro W1 hW1
  have bW1 : Below w.heap.size w W1 := by rw [hW1]; repeat' (first | exact Below.refl _ _ | (refine Below.alloc ?_ ?_ _; rotate_left; (simp <;> omega)) | refine Below.drew ?_)
  have zW1 := bW1.size
  have P1 : PtAt W1 w.heap.size l m k A n c := by rw [hW1]; exact row1 ..
  have HW1 := Lib.hid hW1
  clear hW1
  refine (refCheck06_any l m k A n c W1 hn hk).mono ?_
  rintro e w2 ⟨rfl, hb2⟩
  have P2 := P1.below hb2 P1.lt
  have B2 := below_then bW1 hb2
  cases hck : ptCheck k n with
  | false =>
    go_wp2_with fail
    refine (heads06 _).mono ?_
    rintro e w9 ⟨rfl, hb9⟩
    go_wp2
    go_ret
    exact ⟨rfl, below_then B2 hb9⟩
  | true =>
    have HI : LinesI w m k A n c (.int .i64 (-1)) (.int .i64 0) w2 := ⟨0, -1, l, by omega, by omega, by omega, hl, fun q hq => by omega, rfl, rfl, P2, B2⟩
    clear hl P1 P2 B2 hb2
    go_wp2_with fail
    go_loopw [3, 4] (LinesI w m k A n c) (fun _ i _ => 64 - (intOf i).toNat)
    case atStart => exact HI
    case round =>
      obtain ⟨i, last, l1, g1, g2, g3, hl1, g4, rfl, rfl, hP, hB⟩ := hrel
      have G4 := Lib.hid g4
      clear g4 HI
      have k1 : decide ((i : Int) < 33) = true := decide_eq_true (by omega)
      obtain ⟨a0, a1, a2, a3, af⟩ := hP.cells
      clear af
      go_wp2_with fail
      clear a0 a1 a2 a3
      have hpend : pendN l1 m k n = lowN (l1 &&& m) := by unfold pendN; rw [hck]; rfl
      have hh := ptPend_any l1 m k A n c wr hn hl1 hm hk
      rw [hpend] at hh
      have ha := and32 l1 m hl1 hm
      have hx : l1 &&& m < 4294967296 := andN_lt l1 m hl1
      rcases lowN_cases (l1 &&& m) with ⟨e1, e2⟩ | ⟨j, hj, e1, e2, e3⟩
      · have e0 := zero_of_bits _ hx e2
        rw [e1] at hh
        rw [e0] at ha
        refine hh.mono ?_
        clear hh e2
        rintro e v1 ⟨rfl, hb1⟩
        obtain ⟨a0, a1, a2, a3, af⟩ := (hP.below hb1 hP.lt).cells
        clear af
        go_wp2_with fail
        refine (heads06 _).mono ?_
        rintro e w9 ⟨rfl, hb9⟩
        go_wp2
        go_ret
        exact ⟨rfl, below_then (below_then hB hb1) hb9⟩
      · rw [e1] at hh
        have hlast : last < (j : Int) := by
          rcases Int.lt_or_le last (j : Int) with h | h
          · exact h
          · have := G4.out j h; rw [e2] at this; cases this
        have E3 := Lib.hid e3
        have hxj : l1 &&& m &&& 2 ^ j ≠ 0 := fun h => by rw [bit_and, e2] at h; cases h
        have hcj : clrN l1 j &&& 2 ^ j = 0 := by rw [bit_and, clrN_test]; simp
        have hpw := powm j hj
        have hp32 := pow32 j hj
        obtain ⟨p, hp⟩ : ∃ p, 2 ^ j = p := ⟨_, rfl⟩
        rw [hp] at hpw hp32 hxj hcj
        have hC := clrN_lt l1 j hl1
        have hD := ptDone_any (j : Int) l1 m k A n c
        have easked : askedE (j : Int) k n = 0 := by unfold askedE; rw [hck, if_pos rfl, if_neg (by omega)]
        have hpx := and32 (l1 &&& m) p hx hp32
        obtain ⟨x, hxx⟩ : ∃ x, l1 &&& m = x := ⟨_, rfl⟩
        rw [hxx] at ha hx hxj hpx
        obtain ⟨C, hCC⟩ : ∃ C, clrN l1 j = C := ⟨clrN l1 j, rfl⟩
        have hpc := and32 C p (by rw [← hCC]; exact hC) hp32
        rw [hCC] at hC hcj
        rw [hcj] at hpc
        obtain ⟨Y, hY⟩ : ∃ Y, x &&& p = Y := ⟨_, rfl⟩
        rw [hY] at hxj hpx
        have hY0 : ((Y : Int) == 0) = false := by rw [beq_eq_false_iff_ne]; omega
        have hbits : ∀ q : Nat, (q : Int) ≤ (j : Int) → (C &&& m).testBit q = false := fun q hq => by rw [← hCC]; exact clr_and l1 m j q e3 (by omega)
        have HBits := Lib.hid hbits
        have hh2 := fun V => hD V hn hl1 hm hk
        rw [easked, show chL (j : Int) false 0 l1 = C from hCC] at hh2
        have HD := Lib.hid hh2
        clear hh2 hD hbits hxx hCC e2 e3 hp hY easked hpend e1
        refine hh.mono ?_
        clear hh
        rintro e v1 ⟨rfl, hb1⟩
        have hP1 := hP.below hb1 hP.lt
        have hB1 := below_then hB hb1
        obtain ⟨a0, a1, a2, a3, af⟩ := hP1.cells
        clear af
        have d1 : decide ((j : Int) < 0) = false := decide_eq_false (by omega)
        have d2 : decide ((j : Int) ≤ last) = false := decide_eq_false (by omega)
        have d3 : decide ((31 : Int) < (j : Int)) = false := decide_eq_false (by omega)
        go_wp2_with fail
        clear a0 a1 a2 a3
        refine (HD.out v1).mono ?_
        rintro e v2 ⟨rfl, hb2⟩
        have hb3 : Below v2.heap.size v2 (v2.alloc (.cells #[.int .u32 (C : Int), .int .u32 (m : Int), .int .u64 (k : Int), .slice A n c] 63)) := (below_self v2).alloc (Nat.le_refl _) _
        have hP3 := hP1.below (below_then hb2 hb3) hP1.lt
        have hB3 := below_then hB1 (below_then hb2 hb3)
        obtain ⟨a0, a1, a2, a3, af⟩ := hP3.cells
        clear af
        have km : ((m : Int) != (m : Int)) = false := by simp
        have HR := Lib.hid hP3
        have hz0 := hP.lt
        have hz1 := hb1.size
        have hz2 := hb2.size
        go_wp2_with (refine wpList_store_row rfl _ _ _ rfl (w.heap.size) #[.int .u32 C, .int .u32 m, .int .u64 k, .slice A n c] rfl rfl _ _ HR.out (by kernel_rfl : (Try.prog.info? 63).map (·.size) = some 4) rfl (by simp [Value.oneCell']) ?_)
        go_roundw
        case rel => exact ⟨i + 1, (j : Int), C, by omega, by omega, by omega, hC, HBits.out, rfl, by go_num, HR.out.set C m k A n c, below_setRow hB3 (Nat.le_refl _) _⟩
        case measure => simp [intOf] <;> omega
end Go.Proofs.Ytieilgphcfiapaa
