/-
  Layer 20: Get of the package, the packet.
-/
import Derived.Test.YtieilgphcfiapaaIpF
import Derived.Test.YtieilgphcfiapaaClone
-- facts: PkAt
namespace Go.Proofs.Ytieilgphcfiapaa
set_option maxRecDepth 20000
open Go.RowKit
set_option linter.unusedVariables false
set_option linter.unusedSimpArgs false

theorem and_8192 (q : Nat) (h : q < 65536) : bits .and .i64 (q : Int) 8192 = ((q / 8192 % 2 * 8192 : Nat) : Int) := by
  have e : q &&& 8192 = q / 8192 % 2 * 8192 := by
    apply Nat.eq_of_testBit_eq
    intro i
    rw [Nat.testBit_and, show (8192 : Nat) = 2 ^ 13 from rfl, Nat.testBit_two_pow]
    rw [show q / 2 ^ 13 % 2 * 2 ^ 13 = 2 ^ 13 * (q / 2 ^ 13 % 2) from Nat.mul_comm _ _, Nat.testBit_two_pow_mul]
    by_cases hi : 13 = i
    · subst hi
      have h2 : q.testBit 13 = decide (q / 2 ^ 13 % 2 = 1) := Nat.testBit_eq_decide_div_mod_eq
      rw [h2]
      have : q / 2 ^ 13 % 2 = 0 ∨ q / 2 ^ 13 % 2 = 1 := by omega
      rcases this with h | h <;> rw [h] <;> simp
    · rw [decide_eq_false hi, Bool.and_false]
      symm
      rcases Nat.lt_or_ge i 13 with hlt | hge
      · simp [Nat.not_le.2 hlt]
      · have h3 : q / 2 ^ 13 % 2 < 2 ^ (i - 13) := by
          have : 2 ^ 1 ≤ 2 ^ (i - 13) := Nat.pow_le_pow_right (by decide) (by omega)
          omega
        rw [Nat.testBit_lt_two_pow h3]; simp
  show IntKind.i64.wrap ((BitVec.ofInt 64 (q : Int) &&& BitVec.ofInt 64 8192).toNat : Nat) = _
  have e2 : (BitVec.ofInt 64 (q : Int) &&& BitVec.ofInt 64 8192).toNat = q / 8192 % 2 * 8192 := by
    rw [BitVec.toNat_and, BitVec.toNat_ofInt, BitVec.toNat_ofInt]
    have h1 : ((q : Int) % ((2 ^ 64 : Nat) : Int)).toNat = q := by omega
    have h2 : ((8192 : Int) % ((2 ^ 64 : Nat) : Int)).toNat = 8192 := by decide
    rw [h1, h2, e]
  rw [e2, IntKind.wrap_i64]; omega
theorem and_8191 (q : Nat) (h : q < 65536) : bits .and .i64 (q : Int) 8191 = ((q % 8192 : Nat) : Int) := by
  have e : q &&& 8191 = q % 8192 := by rw [show (8191 : Nat) = 2 ^ 13 - 1 from rfl, Nat.and_two_pow_sub_one_eq_mod]
  show IntKind.i64.wrap ((BitVec.ofInt 64 (q : Int) &&& BitVec.ofInt 64 8191).toNat : Nat) = _
  have e2 : (BitVec.ofInt 64 (q : Int) &&& BitVec.ofInt 64 8191).toNat = q % 8192 := by
    rw [BitVec.toNat_and, BitVec.toNat_ofInt, BitVec.toNat_ofInt]
    have h1 : ((q : Int) % ((2 ^ 64 : Nat) : Int)).toNat = q := by omega
    have h2 : ((8191 : Int) % ((2 ^ 64 : Nat) : Int)).toNat = 8191 := by decide
    rw [h1, h2, e]
  rw [e2, IntKind.wrap_i64]; omega

theorem pkRow (w : World) (bx px cs : Array Value) (T U V : TypeId) : (((w.alloc (.cells bx T)).alloc (.cells cs U)).alloc (.cells px V)).heap[w.heap.size + 1]? = some (.cells cs U (0, 0)) := by
  have h1 := heap_alloc_new (w.alloc (.cells bx T)) (.cells cs U)
  have h2 := ((below_self ((w.alloc (.cells bx T)).alloc (.cells cs U))).alloc (Nat.le_refl _) (.cells px V)).block (w.heap.size + 1) (by simp)
  rw [h2]
  simpa using h1

set_option maxHeartbeats 1600000 in
theorem ipGet_main (A : Option Addr) (n c : Nat) (xs : List UInt8) (w : World) (hr : RdB w A n c xs) (h : 20 ≤ n) (h1 : fld xs 2 2 ≤ n) (h2 : xs.getD 0 0 = 69) (h3 : 20 ≤ fld xs 2 2) (h4 : fld xs 6 2 < 32768) (h5 : numCheck (xs.take 20) = 0) (h6 : xs.getD 8 0 ≠ 0) (f : Pk) (er : Int) (hf : (fld xs 2 2 ≤ 166 ∧ f = ipGetP xs ∧ er = 0) ∨ (166 < fld xs 2 2 ∧ f = pkZero ∧ er = 2)) :
    Calls Try.prog 32 #[.slice A n c] w (RetPk w f er) := by
  have hn63 := hr.n63
  have hc := hr.2.2.1
  have hc63 := hr.c63
  obtain ⟨b, o, u, rfl, hbl, _⟩ := hr.at_ 0 (by omega)
  have d1 : decide ((n : Int) < 20) = false := decide_eq_false (by omega)
  have c0 : w.cell? ⟨b, o, none⟩ = some (.int .u8 69) := by have := hr.cellS 0 (by omega); rw [Nat.add_zero, h2] at this; exact this
  have c8 := hr.cellS 8 (by omega)
  have hB8 : (xs.getD 8 0).toNat ≠ 0 := fun e => h6 (UInt8.toNat_inj.1 e)
  have hb8 := (xs.getD 8 0).toNat_lt
  generalize (xs.getD 8 0).toNat = B8 at *
  have FX := fun (p k : Nat) (h1 : p + k ≤ 20) (h2 : 0 < k) (h3 : k ≤ 4) (W : World) (g : Nat) (hR : RdB W (some ⟨b, o, none⟩) n c xs) (hg : W.cell? ⟨g, 0, none⟩ = some (.slice (some ⟨b, o, none⟩) n c)) => field_any p k _ n c xs g W hR (by omega) h2 h3 hg
  have HF := Lib.hid FX
  have hnc : (20 : Int) ≤ (c : Int) := by omega
  have kn0 : (0 : Int) < (n : Int) := by omega
  have kn8 : (8 : Int) < (n : Int) := by omega
  have b22 : fld xs 2 2 < 65536 := fld_lt xs 2 2
  have b42 : fld xs 4 2 < 65536 := fld_lt xs 4 2
  have b91 : fld xs 9 1 < 256 := fld_lt xs 9 1
  have b124 : fld xs 12 4 < 4294967296 := fld_lt xs 12 4
  have b164 : fld xs 16 4 < 4294967296 := fld_lt xs 16 4
  have HP0 := Lib.hid (show ipGetP xs = ⟨fld xs 4 2, decide (fld xs 6 2 / 8192 = 1 ∨ fld xs 6 2 / 8192 = 3), ((8 * (fld xs 6 2 % 8192) : Nat) : Int), (fld xs 9 1 : Nat), fld xs 12 4, fld xs 16 4, (xs.take (fld xs 2 2)).drop 20⟩ from rfl)
  have rL := hr.take (fld xs 2 2) h1
  have HFF := Lib.hid hf
  have e22 : (fld xs 2 2 : Nat) = fld xs 2 2 := rfl
  obtain ⟨L, hL⟩ : ∃ L, L = fld xs 2 2 := ⟨_, rfl⟩
  obtain ⟨Pl, hPl⟩ : ∃ Pl, Pl = fld xs 6 2 := ⟨_, rfl⟩
  obtain ⟨I4, hI4⟩ : ∃ I4, I4 = fld xs 4 2 := ⟨_, rfl⟩
  obtain ⟨I9, hI9⟩ : ∃ I9, I9 = fld xs 9 1 := ⟨_, rfl⟩
  obtain ⟨S12, hS12⟩ : ∃ S12, S12 = fld xs 12 4 := ⟨_, rfl⟩
  obtain ⟨S16, hS16⟩ : ∃ S16, S16 = fld xs 16 4 := ⟨_, rfl⟩
  have HL := Lib.hid hL
  have HPl := Lib.hid hPl
  have HI4 := Lib.hid hI4
  have HI9 := Lib.hid hI9
  have HS12 := Lib.hid hS12
  have HS16 := Lib.hid hS16
  rw [← hL] at h1 h3 b22 rL
  rw [← hPl] at h4
  rw [← hI4] at b42
  rw [← hI9] at b91
  rw [← hS12] at b124
  rw [← hS16] at b164
  have a1 := and_8192 Pl (by omega)
  have a2 := and_8191 Pl (by omega)
  obtain ⟨mo, hmo⟩ : ∃ mo : Bool, mo = decide (Pl / 8192 = 1 ∨ Pl / 8192 = 3) := ⟨_, rfl⟩
  have a3 : (((Pl / 8192 % 2 * 8192 : Nat) : Int) != 0) = mo := by
    rw [hmo, Bool.eq_iff_iff, bne_iff_ne, decide_eq_true_iff]; omega
  have HMO := Lib.hid hmo
  obtain ⟨Q, hQ⟩ : ∃ Q : Nat, Q = Pl % 8192 := ⟨_, rfl⟩
  rw [← hQ] at a2
  generalize Pl / 8192 % 2 * 8192 = MO at a1 a3
  have hQ8 : Q ≤ 8191 := by omega
  have HQ := Lib.hid hQ
  have l0 : decide (n < L) = false := decide_eq_false (by omega)
  have l0b : (L : Int) ≤ (n : Int) := by omega
  have l2 : decide ((L : Int) < 20) = false := decide_eq_false (by omega)
  have l2b : (20 : Int) ≤ (L : Int) := by omega
  have l2c : (L : Int) ≤ (c : Int) := by omega
  have l3 : decide ((32768 : Int) ≤ (Pl : Int)) = false := decide_eq_false (by omega)
  have l5 : ((B8 : Int) == 0) = false := by rw [beq_eq_false_iff_ne]; omega
  have HCK := Lib.hid (show ∀ (W : World), RdB W (some ⟨b, o, none⟩) n c xs → Calls Try.prog 70 #[.slice (some ⟨b, o, none⟩) 20 c] W fun e w' => e = .returned (.int .u16 0) ∧ W = w' from fun W hR => by
    have := numCheck_any (some ⟨b, o, none⟩) 20 c (xs.take 20) W (hR.take 20 h)
    rw [h5] at this
    exact this)
  obtain ⟨A2, k20⟩ : ∃ A2, (if c = 20 then some (⟨b, o, none⟩ : Addr) else some ⟨b, o + 20, none⟩) = A2 := ⟨_, rfl⟩
  have hr3 : RdB w A2 (L - 20) (c - 20) ((xs.take L).drop 20) := by
    have := rL.drop 20 h3
    rw [← k20]
    simpa [Addr.add_lit] using this
  clear FX hf e22 hL hPl hI4 hI9 hS12 hS16 hmo hQ h5 h6 hB8
  go_enter Try.func32, Try.ntmps32
  go_wp2_with fail
  refine (HF.out 2 2 (by omega) (by omega) (by omega) _ _ (by exact (hr.alloc _).alloc _) (by simp [go_sem])).mono ?_
  rintro e w1 ⟨rfl, rfl⟩
  rw [← HL.out]
  go_wp2_with fail
  refine (HF.out 6 2 (by omega) (by omega) (by omega) _ _ (by exact (hr.alloc _).alloc _) (by simp [go_sem])).mono ?_
  rintro e w1 ⟨rfl, rfl⟩
  rw [← HPl.out]
  go_wp2_with fail
  refine (HCK.out _ (by exact (hr.alloc _).alloc _)).mono ?_
  rintro e w1 ⟨rfl, rfl⟩
  go_wp2_with fail
  refine (HF.out 4 2 (by omega) (by omega) (by omega) _ _ (by exact (hr.alloc _).alloc _) (by simp [go_sem])).mono ?_
  rintro e w1 ⟨rfl, rfl⟩
  rw [← HI4.out]
  go_wp2_with fail
  refine (HF.out 9 1 (by omega) (by omega) (by omega) _ _ (by exact (hr.alloc _).alloc _) (by simp [go_sem])).mono ?_
  rintro e w1 ⟨rfl, rfl⟩
  rw [← HI9.out]
  go_wp2_with fail
  refine (HF.out 12 4 (by omega) (by omega) (by omega) _ _ (by exact ((hr.alloc _).alloc _).alloc _) (by simp [go_sem])).mono ?_
  rintro e w1 ⟨rfl, rfl⟩
  rw [← HS12.out]
  go_wp2_with fail
  refine (HF.out 16 4 (by omega) (by omega) (by omega) _ _ (by exact ((hr.alloc _).alloc _).alloc _) (by simp [go_sem])).mono ?_
  rintro e w1 ⟨rfl, rfl⟩
  rw [← HS16.out]
  go_wp2_with fail
  refine named ?_
  intro W5 hW5
  have bW5 : Below w.heap.size w W5 := by rw [hW5]; repeat' (first | exact Below.refl _ _ | (refine Below.alloc ?_ ?_ _; rotate_left; (simp <;> omega)) | refine Below.drew ?_)
  have zW5 := bW5.size
  have p5 : PkAt W5 (w.heap.size + 1 + 1) I4 mo ((Q : Int) * 8) (I9 : Nat) S12 S16 none 0 0 := by rw [hW5]; simp [PkAt, go_sem]
  have fz5 : W5.frozen? ⟨w.heap.size + 1 + 1, 6, none⟩ = false := by rw [hW5]; simp [PkAt, go_sem]
  have sz5 : W5.heap.size = w.heap.size + 1 + 1 + 1 := by rw [hW5]; simp [PkAt, go_sem]
  have row5 : W5.heap[w.heap.size + 1]? = some (.cells #[.int .u16 0, .bool false, .int .i64 0, .int .i64 0, .int .u32 0, .int .u32 0, .slice none 0 0] 51 (0, 0)) := by rw [hW5]; exact pkRow ..
  have HW5 := Lib.hid hW5
  clear hW5
  have SZ := Lib.hid sz5
  have ROW := Lib.hid row5
  have x5 : w.heap.size + 1 + 1 < W5.heap.size := by omega
  clear sz5 row5
  refine (clone18_any A2 _ _ _ W5 (hr3.below bW5) (by omega)).mono ?_
  rintro e w6 ⟨A6, n6, c6, rfl, ho6, hb6⟩
  have p6 := p5.below hb6 x5
  have fz6 : w6.frozen? ⟨w.heap.size + 1 + 1, 6, none⟩ = false := (hb6.frozen (p := ⟨w.heap.size + 1 + 1, 6, none⟩) x5).trans fz5
  have hcell6 := p6.2.2.2.2.2.2
  have hn6 : n6 = L - 20 := by rw [← ho6.len, hr3.2.1]
  subst hn6
  have B6 := below_then bW5 hb6
  have z6 := hb6.size
  obtain ⟨q0, q1, q2, q3, q4, q5, q6⟩ := p6
  go_wp2_with fail
  refine named ?_
  intro V hV
  have pV : PkAt V (w.heap.size + 1 + 1) I4 mo ((Q : Int) * 8) (I9 : Nat) S12 S16 A6 (L - 20) c6 := by rw [hV]; simp [PkAt, go_sem, q0, q1, q2, q3, q4, q5, hcell6]
  have BV : Below w.heap.size w V := by rw [hV]; exact B6.setCell (by simp; omega) _
  have row6 := (hb6.block (w.heap.size + 1) (by omega)).trans ROW.out
  have rowV : V.heap[w.heap.size + 1]? = some (.cells #[.int .u16 0, .bool false, .int .i64 0, .int .i64 0, .int .u32 0, .int .u32 0, .slice none 0 0] 51 (0, 0)) := by
    rw [hV, ← row6]
    simp [World.setCell, Array.getElem?_modify]
  have hA6 : ∀ a, A6 = some a → W5.heap.size ≤ a.block := fun a ha => by
    rcases ho6.2 with ⟨e1, _⟩ | ⟨g', cap, cur, hv, hb, _⟩
    · injection e1 with e1; rw [ha] at e1; cases e1
    · injection hv with hv; rw [ha] at hv; injection hv with hv; subst hv; exact hb
  have rdV : RdB V A6 (L - 20) c6 ((xs.take L).drop 20) := by
    rw [hV]
    exact rd_far ho6.rd ⟨w.heap.size + 1 + 1, 6, none⟩ _ (fun _ a ha => by have := hA6 a ha; show a.block ≠ w.heap.size + 1 + 1; omega)
  have xV : w.heap.size + 1 + 1 < V.heap.size := by rw [hV]; simp; omega
  clear q0 q1 q2 q3 q4 q5 q6 hV hcell6 row6 fz6 fz5 p5
  refine (ipCheck_any I4 mo ((Q : Int) * 8) I9 S12 S16 A6 (L - 20) c6 V (by omega) (by omega) (by omega)).mono ?_
  rintro e w8 ⟨rfl, hb8⟩
  have p8 := pV.below hb8 xV
  have row8 := (hb8.block (w.heap.size + 1) (by omega)).trans rowV
  have B8 := below_then BV hb8
  have rd8 := rdV.below hb8
  have ROW8 := Lib.hid row8
  have hne8 : ∀ a, A6 = some a → a.block ≠ w.heap.size + 1 := fun a ha => by have := hA6 a ha; omega
  have HNE := Lib.hid hne8
  clear row8 rowV hA6 hne8
  rcases HFF.out with ⟨g1, g2, g3⟩ | ⟨g1, g2, g3⟩
  · have hck : ipCheck ((Q : Int) * 8) (I9 : Nat) (L - 20) = true := by rw [ipCheck_iff]; have := HL.out; omega
    rw [hck]
    subst g2 g3
    clear hck
    obtain ⟨q0, q1, q2, q3, q4, q5, q6⟩ := p8
    go_wp2_with (refine wpList_store_row rfl _ _ _ rfl (w.heap.size + 1) #[.int .u16 I4, .bool mo, .int .i64 ((Q : Int) * 8), .int .i64 (I9 : Nat), .int .u32 S12, .int .u32 S16, .slice A6 (L - 20) c6] rfl rfl _ _ ROW8.out (by kernel_rfl : (Try.prog.info? 51).map (·.size) = some 7) rfl (by simp [Value.oneCell']) ?_)
    have cs := fun j => cell_setRow_same w8 (w.heap.size + 1) j _ #[.int .u16 I4, .bool mo, .int .i64 ((Q : Int) * 8), .int .i64 (I9 : Nat), .int .u32 S12, .int .u32 S16, .slice A6 (L - 20) c6] _ _ ROW8.out
    exact bodyPost_ret (v := .tuple #[.agg #[.int .u16 I4, .bool mo, .int .i64 ((Q : Int) * 8), .int .i64 (I9 : Nat), .int .u32 S12, .int .u32 S16, .slice A6 (L - 20) c6], .int .i64 0]) (by simp [results, Try.results32, go_sem, cs]) rfl ⟨A6, L - 20, c6, by rw [HP0.out, ← HL.out, ← HPl.out, ← HI4.out, ← HI9.out, ← HS12.out, ← HS16.out]; simp only [← HMO.out, ← HQ.out]; rw [show ((8 * Q : Nat) : Int) = (Q : Int) * 8 by omega], rd_row (by rw [HP0.out, ← HL.out]; exact rd8) _ _ (fun _ a ha => HNE.out a ha), below_setRow B8 (by omega) _⟩
  · have hck : ipCheck ((Q : Int) * 8) (I9 : Nat) (L - 20) = false := by rw [Bool.eq_false_iff, Ne, ipCheck_iff]; have := HL.out; omega
    rw [hck]
    subst g2 g3
    clear hck
    obtain ⟨q0, q1, q2, q3, q4, q5, q6⟩ := p8
    go_wp2_with (refine wpList_store_row rfl _ _ _ rfl (w.heap.size + 1) #[.int .u16 0, .bool false, .int .i64 0, .int .i64 0, .int .u32 0, .int .u32 0, .slice none 0 0] rfl rfl _ _ ROW8.out (by kernel_rfl : (Try.prog.info? 51).map (·.size) = some 7) rfl (by simp [Value.oneCell']) ?_)
    have cs := fun j => cell_setRow_same w8 (w.heap.size + 1) j _ #[.int .u16 0, .bool false, .int .i64 0, .int .i64 0, .int .u32 0, .int .u32 0, .slice none 0 0] _ _ ROW8.out
    exact bodyPost_ret (v := .tuple #[.agg #[.int .u16 0, .bool false, .int .i64 0, .int .i64 0, .int .u32 0, .int .u32 0, .slice none 0 0], .int .i64 2]) (by simp [results, Try.results32, go_sem, cs]) rfl ⟨none, 0, 0, rfl, RdB.nilB _, below_setRow B8 (by omega) _⟩
end Go.Proofs.Ytieilgphcfiapaa
