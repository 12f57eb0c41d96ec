/-
  The walk of CrcBurst.
-/
import Derived.Test.YthaampcfkmfjcaaCrcC
namespace Go.Proofs.Ythaampcfkmfjcaa
open Go.RowKit
set_option linter.unusedVariables false
set_option linter.unusedSimpArgs false

def BurstI (w : World) (base g N c5 F bits L : Nat) (v9 v10 : Value) (wr : World) : Prop :=
  ∃ (j : Nat) (ts : List UInt8), j ≤ 32 ∧ v10 = .int .i64 ((F + j : Nat) : Int) ∧ v9 = .int .u32 ((bits / 2 ^ j : Nat) : Int) ∧ OwnB wr base (some ⟨g, 0, none⟩) N c5 ts ∧
    lev ts = L ^^^ ((bits % 2 ^ j) * 2 ^ F) ∧ Below w.heap.size w wr

theorem crcBurst_law (A : Option Addr) (n c : Nat) (xs : List UInt8) (at_ : Int) (b_ : Nat) (w : World) (hr : RdB w A n c xs) (hat : -9223372036854775808 ≤ at_ ∧ at_ ≤ 9223372036854775807) (hbits : b_ < 4294967296) :
    Calls Try.prog 6 #[.slice A n c, .int .i64 at_, .int .u32 b_] w (RetV w (.bool true)) := by
  by_cases hbig : 2000 < n ∨ at_ < 0
  · by_cases hn : 2000 < n
    · have hd : decide ((2000 : Int) < (n : Int)) = true := by simp; omega
      go_enter Try.func6, Try.ntmps6
      go_wp2_with (go_at_call 15; refine (heads02 _).mono ?_; rintro e w1 ⟨rfl, hb1⟩)
      go_ret
      exact ⟨rfl, hb1⟩
    · have hd : decide ((2000 : Int) < (n : Int)) = false := by simp; omega
      have hd2 : decide (at_ < 0) = true := by simp; omega
      go_enter Try.func6, Try.ntmps6
      go_wp2_with (go_at_call 15; refine (heads02 _).mono ?_; rintro e w1 ⟨rfl, hb1⟩)
      go_ret
      exact ⟨rfl, hb1⟩
  have hd : decide ((2000 : Int) < (n : Int)) = false := by simp; omega
  have hd2 : decide (at_ < 0) = false := by simp; omega
  obtain ⟨at_, rfl⟩ : ∃ k : Nat, at_ = k := ⟨at_.toNat, by omega⟩
  have hn : n ≤ 2000 := by omega
  clear hbig
  go_enter Try.func6, Try.ntmps6
  go_wp2_with fail
  refine (closed_any _ _ _ xs _ (hr.alloc _) (by omega)).mono ?_
  rintro e w2 ⟨A2, n2, c2, rfl, ho2, hb2⟩
  have hl2 : n2 = n + 4 := by rw [← ho2.len, ← hr.2.1]; simp [crcClosed, le4_length]
  subst hl2
  have B2 := bstep (below_self w) hb2
  have hown := (own0 w).below hb2
  go_wp2_with (at_builtin; refine wp_appB rfl _ _ rfl B2 (Nat.le_refl _) B2.size _ _ _ _ rfl hown _ _ _ _ rfl ho2.rd (by omega) (n + 4) (crcClosed xs) (by omega) (by simp) ?_; intro A5 c5 w5 ho5 hb5 hg5)
  obtain ⟨g, rfl, hbg, hglt⟩ := ho5.addr (by omega)
  have d3 : ((n : Int) + 4 != (n : Int) + 4) = false := by simp
  obtain ⟨F, hF⟩ : ∃ F : Nat, F = at_ % (8 * n + 1) := ⟨_, rfl⟩
  have hF1 : F ≤ 8 * n := by rw [hF]; have := Nat.mod_lt at_ (show 0 < 8 * n + 1 by omega); omega
  go_wp2
  have hkm : ((at_ : Int) % (8 * ((n : Int) + 4) - 31)) = (F : Int) := by
    rw [show (8 * ((n : Int) + 4) - 31) = ((8 * n + 1 : Nat) : Int) by omega, hF]; rfl
  have HF := Lib.hid hF
  clear hF
  rw [hkm]
  go_loopw [9, 10] (BurstI w w.heap.size g (n + 4) c5 F b_ (lev (crcClosed xs))) (fun _ i _ => F + 32 - (intOf i).toNat)
  case atStart => exact ⟨0, _, Nat.zero_le _, by simp, by simp, ho5, by simp [Nat.mod_one], hb5⟩
  case round =>
    obtain ⟨j, ts, hj, rfl, rfl, ho, hv, hb⟩ := hrel
    by_cases hlt : j < 32
    · have k1 : ((F + j : Nat) : Int) < (F : Int) + 32 := by omega
      have hidx : (F + j) / 8 < n + 4 := by omega
      obtain ⟨u, hu, hcell⟩ := ho.cell_ _ hidx
      have hfree := ho.free ((F + j) / 8)
      have hp : b_ / 2 ^ j < 4294967296 := Nat.lt_of_le_of_lt (Nat.div_le_self _ _) hbits
      have h2 : b_ / 2 ^ (j + 1) = b_ / 2 ^ j / 2 := by rw [Nat.pow_succ, Nat.div_div_eq_div_mul]
      have HV := Lib.hid hv
      have HU := Lib.hid hu
      have H2 := Lib.hid h2
      clear hv hu h2
      generalize hR : b_ / 2 ^ j = R at *
      generalize hI : F + j = I at *
      have HR := Lib.hid hR
      have HI := Lib.hid hI
      clear hR hI
      by_cases hodd : R % 2 = 1
      · have e1 : ((R : Int) % 2 == 1) = true := by simp; omega
        have HO := Lib.hid hodd
        clear hodd
        go_wp2
        have ex : bits .xor .u8 (u.toNat : Int) (2 ^ (I % 8) % 256) = (((u ^^^ UInt8.ofNat (2 ^ (I % 8))).toNat : Nat) : Int) := by
          have e2 : ((2 : Int) ^ (I % 8) % 256) = ((2 ^ (I % 8) : Nat) : Int) := by
            rw [show ((2 : Int) ^ (I % 8) % 256) = ((2 ^ (I % 8) % 256 : Nat) : Int) by rw [Int.natCast_emod, Int.natCast_pow]; rfl, Nat.mod_eq_of_lt (pow_lt_256 I)]
          rw [e2, u8_xor_nat _ _ u.toNat_lt (pow_lt_256 I), UInt8.toNat_xor, UInt8.toNat_ofNat', Nat.mod_eq_of_lt (pow_lt_256 I)]
        rw [ex]
        refine ⟨⟨j + 1, _, by omega, by rw [← HI.out]; go_num, by rw [H2.out]; go_num, ho.set_ _ _, burst_odd ts u _ F b_ j I HI.out HU.out HV.out (by rw [HR.out]; exact HO.out), hb.setCell hbg _⟩, by simp [intOf]; omega⟩
      · have e1 : ((R : Int) % 2 == 1) = false := by simp; omega
        have hev : R % 2 = 0 := by omega
        have HO := Lib.hid hev
        clear hodd hev
        go_wp2
        refine ⟨⟨j + 1, ts, by omega, by rw [← HI.out]; go_num, by rw [H2.out]; go_num, ho, burst_even _ F b_ j _ HV.out (by rw [HR.out]; exact HO.out), hb⟩, by simp [intOf]; omega⟩
    · obtain rfl : j = 32 := by omega
      have hres : crcHolds ts = decide (b_ = 0) := crc_burst xs ts b_ F hbits (by rw [ho.len, hr.2.1]) (by rw [ho.len]; omega) (by rw [hv, Nat.mod_eq_of_lt (show b_ < 2 ^ 32 from hbits)])
      have hq : crcHolds ts = ((b_ : Int) == 0) := by rw [hres]; by_cases h0 : b_ = 0 <;> simp [h0]
      have HV := Lib.hid hv
      clear hv hres
      go_wp2_with fail
      refine (holds_any _ _ _ ts _ ho.rd (by omega)).mono ?_
      rintro e w6 ⟨rfl, hb6⟩
      go_wp2_with fail
      refine (heads02 _).mono ?_
      rintro e w7 ⟨rfl, hb7⟩
      go_wp2
      go_ret
      exact ⟨rfl, below_then (below_then hb hb6) hb7⟩
end Go.Proofs.Ythaampcfkmfjcaa
