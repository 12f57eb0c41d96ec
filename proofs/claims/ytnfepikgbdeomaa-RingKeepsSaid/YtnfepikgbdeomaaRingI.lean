/-
  Layer 7: rings: descriptors.
-/
import Derived.Test.YtnfepikgbdeomaaRingG
namespace Go.Proofs.Ytnfepikgbdeomaa
set_option maxRecDepth 20000
open Go.RowKit
set_option linter.unusedVariables false
set_option linter.unusedSimpArgs false
set_option maxHeartbeats 4000000

theorem ringDesc1_any (g gi : Nat) (A : Option Addr) (n c : Nat) (xs : List UInt8) (at_ : Int) (o0 o1 o2 o3 : Value) (w : World) (hf : FdAt w g A n c at_) (hr : RdB w A n c xs) (ha : 0 ≤ at_ ∧ at_ ≤ 900000) (hg : gi < g) (ho : Old A gi) (hi : w.heap[gi]? = some (.cells #[o0, o1, o2, o3] 44 (0, 0))) :
    Calls Try.prog 73 #[.pointer (some ⟨g, 0, none⟩), .pointer (some ⟨gi, 0, none⟩)] w fun e w' => e = .returned (.tuple #[]) ∧ w'.heap[gi]? = some (.cells #[.int .u64 (memNum xs at_ 8), .int .u32 (memNum xs (at_ + 8) 4), .int .u16 (memNum xs (at_ + 8 + 4) 2), .int .u16 (memNum xs (at_ + 8 + 4 + 2) 2)] 44 (0, 0)) ∧ Below gi w w' := by
  have hh0 := fun W hf2 hr2 => fget_any g A n c xs at_ 8 W hf2 hr2 (by omega) (by omega)
  have b0 := memNum_lt xs at_ 8
  rw [show ((8 : Nat) : Int) = 8 from rfl] at b0
  obtain ⟨v0, hv0⟩ : ∃ v, memNum xs at_ 8 = v := ⟨_, rfl⟩
  rw [hv0] at hh0 b0 ⊢
  have HH0 := Lib.hid hh0
  have hh1 := fun W hf2 hr2 => fget_any g A n c xs (at_ + 8) 4 W hf2 hr2 (by omega) (by omega)
  have b1 := memNum_lt xs (at_ + 8) 4
  rw [show ((4 : Nat) : Int) = 4 from rfl] at b1
  obtain ⟨v1, hv1⟩ : ∃ v, memNum xs (at_ + 8) 4 = v := ⟨_, rfl⟩
  rw [hv1] at hh1 b1 ⊢
  have HH1 := Lib.hid hh1
  have hh2 := fun W hf2 hr2 => fget_any g A n c xs (at_ + 8 + 4) 2 W hf2 hr2 (by omega) (by omega)
  have b2 := memNum_lt xs (at_ + 8 + 4) 2
  rw [show ((2 : Nat) : Int) = 2 from rfl] at b2
  obtain ⟨v2, hv2⟩ : ∃ v, memNum xs (at_ + 8 + 4) 2 = v := ⟨_, rfl⟩
  rw [hv2] at hh2 b2 ⊢
  have HH2 := Lib.hid hh2
  have hh3 := fun W hf2 hr2 => fget_any g A n c xs (at_ + 8 + 4 + 2) 2 W hf2 hr2 (by omega) (by omega)
  have b3 := memNum_lt xs (at_ + 8 + 4 + 2) 2
  rw [show ((2 : Nat) : Int) = 2 from rfl] at b3
  obtain ⟨v3, hv3⟩ : ∃ v, memNum xs (at_ + 8 + 4 + 2) 2 = v := ⟨_, rfl⟩
  rw [hv3] at hh3 b3 ⊢
  have HH3 := Lib.hid hh3
  have x1 : IntKind.u32.wrap (v1 : Int) = (v1 : Int) := by rw [IntKind.wrap_u32]; omega
  have x2 : IntKind.u16.wrap (v2 : Int) = (v2 : Int) := by rw [IntKind.wrap_u16]; omega
  have x3 : IntKind.u16.wrap (v3 : Int) = (v3 : Int) := by rw [IntKind.wrap_u16]; omega
  have bW : Below gi w w := Below.refl _ _
  have HRow := Lib.hid hi
  have HF := Lib.hid hf
  clear hh0 hh1 hh2 hh3 hv0 hv1 hv2 hv3 hi hf b1 b2 b3
  go_enter Try.func73, Try.ntmps73
  go_wp2_with fail
  refine (HH0.out w HF.out hr).mono ?_
  rintro e w3 ⟨rfl, hf0, hb0⟩
  have hi0 := (hb0.block gi hg).trans HRow.out
  have c0 := (cell_of_row w3 gi 0 _ _ _ hi0).trans (show (#[o0, o1, o2, o3] : Array Value)[0]? = some o0 from rfl)
  have f0 : w3.frozen? ⟨gi, 0, none⟩ = false := frozen_of_row _ _ 0 _ _ hi0
  obtain ⟨V0, hV0⟩ : ∃ V, V = w3.setCell ⟨gi, 0, none⟩ (.int .u64 (v0 : Int)) := ⟨_, rfl⟩
  have HRow : Hid (V0.heap[gi]? = some (.cells #[.int .u64 (v0 : Int), o1, o2, o3] 44 (0, 0))) := Lib.hid (by rw [hV0]; exact (setc_rowT hi0).trans rfl)
  have HF : Hid (FdAt V0 g A n c (at_ + 8)) := Lib.hid (by rw [hV0]; exact (Below.heap_setCell _ _ _ _ (by show g ≠ gi; omega)).trans hf0)
  have bW : Below gi w V0 := by rw [hV0]; exact (bW.trans (hb0.mono (Nat.le_of_lt hg))).setCell (p := ⟨gi, 0, none⟩) (Nat.le_refl _) _
  have rV0 : RdB V0 A n c xs := rdB_old hr ho bW
  have HV0 := Lib.hid hV0
  clear hV0 hi0 hf0
  go_wp2_with fail
  rw [← HV0.out]
  refine (HH1.out V0 HF.out rV0).mono ?_
  rintro e w4 ⟨rfl, hf1, hb1⟩
  have hi1 := (hb1.block gi hg).trans HRow.out
  have c1 := (cell_of_row w4 gi 1 _ _ _ hi1).trans (show (#[.int .u64 (v0 : Int), o1, o2, o3] : Array Value)[1]? = some o1 from rfl)
  have f1 : w4.frozen? ⟨gi, 1, none⟩ = false := frozen_of_row _ _ 1 _ _ hi1
  obtain ⟨V1, hV1⟩ : ∃ V, V = w4.setCell ⟨gi, 1, none⟩ (.int .u32 (v1 : Int)) := ⟨_, rfl⟩
  have HRow : Hid (V1.heap[gi]? = some (.cells #[.int .u64 (v0 : Int), .int .u32 (v1 : Int), o2, o3] 44 (0, 0))) := Lib.hid (by rw [hV1]; exact (setc_rowT hi1).trans rfl)
  have HF : Hid (FdAt V1 g A n c ((at_ + 8) + 4)) := Lib.hid (by rw [hV1]; exact (Below.heap_setCell _ _ _ _ (by show g ≠ gi; omega)).trans hf1)
  have bW : Below gi w V1 := by rw [hV1]; exact (bW.trans (hb1.mono (Nat.le_of_lt hg))).setCell (p := ⟨gi, 1, none⟩) (Nat.le_refl _) _
  have rV1 : RdB V1 A n c xs := rdB_old hr ho bW
  have HV1 := Lib.hid hV1
  clear hV1 hi1 hf1
  go_wp2_with fail
  rw [← HV1.out]
  refine (HH2.out V1 HF.out rV1).mono ?_
  rintro e w5 ⟨rfl, hf2, hb2⟩
  have hi2 := (hb2.block gi hg).trans HRow.out
  have c2 := (cell_of_row w5 gi 2 _ _ _ hi2).trans (show (#[.int .u64 (v0 : Int), .int .u32 (v1 : Int), o2, o3] : Array Value)[2]? = some o2 from rfl)
  have f2 : w5.frozen? ⟨gi, 2, none⟩ = false := frozen_of_row _ _ 2 _ _ hi2
  obtain ⟨V2, hV2⟩ : ∃ V, V = w5.setCell ⟨gi, 2, none⟩ (.int .u16 (v2 : Int)) := ⟨_, rfl⟩
  have HRow : Hid (V2.heap[gi]? = some (.cells #[.int .u64 (v0 : Int), .int .u32 (v1 : Int), .int .u16 (v2 : Int), o3] 44 (0, 0))) := Lib.hid (by rw [hV2]; exact (setc_rowT hi2).trans rfl)
  have HF : Hid (FdAt V2 g A n c ((at_ + 8 + 4) + 2)) := Lib.hid (by rw [hV2]; exact (Below.heap_setCell _ _ _ _ (by show g ≠ gi; omega)).trans hf2)
  have bW : Below gi w V2 := by rw [hV2]; exact (bW.trans (hb2.mono (Nat.le_of_lt hg))).setCell (p := ⟨gi, 2, none⟩) (Nat.le_refl _) _
  have rV2 : RdB V2 A n c xs := rdB_old hr ho bW
  have HV2 := Lib.hid hV2
  clear hV2 hi2 hf2
  go_wp2_with fail
  rw [← HV2.out]
  refine (HH3.out V2 HF.out rV2).mono ?_
  rintro e w6 ⟨rfl, hf3, hb3⟩
  have hi3 := (hb3.block gi hg).trans HRow.out
  have c3 := (cell_of_row w6 gi 3 _ _ _ hi3).trans (show (#[.int .u64 (v0 : Int), .int .u32 (v1 : Int), .int .u16 (v2 : Int), o3] : Array Value)[3]? = some o3 from rfl)
  have f3 : w6.frozen? ⟨gi, 3, none⟩ = false := frozen_of_row _ _ 3 _ _ hi3
  obtain ⟨V3, hV3⟩ : ∃ V, V = w6.setCell ⟨gi, 3, none⟩ (.int .u16 (v3 : Int)) := ⟨_, rfl⟩
  have HRow : Hid (V3.heap[gi]? = some (.cells #[.int .u64 (v0 : Int), .int .u32 (v1 : Int), .int .u16 (v2 : Int), .int .u16 (v3 : Int)] 44 (0, 0))) := Lib.hid (by rw [hV3]; exact (setc_rowT hi3).trans rfl)
  have HF : Hid (FdAt V3 g A n c ((at_ + 8 + 4 + 2) + 2)) := Lib.hid (by rw [hV3]; exact (Below.heap_setCell _ _ _ _ (by show g ≠ gi; omega)).trans hf3)
  have bW : Below gi w V3 := by rw [hV3]; exact (bW.trans (hb3.mono (Nat.le_of_lt hg))).setCell (p := ⟨gi, 3, none⟩) (Nat.le_refl _) _
  have rV3 : RdB V3 A n c xs := rdB_old hr ho bW
  have HV3 := Lib.hid hV3
  clear hV3 hi3 hf3
  go_wp2_with fail
  rw [← HV3.out]
  refine bodyPost_end (v := .tuple #[]) (by simp [results, Try.results73]) rfl ?_
  exact ⟨rfl, HRow.out, bW⟩
end Go.Proofs.Ytnfepikgbdeomaa
