/-
  Layer 12: records: Get.
-/
import Derived.Test.YtnfepikgbdeomaaRecF
namespace Go.Proofs.Ytnfepikgbdeomaa
set_option maxRecDepth 20000
open Go.RowKit
set_option linter.unusedVariables false
set_option linter.unusedSimpArgs false
set_option maxHeartbeats 4000000

theorem rbeq_any (A1 A2 : Option Addr) (n c m d : Nat) (xs ys : List UInt8) (w : World) (h1 : RdB w A1 n c xs) (h2 : RdB w A2 m d ys) :
    Calls Try.prog 96 #[.slice A1 n c, .slice A2 m d] w fun e w' => e = .returned (.bool (decide (xs = ys))) ∧ w = w' := by
  have k1 := h1.str
  have k2 := h2.str
  have k3 := strOf_eq xs ys
  go_enter Try.func96, Try.ntmps96
  go_wp2
  go_ret
  exact ⟨rfl, rfl⟩
theorem zeroAt {w : World} {g : Nat} (h : w.heap.size = g) : RcAt (w.alloc (.cells #[.int .u32 0, .int .u32 0, .int .u32 0, .int .u64 0, .int .i64 0, .int .u64 0, .slice none 0 0, .int .u8 0, .int .u8 0, .int .u8 0, .int .u8 0, .int .u8 0, .int .u8 0, .int .u8 0, .int .u8 0, .int .u8 0, .int .u8 0, .int .u8 0, .int .u8 0, .int .u8 0, .int .u8 0, .int .u8 0, .int .u8 0, .int .u8 0, .int .u8 0, .int .u8 0, .int .u8 0, .int .u8 0, .int .u8 0, .int .u8 0, .int .u8 0, .int .u8 0, .int .u8 0, .int .u8 0, .int .u8 0, .int .u8 0, .int .u8 0, .int .u8 0, .int .u8 0] 69)) g rcZ none 0 0 := by
  have h0 := rw_at (w := w) (k := g) (.cells #[.int .u32 0, .int .u32 0, .int .u32 0, .int .u64 0, .int .i64 0, .int .u64 0, .slice none 0 0, .int .u8 0, .int .u8 0, .int .u8 0, .int .u8 0, .int .u8 0, .int .u8 0, .int .u8 0, .int .u8 0, .int .u8 0, .int .u8 0, .int .u8 0, .int .u8 0, .int .u8 0, .int .u8 0, .int .u8 0, .int .u8 0, .int .u8 0, .int .u8 0, .int .u8 0, .int .u8 0, .int .u8 0, .int .u8 0, .int .u8 0, .int .u8 0, .int .u8 0, .int .u8 0, .int .u8 0, .int .u8 0, .int .u8 0, .int .u8 0, .int .u8 0, .int .u8 0] 69) h
  exact h0.trans (congrArg (fun z => some (Obj.cells z 69 (0, 0))) zeroRc)
theorem rcZD : rcZ.D.length = 32 := rcZ_ok.2.2.2.2.2.2
theorem recGet_early (A : Option Addr) (n c : Nat) (xs : List UInt8) (w : World) (hr : RdB w A n c xs) (h : n ≠ 256) :
    Calls Try.prog 47 #[.slice A n c] w (RetRc w rcZ 2) := by
  have hn := hr.n63
  have d1 : ((n : Int) != 256) = true := by rw [bne_iff_ne]; omega
  obtain ⟨V, hV⟩ : ∃ V, V = w.alloc (.cells #[.int .u32 0, .int .u32 0, .int .u32 0, .int .u64 0, .int .i64 0, .int .u64 0, .slice none 0 0, .int .u8 0, .int .u8 0, .int .u8 0, .int .u8 0, .int .u8 0, .int .u8 0, .int .u8 0, .int .u8 0, .int .u8 0, .int .u8 0, .int .u8 0, .int .u8 0, .int .u8 0, .int .u8 0, .int .u8 0, .int .u8 0, .int .u8 0, .int .u8 0, .int .u8 0, .int .u8 0, .int .u8 0, .int .u8 0, .int .u8 0, .int .u8 0, .int .u8 0, .int .u8 0, .int .u8 0, .int .u8 0, .int .u8 0, .int .u8 0, .int .u8 0, .int .u8 0] 69) := ⟨_, rfl⟩
  have bV : Below w.heap.size w V := by rw [hV]; exact (below_self w).alloc (Nat.le_refl _) _
  have Q : Hid (RcAt V w.heap.size rcZ none 0 0) := by rw [hV]; exact Lib.hid (zeroAt rfl)
  have HV := Lib.hid hV
  clear hV h
  go_enter Try.func47, Try.ntmps47
  go_wp2_with (rw [← HV.out]; refine rc_store rfl _ _ rfl rfl (r := rcZ) (A := none) (n := 0) (c := 0) (congrArg Value.agg zeroRc) Q.out rcZD rcZD ?_)
  refine bodyPost_ret (rresults_row_tmp Try.results47 _ _ w.heap.size 69 _ (0, 0) _ rfl (RcAt.setRow (r' := rcZ) (A' := none) (n' := 0) (c' := 0) Q.out) Try.underlying69 rfl (rcInfo rcZ none 0 0 rcZD)) rfl ?_
  exact ⟨none, 0, 0, rfl, RdB.nilB _, fun h => absurd h (Nat.lt_irrefl 0), below_setRow bV (Nat.le_refl _) _⟩
theorem recGet_sum (A : Option Addr) (c : Nat) (xs : List UInt8) (w : World) (hr : RdB w A 256 c xs) (h : crcHolds xs = false) :
    Calls Try.prog 47 #[.slice A 256 c] w (RetRc w rcZ 6) := by
  have d1 : ((256 : Int) != 256) = false := by decide
  obtain ⟨V, hV⟩ : ∃ V, V = w.alloc (.cells #[.int .u32 0, .int .u32 0, .int .u32 0, .int .u64 0, .int .i64 0, .int .u64 0, .slice none 0 0, .int .u8 0, .int .u8 0, .int .u8 0, .int .u8 0, .int .u8 0, .int .u8 0, .int .u8 0, .int .u8 0, .int .u8 0, .int .u8 0, .int .u8 0, .int .u8 0, .int .u8 0, .int .u8 0, .int .u8 0, .int .u8 0, .int .u8 0, .int .u8 0, .int .u8 0, .int .u8 0, .int .u8 0, .int .u8 0, .int .u8 0, .int .u8 0, .int .u8 0, .int .u8 0, .int .u8 0, .int .u8 0, .int .u8 0, .int .u8 0, .int .u8 0, .int .u8 0] 69) := ⟨_, rfl⟩
  have bV : Below w.heap.size w V := by rw [hV]; exact (below_self w).alloc (Nat.le_refl _) _
  have Q : Hid (RcAt V w.heap.size rcZ none 0 0) := by rw [hV]; exact Lib.hid (zeroAt rfl)
  have HV := Lib.hid hV
  have hh := holds_any A 256 c xs V (hr.below bV) (by omega)
  rw [h] at hh
  have HH := Lib.hid hh
  clear hV h hh
  go_enter Try.func47, Try.ntmps47
  go_wp2_with fail
  rw [← HV.out]
  refine HH.out.mono ?_
  rintro e w2 ⟨rfl, hb2⟩
  have Q2 := Lib.hid (Q.out.up hb2)
  go_wp2_with (refine rc_store rfl _ _ rfl rfl (r := rcZ) (A := none) (n := 0) (c := 0) (congrArg Value.agg zeroRc) Q2.out rcZD rcZD ?_)
  refine bodyPost_ret (rresults_row_tmp Try.results47 _ _ w.heap.size 69 _ (0, 0) _ rfl (RcAt.setRow (r' := rcZ) (A' := none) (n' := 0) (c' := 0) Q2.out) Try.underlying69 rfl (rcInfo rcZ none 0 0 rcZD)) rfl ?_
  exact ⟨none, 0, 0, rfl, RdB.nilB _, fun h => absurd h (Nat.lt_irrefl 0), below_setRow (below_then bV hb2) (Nat.le_refl _) _⟩
theorem recGet_form (A : Option Addr) (c : Nat) (xs : List UInt8) (w : World) (hr : RdB w A 256 c xs) (h : crcHolds xs = true) (hbad : ¬ (xs.getD 25 0).toNat ≤ 180) :
    Calls Try.prog 47 #[.slice A 256 c] w (RetRc w rcZ 3) := by
  have d1 : ((256 : Int) != 256) = false := by decide
  obtain ⟨bb, oo, u0, rfl, hbl, _⟩ := hr.at_ 0 (by omega)
  obtain ⟨V, hV⟩ : ∃ V, V = w.alloc (.cells #[.int .u32 0, .int .u32 0, .int .u32 0, .int .u64 0, .int .i64 0, .int .u64 0, .slice none 0 0, .int .u8 0, .int .u8 0, .int .u8 0, .int .u8 0, .int .u8 0, .int .u8 0, .int .u8 0, .int .u8 0, .int .u8 0, .int .u8 0, .int .u8 0, .int .u8 0, .int .u8 0, .int .u8 0, .int .u8 0, .int .u8 0, .int .u8 0, .int .u8 0, .int .u8 0, .int .u8 0, .int .u8 0, .int .u8 0, .int .u8 0, .int .u8 0, .int .u8 0, .int .u8 0, .int .u8 0, .int .u8 0, .int .u8 0, .int .u8 0, .int .u8 0, .int .u8 0] 69) := ⟨_, rfl⟩
  have bV : Below w.heap.size w V := by rw [hV]; exact (below_self w).alloc (Nat.le_refl _) _
  have zV : V.heap.size = w.heap.size + 1 := by rw [hV]; simp
  have Q : Hid (RcAt V w.heap.size rcZ none 0 0) := by rw [hV]; exact Lib.hid (zeroAt rfl)
  have HV := Lib.hid hV
  have hh := holds_any _ 256 c xs V (hr.below bV) (by omega)
  rw [h] at hh
  have HH := Lib.hid hh
  have hdec : decide ((xs.getD 25 0).toNat ≤ 180) = false := decide_eq_false hbad
  have hrd := fun W (hW : Below V.heap.size V W) => recRead_any bb oo c xs W (hr.below (below_then bV hW)) (by have := hW.size; omega)
  unfold RetRd at hrd
  rw [hdec] at hrd
  have HRd := Lib.hid hrd
  have ZV := Lib.hid zV
  have HX := Lib.hid hr.2.1
  clear hV h hh hrd hdec zV
  go_enter Try.func47, Try.ntmps47
  go_wp2_with fail
  rw [← HV.out]
  refine HH.out.mono ?_
  rintro e w2 ⟨rfl, hb2⟩
  have Q2 := Lib.hid (Q.out.up hb2)
  go_wp2_with fail
  refine (HRd.out w2 hb2).mono ?_
  rintro e w3 ⟨A4, n4, c4, R, rfl, hRD, hRb, hRx, hRf, hb3⟩
  have Q3 := Lib.hid (Q2.out.up hb3)
  obtain ⟨Z3, hZ3⟩ : ∃ W, W = w3.alloc (.cells #[.int .u32 0, .int .u32 0, .int .u32 0, .int .u64 0, .int .i64 0, .int .u64 0, .slice none 0 0, .int .u8 0, .int .u8 0, .int .u8 0, .int .u8 0, .int .u8 0, .int .u8 0, .int .u8 0, .int .u8 0, .int .u8 0, .int .u8 0, .int .u8 0, .int .u8 0, .int .u8 0, .int .u8 0, .int .u8 0, .int .u8 0, .int .u8 0, .int .u8 0, .int .u8 0, .int .u8 0, .int .u8 0, .int .u8 0, .int .u8 0, .int .u8 0, .int .u8 0, .int .u8 0, .int .u8 0, .int .u8 0, .int .u8 0, .int .u8 0, .int .u8 0, .int .u8 0] 69) := ⟨_, rfl⟩
  have QZ : Hid (RcAt Z3 w3.heap.size rcZ none 0 0) := by rw [hZ3]; exact Lib.hid (zeroAt rfl)
  have bZ : Below w3.heap.size w3 Z3 := by rw [hZ3]; exact (below_self _).alloc (Nat.le_refl _) _
  obtain ⟨X, hX⟩ : ∃ W, W = Z3.setRow w3.heap.size (rcV R A4 n4 c4).toArray := ⟨_, rfl⟩
  have bX : Below w3.heap.size w3 X := by rw [hX]; exact below_setRow bZ (Nat.le_refl _) _
  have QX : Hid (RcAt X w3.heap.size R A4 n4 c4) := by rw [hX]; exact Lib.hid QZ.out.setRow
  have QR : Hid (RcAt X w.heap.size rcZ none 0 0) := Lib.hid (Q3.out.up bX)
  have B := below_then (below_then (below_then bV hb2) hb3) bX
  have hrX := hr.below B
  have hRbX := hRb.below bX
  have HX3 := Lib.hid hX
  have HZ3 := Lib.hid hZ3
  have HRX := Lib.hid hRx
  have HRD := Lib.hid hRD
  have z3 := hb3.size
  have z2 := hb2.size
  clear hX hZ3 hRx hRD
  go_wp2_with (first | (rw [← HZ3.out]; refine rc_store rfl _ _ rfl rfl rfl QZ.out HRD.out rcZD ?_) | (rw [← HX3.out]; refine rc_store rfl _ _ rfl rfl (r := rcZ) (A := none) (n := 0) (c := 0) (congrArg Value.agg zeroRc) QR.out rcZD rcZD ?_))
  refine bodyPost_ret (rresults_row_tmp Try.results47 _ _ w.heap.size 69 _ (0, 0) _ rfl (RcAt.setRow (r' := rcZ) (A' := none) (n' := 0) (c' := 0) QR.out) Try.underlying69 rfl (rcInfo rcZ none 0 0 rcZD)) rfl ?_
  exact ⟨none, 0, 0, rfl, RdB.nilB _, fun h => absurd h (Nat.lt_irrefl 0), below_setRow (B) (Nat.le_refl _) _⟩
theorem recGet_chk (A : Option Addr) (c : Nat) (xs : List UInt8) (w : World) (hr : RdB w A 256 c xs) (h : crcHolds xs = true) (hgood : (xs.getD 25 0).toNat ≤ 180) (hchk : (rcOf xs).chk = false) :
    Calls Try.prog 47 #[.slice A 256 c] w (RetRc w rcZ 3) := by
  have d1 : ((256 : Int) != 256) = false := by decide
  obtain ⟨bb, oo, u0, rfl, hbl, _⟩ := hr.at_ 0 (by omega)
  obtain ⟨V, hV⟩ : ∃ V, V = w.alloc (.cells #[.int .u32 0, .int .u32 0, .int .u32 0, .int .u64 0, .int .i64 0, .int .u64 0, .slice none 0 0, .int .u8 0, .int .u8 0, .int .u8 0, .int .u8 0, .int .u8 0, .int .u8 0, .int .u8 0, .int .u8 0, .int .u8 0, .int .u8 0, .int .u8 0, .int .u8 0, .int .u8 0, .int .u8 0, .int .u8 0, .int .u8 0, .int .u8 0, .int .u8 0, .int .u8 0, .int .u8 0, .int .u8 0, .int .u8 0, .int .u8 0, .int .u8 0, .int .u8 0, .int .u8 0, .int .u8 0, .int .u8 0, .int .u8 0, .int .u8 0, .int .u8 0, .int .u8 0] 69) := ⟨_, rfl⟩
  have bV : Below w.heap.size w V := by rw [hV]; exact (below_self w).alloc (Nat.le_refl _) _
  have zV : V.heap.size = w.heap.size + 1 := by rw [hV]; simp
  have Q : Hid (RcAt V w.heap.size rcZ none 0 0) := by rw [hV]; exact Lib.hid (zeroAt rfl)
  have HV := Lib.hid hV
  have hh := holds_any _ 256 c xs V (hr.below bV) (by omega)
  rw [h] at hh
  have HH := Lib.hid hh
  have hdec : decide ((xs.getD 25 0).toNat ≤ 180) = true := decide_eq_true hgood
  have hrd := fun W (hW : Below V.heap.size V W) => recRead_any bb oo c xs W (hr.below (below_then bV hW)) (by have := hW.size; omega)
  unfold RetRd at hrd
  rw [hdec] at hrd
  have HRd := Lib.hid hrd
  have ZV := Lib.hid zV
  have HX := Lib.hid hr.2.1
  clear hV h hh hrd hdec zV
  go_enter Try.func47, Try.ntmps47
  go_wp2_with fail
  rw [← HV.out]
  refine HH.out.mono ?_
  rintro e w2 ⟨rfl, hb2⟩
  have Q2 := Lib.hid (Q.out.up hb2)
  go_wp2_with fail
  refine (HRd.out w2 hb2).mono ?_
  rintro e w3 ⟨A4, n4, c4, R, rfl, hRD, hRb, hRx, hRf, hb3⟩
  have Q3 := Lib.hid (Q2.out.up hb3)
  obtain ⟨Z3, hZ3⟩ : ∃ W, W = w3.alloc (.cells #[.int .u32 0, .int .u32 0, .int .u32 0, .int .u64 0, .int .i64 0, .int .u64 0, .slice none 0 0, .int .u8 0, .int .u8 0, .int .u8 0, .int .u8 0, .int .u8 0, .int .u8 0, .int .u8 0, .int .u8 0, .int .u8 0, .int .u8 0, .int .u8 0, .int .u8 0, .int .u8 0, .int .u8 0, .int .u8 0, .int .u8 0, .int .u8 0, .int .u8 0, .int .u8 0, .int .u8 0, .int .u8 0, .int .u8 0, .int .u8 0, .int .u8 0, .int .u8 0, .int .u8 0, .int .u8 0, .int .u8 0, .int .u8 0, .int .u8 0, .int .u8 0, .int .u8 0] 69) := ⟨_, rfl⟩
  have QZ : Hid (RcAt Z3 w3.heap.size rcZ none 0 0) := by rw [hZ3]; exact Lib.hid (zeroAt rfl)
  have bZ : Below w3.heap.size w3 Z3 := by rw [hZ3]; exact (below_self _).alloc (Nat.le_refl _) _
  obtain ⟨X, hX⟩ : ∃ W, W = Z3.setRow w3.heap.size (rcV R A4 n4 c4).toArray := ⟨_, rfl⟩
  have bX : Below w3.heap.size w3 X := by rw [hX]; exact below_setRow bZ (Nat.le_refl _) _
  have QX : Hid (RcAt X w3.heap.size R A4 n4 c4) := by rw [hX]; exact Lib.hid QZ.out.setRow
  have QR : Hid (RcAt X w.heap.size rcZ none 0 0) := Lib.hid (Q3.out.up bX)
  have B := below_then (below_then (below_then bV hb2) hb3) bX
  have hrX := hr.below B
  have hRbX := hRb.below bX
  have HX3 := Lib.hid hX
  have HZ3 := Lib.hid hZ3
  have HRX := Lib.hid hRx
  have HRD := Lib.hid hRD
  have z3 := hb3.size
  have z2 := hb2.size
  clear hX hZ3 hRx hRD
  have hR := HRX.out hgood
  have hok : R.ok := by rw [hR]; exact rcOf_ok xs HX.out
  have hp := recPut_any R A4 n4 c4 X hok hRbX
  unfold rcPutL rcPutE at hp
  rw [show R.chk = false by rw [hR]; exact hchk] at hp
  rw [if_neg (by decide), if_neg (by decide)] at hp
  have HP := Lib.hid hp
  clear hp hok hR hchk
  go_wp2_with (first | (rw [← HZ3.out]; refine rc_store rfl _ _ rfl rfl rfl QZ.out HRD.out rcZD ?_) | (rw [← HX3.out]; refine rc_load rfl _ rfl rfl QX.out HRD.out ?_))
  refine HP.out.mono ?_
  rintro e w5 ⟨A5, n5, c5, rfl, ho5, hb5⟩
  have QR5 := Lib.hid (QR.out.up hb5)
  go_wp2_with (refine rc_store rfl _ _ rfl rfl (r := rcZ) (A := none) (n := 0) (c := 0) (congrArg Value.agg zeroRc) QR5.out rcZD rcZD ?_)
  refine bodyPost_ret (rresults_row_tmp Try.results47 _ _ w.heap.size 69 _ (0, 0) _ rfl (RcAt.setRow (r' := rcZ) (A' := none) (n' := 0) (c' := 0) QR5.out) Try.underlying69 rfl (rcInfo rcZ none 0 0 rcZD)) rfl ?_
  exact ⟨none, 0, 0, rfl, RdB.nilB _, fun h => absurd h (Nat.lt_irrefl 0), below_setRow (below_then B hb5) (Nat.le_refl _) _⟩
theorem recGet_neq (A : Option Addr) (c : Nat) (xs : List UInt8) (w : World) (hr : RdB w A 256 c xs) (h : crcHolds xs = true) (hgood : (xs.getD 25 0).toNat ≤ 180) (hchk : (rcOf xs).chk = true) (hne : rcL (rcOf xs) ≠ xs) :
    Calls Try.prog 47 #[.slice A 256 c] w (RetRc w rcZ 3) := by
  have d1 : ((256 : Int) != 256) = false := by decide
  obtain ⟨bb, oo, u0, rfl, hbl, _⟩ := hr.at_ 0 (by omega)
  obtain ⟨V, hV⟩ : ∃ V, V = w.alloc (.cells #[.int .u32 0, .int .u32 0, .int .u32 0, .int .u64 0, .int .i64 0, .int .u64 0, .slice none 0 0, .int .u8 0, .int .u8 0, .int .u8 0, .int .u8 0, .int .u8 0, .int .u8 0, .int .u8 0, .int .u8 0, .int .u8 0, .int .u8 0, .int .u8 0, .int .u8 0, .int .u8 0, .int .u8 0, .int .u8 0, .int .u8 0, .int .u8 0, .int .u8 0, .int .u8 0, .int .u8 0, .int .u8 0, .int .u8 0, .int .u8 0, .int .u8 0, .int .u8 0, .int .u8 0, .int .u8 0, .int .u8 0, .int .u8 0, .int .u8 0, .int .u8 0, .int .u8 0] 69) := ⟨_, rfl⟩
  have bV : Below w.heap.size w V := by rw [hV]; exact (below_self w).alloc (Nat.le_refl _) _
  have zV : V.heap.size = w.heap.size + 1 := by rw [hV]; simp
  have Q : Hid (RcAt V w.heap.size rcZ none 0 0) := by rw [hV]; exact Lib.hid (zeroAt rfl)
  have HV := Lib.hid hV
  have hh := holds_any _ 256 c xs V (hr.below bV) (by omega)
  rw [h] at hh
  have HH := Lib.hid hh
  have hdec : decide ((xs.getD 25 0).toNat ≤ 180) = true := decide_eq_true hgood
  have hrd := fun W (hW : Below V.heap.size V W) => recRead_any bb oo c xs W (hr.below (below_then bV hW)) (by have := hW.size; omega)
  unfold RetRd at hrd
  rw [hdec] at hrd
  have HRd := Lib.hid hrd
  have ZV := Lib.hid zV
  have HX := Lib.hid hr.2.1
  clear hV h hh hrd hdec zV
  go_enter Try.func47, Try.ntmps47
  go_wp2_with fail
  rw [← HV.out]
  refine HH.out.mono ?_
  rintro e w2 ⟨rfl, hb2⟩
  have Q2 := Lib.hid (Q.out.up hb2)
  go_wp2_with fail
  refine (HRd.out w2 hb2).mono ?_
  rintro e w3 ⟨A4, n4, c4, R, rfl, hRD, hRb, hRx, hRf, hb3⟩
  have Q3 := Lib.hid (Q2.out.up hb3)
  obtain ⟨Z3, hZ3⟩ : ∃ W, W = w3.alloc (.cells #[.int .u32 0, .int .u32 0, .int .u32 0, .int .u64 0, .int .i64 0, .int .u64 0, .slice none 0 0, .int .u8 0, .int .u8 0, .int .u8 0, .int .u8 0, .int .u8 0, .int .u8 0, .int .u8 0, .int .u8 0, .int .u8 0, .int .u8 0, .int .u8 0, .int .u8 0, .int .u8 0, .int .u8 0, .int .u8 0, .int .u8 0, .int .u8 0, .int .u8 0, .int .u8 0, .int .u8 0, .int .u8 0, .int .u8 0, .int .u8 0, .int .u8 0, .int .u8 0, .int .u8 0, .int .u8 0, .int .u8 0, .int .u8 0, .int .u8 0, .int .u8 0, .int .u8 0] 69) := ⟨_, rfl⟩
  have QZ : Hid (RcAt Z3 w3.heap.size rcZ none 0 0) := by rw [hZ3]; exact Lib.hid (zeroAt rfl)
  have bZ : Below w3.heap.size w3 Z3 := by rw [hZ3]; exact (below_self _).alloc (Nat.le_refl _) _
  obtain ⟨X, hX⟩ : ∃ W, W = Z3.setRow w3.heap.size (rcV R A4 n4 c4).toArray := ⟨_, rfl⟩
  have bX : Below w3.heap.size w3 X := by rw [hX]; exact below_setRow bZ (Nat.le_refl _) _
  have QX : Hid (RcAt X w3.heap.size R A4 n4 c4) := by rw [hX]; exact Lib.hid QZ.out.setRow
  have QR : Hid (RcAt X w.heap.size rcZ none 0 0) := Lib.hid (Q3.out.up bX)
  have B := below_then (below_then (below_then bV hb2) hb3) bX
  have hrX := hr.below B
  have hRbX := hRb.below bX
  have HX3 := Lib.hid hX
  have HZ3 := Lib.hid hZ3
  have HRX := Lib.hid hRx
  have HRD := Lib.hid hRD
  have z3 := hb3.size
  have z2 := hb2.size
  clear hX hZ3 hRx hRD
  have hR := HRX.out hgood
  have hok : R.ok := by rw [hR]; exact rcOf_ok xs HX.out
  have hp := recPut_any R A4 n4 c4 X hok hRbX
  unfold rcPutL rcPutE at hp
  rw [show R.chk = true by rw [hR]; exact hchk] at hp
  rw [if_pos rfl, if_pos rfl] at hp
  have HP := Lib.hid hp
  have HEQ := Lib.hid (show decide (rcL R = xs) = false from by rw [hR]; exact decide_eq_false hne)
  have HR := Lib.hid hR
  clear hp hok hR hchk hne
  go_wp2_with (first | (rw [← HZ3.out]; refine rc_store rfl _ _ rfl rfl rfl QZ.out HRD.out rcZD ?_) | (rw [← HX3.out]; refine rc_load rfl _ rfl rfl QX.out HRD.out ?_))
  refine HP.out.mono ?_
  rintro e w5 ⟨A5, n5, c5, rfl, ho5, hb5⟩
  have QR5 := Lib.hid (QR.out.up hb5)
  have QX5 := Lib.hid (QX.out.up hb5)
  go_wp2_with fail
  refine (rbeq_any _ _ _ _ _ _ (rcL R) xs w5 ho5.rd (hrX.below hb5)).mono ?_
  rintro e w6 ⟨rfl, rfl⟩
  rw [HEQ.out]
  go_wp2_with (refine rc_store rfl _ _ rfl rfl (r := rcZ) (A := none) (n := 0) (c := 0) (congrArg Value.agg zeroRc) QR5.out rcZD rcZD ?_)
  refine bodyPost_ret (rresults_row_tmp Try.results47 _ _ w.heap.size 69 _ (0, 0) _ rfl (RcAt.setRow (r' := rcZ) (A' := none) (n' := 0) (c' := 0) QR5.out) Try.underlying69 rfl (rcInfo rcZ none 0 0 rcZD)) rfl ?_
  exact ⟨none, 0, 0, rfl, RdB.nilB _, fun h => absurd h (Nat.lt_irrefl 0), below_setRow (below_then B hb5) (Nat.le_refl _) _⟩
theorem recGet_yes (A : Option Addr) (c : Nat) (xs : List UInt8) (w : World) (hr : RdB w A 256 c xs) (h : crcHolds xs = true) (hgood : (xs.getD 25 0).toNat ≤ 180) (hchk : (rcOf xs).chk = true) (hne : rcL (rcOf xs) = xs) :
    Calls Try.prog 47 #[.slice A 256 c] w (RetRc w (rcOf xs) 0) := by
  have d1 : ((256 : Int) != 256) = false := by decide
  obtain ⟨bb, oo, u0, rfl, hbl, _⟩ := hr.at_ 0 (by omega)
  obtain ⟨V, hV⟩ : ∃ V, V = w.alloc (.cells #[.int .u32 0, .int .u32 0, .int .u32 0, .int .u64 0, .int .i64 0, .int .u64 0, .slice none 0 0, .int .u8 0, .int .u8 0, .int .u8 0, .int .u8 0, .int .u8 0, .int .u8 0, .int .u8 0, .int .u8 0, .int .u8 0, .int .u8 0, .int .u8 0, .int .u8 0, .int .u8 0, .int .u8 0, .int .u8 0, .int .u8 0, .int .u8 0, .int .u8 0, .int .u8 0, .int .u8 0, .int .u8 0, .int .u8 0, .int .u8 0, .int .u8 0, .int .u8 0, .int .u8 0, .int .u8 0, .int .u8 0, .int .u8 0, .int .u8 0, .int .u8 0, .int .u8 0] 69) := ⟨_, rfl⟩
  have bV : Below w.heap.size w V := by rw [hV]; exact (below_self w).alloc (Nat.le_refl _) _
  have zV : V.heap.size = w.heap.size + 1 := by rw [hV]; simp
  have Q : Hid (RcAt V w.heap.size rcZ none 0 0) := by rw [hV]; exact Lib.hid (zeroAt rfl)
  have HV := Lib.hid hV
  have hh := holds_any _ 256 c xs V (hr.below bV) (by omega)
  rw [h] at hh
  have HH := Lib.hid hh
  have hdec : decide ((xs.getD 25 0).toNat ≤ 180) = true := decide_eq_true hgood
  have hrd := fun W (hW : Below V.heap.size V W) => recRead_any bb oo c xs W (hr.below (below_then bV hW)) (by have := hW.size; omega)
  unfold RetRd at hrd
  rw [hdec] at hrd
  have HRd := Lib.hid hrd
  have ZV := Lib.hid zV
  have HX := Lib.hid hr.2.1
  clear hV h hh hrd hdec zV
  go_enter Try.func47, Try.ntmps47
  go_wp2_with fail
  rw [← HV.out]
  refine HH.out.mono ?_
  rintro e w2 ⟨rfl, hb2⟩
  have Q2 := Lib.hid (Q.out.up hb2)
  go_wp2_with fail
  refine (HRd.out w2 hb2).mono ?_
  rintro e w3 ⟨A4, n4, c4, R, rfl, hRD, hRb, hRx, hRf, hb3⟩
  have Q3 := Lib.hid (Q2.out.up hb3)
  obtain ⟨Z3, hZ3⟩ : ∃ W, W = w3.alloc (.cells #[.int .u32 0, .int .u32 0, .int .u32 0, .int .u64 0, .int .i64 0, .int .u64 0, .slice none 0 0, .int .u8 0, .int .u8 0, .int .u8 0, .int .u8 0, .int .u8 0, .int .u8 0, .int .u8 0, .int .u8 0, .int .u8 0, .int .u8 0, .int .u8 0, .int .u8 0, .int .u8 0, .int .u8 0, .int .u8 0, .int .u8 0, .int .u8 0, .int .u8 0, .int .u8 0, .int .u8 0, .int .u8 0, .int .u8 0, .int .u8 0, .int .u8 0, .int .u8 0, .int .u8 0, .int .u8 0, .int .u8 0, .int .u8 0, .int .u8 0, .int .u8 0, .int .u8 0] 69) := ⟨_, rfl⟩
  have QZ : Hid (RcAt Z3 w3.heap.size rcZ none 0 0) := by rw [hZ3]; exact Lib.hid (zeroAt rfl)
  have bZ : Below w3.heap.size w3 Z3 := by rw [hZ3]; exact (below_self _).alloc (Nat.le_refl _) _
  obtain ⟨X, hX⟩ : ∃ W, W = Z3.setRow w3.heap.size (rcV R A4 n4 c4).toArray := ⟨_, rfl⟩
  have bX : Below w3.heap.size w3 X := by rw [hX]; exact below_setRow bZ (Nat.le_refl _) _
  have QX : Hid (RcAt X w3.heap.size R A4 n4 c4) := by rw [hX]; exact Lib.hid QZ.out.setRow
  have QR : Hid (RcAt X w.heap.size rcZ none 0 0) := Lib.hid (Q3.out.up bX)
  have B := below_then (below_then (below_then bV hb2) hb3) bX
  have hrX := hr.below B
  have hRbX := hRb.below bX
  have HX3 := Lib.hid hX
  have HZ3 := Lib.hid hZ3
  have HRX := Lib.hid hRx
  have HRD := Lib.hid hRD
  have z3 := hb3.size
  have z2 := hb2.size
  clear hX hZ3 hRx hRD
  have hR := HRX.out hgood
  have hok : R.ok := by rw [hR]; exact rcOf_ok xs HX.out
  have hp := recPut_any R A4 n4 c4 X hok hRbX
  unfold rcPutL rcPutE at hp
  rw [show R.chk = true by rw [hR]; exact hchk] at hp
  rw [if_pos rfl, if_pos rfl] at hp
  have HP := Lib.hid hp
  have HEQ := Lib.hid (show decide (rcL R = xs) = true from by rw [hR]; exact decide_eq_true hne)
  have HR := Lib.hid hR
  clear hp hok hR hchk hne
  go_wp2_with (first | (rw [← HZ3.out]; refine rc_store rfl _ _ rfl rfl rfl QZ.out HRD.out rcZD ?_) | (rw [← HX3.out]; refine rc_load rfl _ rfl rfl QX.out HRD.out ?_))
  refine HP.out.mono ?_
  rintro e w5 ⟨A5, n5, c5, rfl, ho5, hb5⟩
  have QR5 := Lib.hid (QR.out.up hb5)
  have QX5 := Lib.hid (QX.out.up hb5)
  go_wp2_with fail
  refine (rbeq_any _ _ _ _ _ _ (rcL R) xs w5 ho5.rd (hrX.below hb5)).mono ?_
  rintro e w6 ⟨rfl, rfl⟩
  rw [HEQ.out]
  go_wp2_with (first | (refine rc_load rfl _ rfl rfl QX5.out HRD.out ?_) | (refine rc_store rfl _ _ rfl rfl rfl QR5.out HRD.out rcZD ?_))
  rw [← HR.out]
  refine bodyPost_ret (rresults_row_tmp Try.results47 _ _ w.heap.size 69 _ (0, 0) _ rfl (RcAt.setRow (r' := R) (A' := A4) (n' := n4) (c' := c4) QR5.out) Try.underlying69 rfl (rcInfo R A4 n4 c4 HRD.out)) rfl ?_
  exact ⟨A4, n4, c4, rfl, rd_row (hRbX.below hb5) w.heap.size _ (fun h0 a e => by have := hRf h0 a e; have := ZV.out; omega), fun h0 a e => by have := hRf h0 a e; have := ZV.out; omega, below_setRow (below_then B hb5) (Nat.le_refl _) _⟩
theorem recGet_any (A : Option Addr) (n c : Nat) (xs : List UInt8) (w : World) (hr : RdB w A n c xs) :
    Calls Try.prog 47 #[.slice A n c] w (RetRc w (rcGet xs) (rcGetE xs)) := by
  by_cases hn : n = 256
  · subst hn
    have hl := hr.2.1
    cases h : crcHolds xs with
    | false =>
      have e : rcGetE xs = 6 := by unfold rcGetE; rw [if_neg (by simp [hl]), if_pos h]
      have e2 : rcGet xs = rcZ := by unfold rcGet; rw [if_neg (by rw [e]; decide)]
      rw [e, e2]; exact recGet_sum A c xs w hr h
    | true =>
      by_cases hg : (xs.getD 25 0).toNat ≤ 180
      · have eg : rcGetE xs = if (rcOf xs).chk = true ∧ rcL (rcOf xs) = xs then 0 else 3 := by unfold rcGetE; rw [if_neg (by simp [hl]), if_neg (by simp [h]), if_neg (by omega)]
        cases hc : (rcOf xs).chk with
        | false =>
          have e : rcGetE xs = 3 := by rw [eg, if_neg (by simp [hc])]
          have e2 : rcGet xs = rcZ := by unfold rcGet; rw [if_neg (by rw [e]; decide)]
          rw [e, e2]; exact recGet_chk A c xs w hr h hg hc
        | true =>
          by_cases hq : rcL (rcOf xs) = xs
          · have e : rcGetE xs = 0 := by rw [eg, if_pos ⟨hc, hq⟩]
            have e2 : rcGet xs = rcOf xs := by unfold rcGet; rw [if_pos e]
            rw [e, e2]; exact recGet_yes A c xs w hr h hg hc hq
          · have e : rcGetE xs = 3 := by rw [eg, if_neg (fun h => hq h.2)]
            have e2 : rcGet xs = rcZ := by unfold rcGet; rw [if_neg (by rw [e]; decide)]
            rw [e, e2]; exact recGet_neq A c xs w hr h hg hc hq
      · have e : rcGetE xs = 3 := by unfold rcGetE; rw [if_neg (by simp [hl]), if_neg (by simp [h]), if_pos (by omega)]
        have e2 : rcGet xs = rcZ := by unfold rcGet; rw [if_neg (by rw [e]; decide)]
        rw [e, e2]; exact recGet_form A c xs w hr h hg
  · have e : rcGetE xs = 2 := by unfold rcGetE; rw [if_pos (by rw [hr.2.1]; exact hn)]
    have e2 : rcGet xs = rcZ := by unfold rcGet; rw [if_neg (by rw [e]; decide)]
    rw [e, e2]; exact recGet_early A n c xs w hr hn
end Go.Proofs.Ytnfepikgbdeomaa
