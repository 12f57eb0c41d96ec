/-
  Layer 12: records: Follow.
-/
import Derived.Test.YtnfepikgbdeomaaRecG
import Derived.Test.YtnfepikgbdeomaaSupE
namespace Go.Proofs.Ytnfepikgbdeomaa
set_option maxRecDepth 20000
open Go.RowKit
set_option linter.unusedVariables false
set_option linter.unusedSimpArgs false
set_option maxHeartbeats 4000000

theorem rdig_eq (P Q : List UInt8) (hP : P.length = 32) (hQ : Q.length = 32) (W : World) : (Op.equalIn 10000 67 (.agg (dgA P)) (.agg (dgA Q))).run Try.prog W = .ok (decide (P = Q)) W := run_eqIn_digest 9996 W P Q hP hQ
theorem mid_dig {w : World} {h : Nat} {r : Rc} {A : Option Addr} {n c : Nat} (q : RcAt w h r A n c) (hD : r.D.length = 32) : (loadVar 67 ⟨h, 7, none⟩).run Try.prog w = .ok (.agg (dgA r.D)) w :=
  run_loadVar_mid w h 7 67 (r.D.map vB) _ (rd_range (q.dig hD)) Try.underlying67 rfl (by rw [List.length_map, hD]; kernel_rfl)
theorem recFollow_err (P : List UInt8) (hP : P.length = 32) (g s : Nat) (A : Option Addr) (n c : Nat) (xs : List UInt8) (w : World) (hr : RdB w A n c xs) (hE0 : rcGetE xs ≠ 0) :
    Calls Try.prog 38 #[.agg (dgA P), .int .u32 (g : Int), .int .u32 (s : Int), .slice A n c] w (RetRc w rcZ (rcGetE xs)) := by
  have hn := hr.n63
  have hL := hr.2.1
  have hc := hr.2.2.1
  obtain ⟨V, hV⟩ : ∃ V, V = (w.alloc (.cells (dgA P) 67)).alloc (.cells #[.int .u32 0, .int .u32 0, .int .u32 0, .int .u64 0, .int .i64 0, .int .u64 0, .slice none 0 0, .int .u8 0, .int .u8 0, .int .u8 0, .int .u8 0, .int .u8 0, .int .u8 0, .int .u8 0, .int .u8 0, .int .u8 0, .int .u8 0, .int .u8 0, .int .u8 0, .int .u8 0, .int .u8 0, .int .u8 0, .int .u8 0, .int .u8 0, .int .u8 0, .int .u8 0, .int .u8 0, .int .u8 0, .int .u8 0, .int .u8 0, .int .u8 0, .int .u8 0, .int .u8 0, .int .u8 0, .int .u8 0, .int .u8 0, .int .u8 0, .int .u8 0, .int .u8 0] 69) := ⟨_, rfl⟩
  have bV : Below w.heap.size w V := by rw [hV]; exact ((below_self w).alloc (Nat.le_refl _) _).alloc (by simp) _
  have zV : V.heap.size = w.heap.size + 2 := by rw [hV]; simp
  have QP : Hid (V.heap[w.heap.size]? = some (.cells (dgA P) 67 (0, 0))) := by rw [hV]; exact Lib.hid (rw_old _ (rw_at _ rfl))
  have Q : Hid (RcAt V (w.heap.size + 1) rcZ none 0 0) := by rw [hV]; exact Lib.hid (zeroAt (by simp))
  have HV := Lib.hid hV
  have hG := recGet_any A n c xs V (hr.below bV)
  obtain ⟨hok9, hb9⟩ := rcGet_okk xs
  obtain ⟨E, hE⟩ : ∃ E, rcGetE xs = E := ⟨_, rfl⟩
  obtain ⟨R, hR⟩ : ∃ R, rcGet xs = R := ⟨_, rfl⟩
  rw [hE, hR] at hG
  rw [hR] at hok9
  have n0 : ¬ (E = 0) := by rw [← hE]; exact hE0
  have n1 : (E != 0) = true := bne_iff_ne.2 n0
  have HG := Lib.hid hG
  have HE := Lib.hid hE
  have HR := Lib.hid hR
  have HRD := Lib.hid hok9.2.2.2.2.2.2
  have HP := Lib.hid hP
  have ZV := Lib.hid zV
  have HB9 := Lib.hid hb9
  clear hV hG hE hR hP zV hb9
  go_enter Try.func38, Try.ntmps38
  go_wp2_with fail
  rw [← HV.out]
  refine HG.out.mono ?_
  rintro e w3 ⟨A4, n4, c4, rfl, hRb, hRf, hb3⟩
  have Q3 := Lib.hid (Q.out.up hb3)
  obtain ⟨Z3, hZ3⟩ : ∃ W, W = w3.alloc (.cells #[.int .u32 0, .int .u32 0, .int .u32 0, .int .u64 0, .int .i64 0, .int .u64 0, .slice none 0 0, .int .u8 0, .int .u8 0, .int .u8 0, .int .u8 0, .int .u8 0, .int .u8 0, .int .u8 0, .int .u8 0, .int .u8 0, .int .u8 0, .int .u8 0, .int .u8 0, .int .u8 0, .int .u8 0, .int .u8 0, .int .u8 0, .int .u8 0, .int .u8 0, .int .u8 0, .int .u8 0, .int .u8 0, .int .u8 0, .int .u8 0, .int .u8 0, .int .u8 0, .int .u8 0, .int .u8 0, .int .u8 0, .int .u8 0, .int .u8 0, .int .u8 0, .int .u8 0] 69) := ⟨_, rfl⟩
  have QZ : Hid (RcAt Z3 w3.heap.size rcZ none 0 0) := by rw [hZ3]; exact Lib.hid (zeroAt rfl)
  have bZ : Below w3.heap.size w3 Z3 := by rw [hZ3]; exact (below_self _).alloc (Nat.le_refl _) _
  obtain ⟨X, hX⟩ : ∃ W, W = Z3.setRow w3.heap.size (rcV R A4 n4 c4).toArray := ⟨_, rfl⟩
  have bX : Below w3.heap.size w3 X := by rw [hX]; exact below_setRow bZ (Nat.le_refl _) _
  have QX : Hid (RcAt X w3.heap.size R A4 n4 c4) := by rw [hX]; exact Lib.hid QZ.out.setRow
  have QR : Hid (RcAt X (w.heap.size + 1) rcZ none 0 0) := Lib.hid (Q3.out.up bX)
  have QP := Lib.hid (rw_up QP.out (below_then hb3 bX))
  have B := below_then (below_then bV hb3) bX
  have hrX := hr.below B
  have hRbX := hRb.below bX
  have z3 := hb3.size
  have k0 := RcAt.c0 QX.out
  have k1 := RcAt.c1 QX.out
  rw [hX] at k0 k1
  have HX3 := Lib.hid hX
  have HZ3 := Lib.hid hZ3
  clear hX hZ3
  clear hE0
  go_wp2_with (first | (rw [← HZ3.out]; refine rc_store rfl _ _ rfl rfl rfl QZ.out HRD.out rcZD ?_) | (rw [← HX3.out]; refine rc_store rfl _ _ rfl rfl (r := rcZ) (A := none) (n := 0) (c := 0) (congrArg Value.agg zeroRc) QR.out rcZD rcZD ?_))
  refine bodyPost_ret (rresults_row_tmp Try.results38 _ _ (w.heap.size + 1) 69 _ (0, 0) _ rfl (RcAt.setRow (r' := rcZ) (A' := none) (n' := 0) (c' := 0) QR.out) Try.underlying69 rfl (rcInfo rcZ none 0 0 rcZD)) rfl ?_
  exact ⟨none, 0, 0, by rw [HE.out]; rfl, RdB.nilB _, fun h => absurd h (Nat.lt_irrefl 0), below_setRow (B) (by omega) _⟩
theorem recFollow_gen (P : List UInt8) (hP : P.length = 32) (g s : Nat) (A : Option Addr) (n c : Nat) (xs : List UInt8) (w : World) (hr : RdB w A n c xs) (hE0 : rcGetE xs = 0) (hne : (rcGet xs).g ≠ g) :
    Calls Try.prog 38 #[.agg (dgA P), .int .u32 (g : Int), .int .u32 (s : Int), .slice A n c] w (RetRc w rcZ 120) := by
  have hn := hr.n63
  have hL := hr.2.1
  have hc := hr.2.2.1
  obtain ⟨V, hV⟩ : ∃ V, V = (w.alloc (.cells (dgA P) 67)).alloc (.cells #[.int .u32 0, .int .u32 0, .int .u32 0, .int .u64 0, .int .i64 0, .int .u64 0, .slice none 0 0, .int .u8 0, .int .u8 0, .int .u8 0, .int .u8 0, .int .u8 0, .int .u8 0, .int .u8 0, .int .u8 0, .int .u8 0, .int .u8 0, .int .u8 0, .int .u8 0, .int .u8 0, .int .u8 0, .int .u8 0, .int .u8 0, .int .u8 0, .int .u8 0, .int .u8 0, .int .u8 0, .int .u8 0, .int .u8 0, .int .u8 0, .int .u8 0, .int .u8 0, .int .u8 0, .int .u8 0, .int .u8 0, .int .u8 0, .int .u8 0, .int .u8 0, .int .u8 0] 69) := ⟨_, rfl⟩
  have bV : Below w.heap.size w V := by rw [hV]; exact ((below_self w).alloc (Nat.le_refl _) _).alloc (by simp) _
  have zV : V.heap.size = w.heap.size + 2 := by rw [hV]; simp
  have QP : Hid (V.heap[w.heap.size]? = some (.cells (dgA P) 67 (0, 0))) := by rw [hV]; exact Lib.hid (rw_old _ (rw_at _ rfl))
  have Q : Hid (RcAt V (w.heap.size + 1) rcZ none 0 0) := by rw [hV]; exact Lib.hid (zeroAt (by simp))
  have HV := Lib.hid hV
  have hG := recGet_any A n c xs V (hr.below bV)
  obtain ⟨hok9, hb9⟩ := rcGet_okk xs
  obtain ⟨E, hE⟩ : ∃ E, rcGetE xs = E := ⟨_, rfl⟩
  obtain ⟨R, hR⟩ : ∃ R, rcGet xs = R := ⟨_, rfl⟩
  rw [hE, hR] at hG
  rw [hR] at hok9
  have hE1 : E = 0 := by rw [← hE]; exact hE0
  subst hE1
  have n0 : ¬ ((R.g : Int) = (g : Int)) := by rw [← hR]; omega
  have n1 : ((R.g : Int) != (g : Int)) = true := bne_iff_ne.2 n0
  have HG := Lib.hid hG
  have HE := Lib.hid hE
  have HR := Lib.hid hR
  have HRD := Lib.hid hok9.2.2.2.2.2.2
  have HP := Lib.hid hP
  have ZV := Lib.hid zV
  have HB9 := Lib.hid hb9
  clear hV hG hE hR hP zV hb9
  go_enter Try.func38, Try.ntmps38
  go_wp2_with fail
  rw [← HV.out]
  refine HG.out.mono ?_
  rintro e w3 ⟨A4, n4, c4, rfl, hRb, hRf, hb3⟩
  have Q3 := Lib.hid (Q.out.up hb3)
  obtain ⟨Z3, hZ3⟩ : ∃ W, W = w3.alloc (.cells #[.int .u32 0, .int .u32 0, .int .u32 0, .int .u64 0, .int .i64 0, .int .u64 0, .slice none 0 0, .int .u8 0, .int .u8 0, .int .u8 0, .int .u8 0, .int .u8 0, .int .u8 0, .int .u8 0, .int .u8 0, .int .u8 0, .int .u8 0, .int .u8 0, .int .u8 0, .int .u8 0, .int .u8 0, .int .u8 0, .int .u8 0, .int .u8 0, .int .u8 0, .int .u8 0, .int .u8 0, .int .u8 0, .int .u8 0, .int .u8 0, .int .u8 0, .int .u8 0, .int .u8 0, .int .u8 0, .int .u8 0, .int .u8 0, .int .u8 0, .int .u8 0, .int .u8 0] 69) := ⟨_, rfl⟩
  have QZ : Hid (RcAt Z3 w3.heap.size rcZ none 0 0) := by rw [hZ3]; exact Lib.hid (zeroAt rfl)
  have bZ : Below w3.heap.size w3 Z3 := by rw [hZ3]; exact (below_self _).alloc (Nat.le_refl _) _
  obtain ⟨X, hX⟩ : ∃ W, W = Z3.setRow w3.heap.size (rcV R A4 n4 c4).toArray := ⟨_, rfl⟩
  have bX : Below w3.heap.size w3 X := by rw [hX]; exact below_setRow bZ (Nat.le_refl _) _
  have QX : Hid (RcAt X w3.heap.size R A4 n4 c4) := by rw [hX]; exact Lib.hid QZ.out.setRow
  have QR : Hid (RcAt X (w.heap.size + 1) rcZ none 0 0) := Lib.hid (Q3.out.up bX)
  have QP := Lib.hid (rw_up QP.out (below_then hb3 bX))
  have B := below_then (below_then bV hb3) bX
  have hrX := hr.below B
  have hRbX := hRb.below bX
  have z3 := hb3.size
  have k0 := RcAt.c0 QX.out
  have k1 := RcAt.c1 QX.out
  rw [hX] at k0 k1
  have HX3 := Lib.hid hX
  have HZ3 := Lib.hid hZ3
  clear hX hZ3
  clear hE0 hne
  go_wp2_with (first | (rw [← HZ3.out]; refine rc_store rfl _ _ rfl rfl rfl QZ.out HRD.out rcZD ?_) | (rw [← HX3.out]; refine rc_store rfl _ _ rfl rfl (r := rcZ) (A := none) (n := 0) (c := 0) (congrArg Value.agg zeroRc) QR.out rcZD rcZD ?_))
  refine bodyPost_ret (rresults_row_tmp Try.results38 _ _ (w.heap.size + 1) 69 _ (0, 0) _ rfl (RcAt.setRow (r' := rcZ) (A' := none) (n' := 0) (c' := 0) QR.out) Try.underlying69 rfl (rcInfo rcZ none 0 0 rcZD)) rfl ?_
  exact ⟨none, 0, 0, rfl, RdB.nilB _, fun h => absurd h (Nat.lt_irrefl 0), below_setRow (B) (by omega) _⟩
theorem recFollow_seq (P : List UInt8) (hP : P.length = 32) (g s : Nat) (A : Option Addr) (n c : Nat) (xs : List UInt8) (w : World) (hr : RdB w A n c xs) (hE0 : rcGetE xs = 0) (hg : (rcGet xs).g = g) (hne : (rcGet xs).s ≠ s) :
    Calls Try.prog 38 #[.agg (dgA P), .int .u32 (g : Int), .int .u32 (s : Int), .slice A n c] w (RetRc w rcZ 121) := by
  have hn := hr.n63
  have hL := hr.2.1
  have hc := hr.2.2.1
  obtain ⟨V, hV⟩ : ∃ V, V = (w.alloc (.cells (dgA P) 67)).alloc (.cells #[.int .u32 0, .int .u32 0, .int .u32 0, .int .u64 0, .int .i64 0, .int .u64 0, .slice none 0 0, .int .u8 0, .int .u8 0, .int .u8 0, .int .u8 0, .int .u8 0, .int .u8 0, .int .u8 0, .int .u8 0, .int .u8 0, .int .u8 0, .int .u8 0, .int .u8 0, .int .u8 0, .int .u8 0, .int .u8 0, .int .u8 0, .int .u8 0, .int .u8 0, .int .u8 0, .int .u8 0, .int .u8 0, .int .u8 0, .int .u8 0, .int .u8 0, .int .u8 0, .int .u8 0, .int .u8 0, .int .u8 0, .int .u8 0, .int .u8 0, .int .u8 0, .int .u8 0] 69) := ⟨_, rfl⟩
  have bV : Below w.heap.size w V := by rw [hV]; exact ((below_self w).alloc (Nat.le_refl _) _).alloc (by simp) _
  have zV : V.heap.size = w.heap.size + 2 := by rw [hV]; simp
  have QP : Hid (V.heap[w.heap.size]? = some (.cells (dgA P) 67 (0, 0))) := by rw [hV]; exact Lib.hid (rw_old _ (rw_at _ rfl))
  have Q : Hid (RcAt V (w.heap.size + 1) rcZ none 0 0) := by rw [hV]; exact Lib.hid (zeroAt (by simp))
  have HV := Lib.hid hV
  have hG := recGet_any A n c xs V (hr.below bV)
  obtain ⟨hok9, hb9⟩ := rcGet_okk xs
  obtain ⟨E, hE⟩ : ∃ E, rcGetE xs = E := ⟨_, rfl⟩
  obtain ⟨R, hR⟩ : ∃ R, rcGet xs = R := ⟨_, rfl⟩
  rw [hE, hR] at hG
  rw [hR] at hok9
  have hE1 : E = 0 := by rw [← hE]; exact hE0
  subst hE1
  have m0 : R.g = g := by rw [← hR]; exact hg
  subst m0
  have n0 : ¬ ((R.s : Int) = (s : Int)) := by rw [← hR]; omega
  have n1 : ((R.s : Int) != (s : Int)) = true := bne_iff_ne.2 n0
  have HG := Lib.hid hG
  have HE := Lib.hid hE
  have HR := Lib.hid hR
  have HRD := Lib.hid hok9.2.2.2.2.2.2
  have HP := Lib.hid hP
  have ZV := Lib.hid zV
  have HB9 := Lib.hid hb9
  clear hV hG hE hR hP zV hb9
  go_enter Try.func38, Try.ntmps38
  go_wp2_with fail
  rw [← HV.out]
  refine HG.out.mono ?_
  rintro e w3 ⟨A4, n4, c4, rfl, hRb, hRf, hb3⟩
  have Q3 := Lib.hid (Q.out.up hb3)
  obtain ⟨Z3, hZ3⟩ : ∃ W, W = w3.alloc (.cells #[.int .u32 0, .int .u32 0, .int .u32 0, .int .u64 0, .int .i64 0, .int .u64 0, .slice none 0 0, .int .u8 0, .int .u8 0, .int .u8 0, .int .u8 0, .int .u8 0, .int .u8 0, .int .u8 0, .int .u8 0, .int .u8 0, .int .u8 0, .int .u8 0, .int .u8 0, .int .u8 0, .int .u8 0, .int .u8 0, .int .u8 0, .int .u8 0, .int .u8 0, .int .u8 0, .int .u8 0, .int .u8 0, .int .u8 0, .int .u8 0, .int .u8 0, .int .u8 0, .int .u8 0, .int .u8 0, .int .u8 0, .int .u8 0, .int .u8 0, .int .u8 0, .int .u8 0] 69) := ⟨_, rfl⟩
  have QZ : Hid (RcAt Z3 w3.heap.size rcZ none 0 0) := by rw [hZ3]; exact Lib.hid (zeroAt rfl)
  have bZ : Below w3.heap.size w3 Z3 := by rw [hZ3]; exact (below_self _).alloc (Nat.le_refl _) _
  obtain ⟨X, hX⟩ : ∃ W, W = Z3.setRow w3.heap.size (rcV R A4 n4 c4).toArray := ⟨_, rfl⟩
  have bX : Below w3.heap.size w3 X := by rw [hX]; exact below_setRow bZ (Nat.le_refl _) _
  have QX : Hid (RcAt X w3.heap.size R A4 n4 c4) := by rw [hX]; exact Lib.hid QZ.out.setRow
  have QR : Hid (RcAt X (w.heap.size + 1) rcZ none 0 0) := Lib.hid (Q3.out.up bX)
  have QP := Lib.hid (rw_up QP.out (below_then hb3 bX))
  have B := below_then (below_then bV hb3) bX
  have hrX := hr.below B
  have hRbX := hRb.below bX
  have z3 := hb3.size
  have k0 := RcAt.c0 QX.out
  have k1 := RcAt.c1 QX.out
  rw [hX] at k0 k1
  have HX3 := Lib.hid hX
  have HZ3 := Lib.hid hZ3
  clear hX hZ3
  clear hE0 hne hg
  go_wp2_with (first | (rw [← HZ3.out]; refine rc_store rfl _ _ rfl rfl rfl QZ.out HRD.out rcZD ?_) | (rw [← HX3.out]; refine rc_store rfl _ _ rfl rfl (r := rcZ) (A := none) (n := 0) (c := 0) (congrArg Value.agg zeroRc) QR.out rcZD rcZD ?_))
  refine bodyPost_ret (rresults_row_tmp Try.results38 _ _ (w.heap.size + 1) 69 _ (0, 0) _ rfl (RcAt.setRow (r' := rcZ) (A' := none) (n' := 0) (c' := 0) QR.out) Try.underlying69 rfl (rcInfo rcZ none 0 0 rcZD)) rfl ?_
  exact ⟨none, 0, 0, rfl, RdB.nilB _, fun h => absurd h (Nat.lt_irrefl 0), below_setRow (B) (by omega) _⟩
theorem recFollow_chain (P : List UInt8) (hP : P.length = 32) (g s : Nat) (A : Option Addr) (n c : Nat) (xs : List UInt8) (w : World) (hr : RdB w A n c xs) (hE0 : rcGetE xs = 0) (hg : (rcGet xs).g = g) (hs : (rcGet xs).s = s) (hch : (rcGet xs).D ≠ shLink P (rcBody (rcGet xs))) :
    Calls Try.prog 38 #[.agg (dgA P), .int .u32 (g : Int), .int .u32 (s : Int), .slice A n c] w (RetRc w rcZ 122) := by
  have hn := hr.n63
  have hL := hr.2.1
  have hc := hr.2.2.1
  obtain ⟨V, hV⟩ : ∃ V, V = (w.alloc (.cells (dgA P) 67)).alloc (.cells #[.int .u32 0, .int .u32 0, .int .u32 0, .int .u64 0, .int .i64 0, .int .u64 0, .slice none 0 0, .int .u8 0, .int .u8 0, .int .u8 0, .int .u8 0, .int .u8 0, .int .u8 0, .int .u8 0, .int .u8 0, .int .u8 0, .int .u8 0, .int .u8 0, .int .u8 0, .int .u8 0, .int .u8 0, .int .u8 0, .int .u8 0, .int .u8 0, .int .u8 0, .int .u8 0, .int .u8 0, .int .u8 0, .int .u8 0, .int .u8 0, .int .u8 0, .int .u8 0, .int .u8 0, .int .u8 0, .int .u8 0, .int .u8 0, .int .u8 0, .int .u8 0, .int .u8 0] 69) := ⟨_, rfl⟩
  have bV : Below w.heap.size w V := by rw [hV]; exact ((below_self w).alloc (Nat.le_refl _) _).alloc (by simp) _
  have zV : V.heap.size = w.heap.size + 2 := by rw [hV]; simp
  have QP : Hid (V.heap[w.heap.size]? = some (.cells (dgA P) 67 (0, 0))) := by rw [hV]; exact Lib.hid (rw_old _ (rw_at _ rfl))
  have Q : Hid (RcAt V (w.heap.size + 1) rcZ none 0 0) := by rw [hV]; exact Lib.hid (zeroAt (by simp))
  have HV := Lib.hid hV
  have hG := recGet_any A n c xs V (hr.below bV)
  obtain ⟨hok9, hb9⟩ := rcGet_okk xs
  obtain ⟨E, hE⟩ : ∃ E, rcGetE xs = E := ⟨_, rfl⟩
  obtain ⟨R, hR⟩ : ∃ R, rcGet xs = R := ⟨_, rfl⟩
  rw [hE, hR] at hG
  rw [hR] at hok9
  have hE1 : E = 0 := by rw [← hE]; exact hE0
  subst hE1
  have m0 : R.g = g := by rw [← hR]; exact hg
  subst m0
  have m1 : R.s = s := by rw [← hR]; exact hs
  subst m1
  obtain ⟨t1, t2, t3, t4, t5, t6, t7⟩ := rcGet_ok xs hE0
  have hn256 : n = 256 := by rw [← hL]; exact t2
  subst hn256
  have htk : xs.take 220 = rcBody R := by rw [← hR]; exact rcGet_take xs hE0
  obtain ⟨LK, hLK⟩ : ∃ d, d = shLink P (rcBody R) := ⟨_, rfl⟩
  have hLKl : LK.length = 32 := by rw [hLK]; exact shLink_len _ _
  have hq : decide (R.D = LK) = false := by rw [hLK, ← hR]; exact decide_eq_false hch
  have KQ := Lib.hid (fun W => hq ▸ rdig_eq R.D LK hok9.2.2.2.2.2.2 hLKl W)
  have HTK := Lib.hid htk
  have HLK := Lib.hid hLK
  have ci : (220 : Int) ≤ (c : Int) := by omega
  clear t1 t2 t3 t4 t5 t6 t7 hch htk hLK hLKl hq hL
  have HG := Lib.hid hG
  have HE := Lib.hid hE
  have HR := Lib.hid hR
  have HRD := Lib.hid hok9.2.2.2.2.2.2
  have HP := Lib.hid hP
  have ZV := Lib.hid zV
  have HB9 := Lib.hid hb9
  clear hV hG hE hR hP zV hb9
  go_enter Try.func38, Try.ntmps38
  go_wp2_with fail
  rw [← HV.out]
  refine HG.out.mono ?_
  rintro e w3 ⟨A4, n4, c4, rfl, hRb, hRf, hb3⟩
  have Q3 := Lib.hid (Q.out.up hb3)
  obtain ⟨Z3, hZ3⟩ : ∃ W, W = w3.alloc (.cells #[.int .u32 0, .int .u32 0, .int .u32 0, .int .u64 0, .int .i64 0, .int .u64 0, .slice none 0 0, .int .u8 0, .int .u8 0, .int .u8 0, .int .u8 0, .int .u8 0, .int .u8 0, .int .u8 0, .int .u8 0, .int .u8 0, .int .u8 0, .int .u8 0, .int .u8 0, .int .u8 0, .int .u8 0, .int .u8 0, .int .u8 0, .int .u8 0, .int .u8 0, .int .u8 0, .int .u8 0, .int .u8 0, .int .u8 0, .int .u8 0, .int .u8 0, .int .u8 0, .int .u8 0, .int .u8 0, .int .u8 0, .int .u8 0, .int .u8 0, .int .u8 0, .int .u8 0] 69) := ⟨_, rfl⟩
  have QZ : Hid (RcAt Z3 w3.heap.size rcZ none 0 0) := by rw [hZ3]; exact Lib.hid (zeroAt rfl)
  have bZ : Below w3.heap.size w3 Z3 := by rw [hZ3]; exact (below_self _).alloc (Nat.le_refl _) _
  obtain ⟨X, hX⟩ : ∃ W, W = Z3.setRow w3.heap.size (rcV R A4 n4 c4).toArray := ⟨_, rfl⟩
  have bX : Below w3.heap.size w3 X := by rw [hX]; exact below_setRow bZ (Nat.le_refl _) _
  have QX : Hid (RcAt X w3.heap.size R A4 n4 c4) := by rw [hX]; exact Lib.hid QZ.out.setRow
  have QR : Hid (RcAt X (w.heap.size + 1) rcZ none 0 0) := Lib.hid (Q3.out.up bX)
  have QP := Lib.hid (rw_up QP.out (below_then hb3 bX))
  have B := below_then (below_then bV hb3) bX
  have hrX := hr.below B
  have hRbX := hRb.below bX
  have z3 := hb3.size
  have k0 := RcAt.c0 QX.out
  have k1 := RcAt.c1 QX.out
  rw [hX] at k0 k1
  have HX3 := Lib.hid hX
  have HZ3 := Lib.hid hZ3
  clear hX hZ3
  clear hE0 hg hs
  rw [HX3.out.symm] at k0 k1
  have k0' := k0
  have k1' := k1
  rw [HX3.out] at k0 k1
  go_wp2_with (rw [← HZ3.out]; refine rc_store rfl _ _ rfl rfl rfl QZ.out HRD.out rcZD ?_)
  try rw [← HX3.out]
  have lP := rw_lt QP.out
  refine wp_region_seg (S := fun w' => Below X.heap.size X w') 0 #[true, true, true, true, true, true, true, true] [(0, true), (1, true), (2, true), (3, true), (4, true), (5, false), (6, true), (7, true)] (by kernel_rfl) (by kernel_rfl) (fun _ _ d _ _ h => by first | (cases d <;> exact h) | cases h.1) ((Below.refl X.heap.size X).drew) ?_
  have HB := (Below.refl X.heap.size X).drew
  iterate 1 (refine seg_take (v := ?_) rfl (Or.inl ⟨by rfl, ?_⟩) ?_; rotate_left; (focus (intro w' hw'; go_simp <;> with_reducible rfl)); try simp only [Act.put, List.setIfInBounds_toArray, List.set_cons_zero, List.set_cons_succ])
  refine seg_take (v := .agg (dgA R.D)) rfl (Or.inl ⟨by rfl, fun w' hw' => ?_⟩) ?_
  focus (exact rex_load rfl rfl (mid_dig (QX.out.up hw') HRD.out))
  try simp only [Act.put, List.setIfInBounds_toArray, List.set_cons_zero, List.set_cons_succ]
  refine seg_take (v := .agg (dgA P)) rfl (Or.inl ⟨by rfl, fun w' hw' => ?_⟩) ?_
  focus (exact rex_load rfl rfl (run_loadVar_row w' w.heap.size _ 67 _ _ _ (rw_up QP.out hw') Try.underlying67 rfl (infoD P HP.out)))
  try simp only [Act.put, List.setIfInBounds_toArray, List.set_cons_zero, List.set_cons_succ]
  iterate 2 (refine seg_take (v := ?_) rfl (Or.inl ⟨by rfl, ?_⟩) ?_; rotate_left; (focus (intro w' hw'; go_simp <;> with_reducible rfl)); try simp only [Act.put, List.setIfInBounds_toArray, List.set_cons_zero, List.set_cons_succ])
  refine seg_run rfl (fun K hK => ?_)
  go_simp
  refine (shaLink_any P HP.out _ 220 _ (xs.take 220) _ ((hrX.below HB).take 220 (by omega)) (by omega)).mono ?_
  rintro e_ w7 ⟨rfl, hb7⟩
  rw [HTK.out, ← HLK.out]
  have HB := below_then HB hb7
  refine hK.out _ _ (HB) ?_
  clear hK
  try simp only [Act.put, List.setIfInBounds_toArray, List.set_cons_zero, List.set_cons_succ]
  refine seg_take (v := .bool true) rfl (Or.inl ⟨by rfl, fun w' hw' => ?_⟩) ?_
  focus ((have jj := KQ.out w'; go_simp))
  try simp only [Act.put, List.setIfInBounds_toArray, List.set_cons_zero, List.set_cons_succ]
  iterate 1 (refine seg_take (v := ?_) rfl (Or.inl ⟨by rfl, ?_⟩) ?_; rotate_left; (focus (intro w' hw'; go_simp <;> with_reducible rfl)); try simp only [Act.put, List.setIfInBounds_toArray, List.set_cons_zero, List.set_cons_succ])
  refine seg_done (fun _ => ?_)
  refine wpAnyH_done (by kernel_rfl) ?_ _
  have QX7 := Lib.hid (QX.out.up HB)
  have QR7 := Lib.hid (QR.out.up HB)
  have B7 := below_then B HB
  go_wp2_with (refine rc_store rfl _ _ rfl rfl (r := rcZ) (A := none) (n := 0) (c := 0) (congrArg Value.agg zeroRc) QR7.out rcZD rcZD ?_)
  refine bodyPost_ret (rresults_row_tmp Try.results38 _ _ (w.heap.size + 1) 69 _ (0, 0) _ rfl (RcAt.setRow (r' := rcZ) (A' := none) (n' := 0) (c' := 0) QR7.out) Try.underlying69 rfl (rcInfo rcZ none 0 0 rcZD)) rfl ?_
  exact ⟨none, 0, 0, rfl, RdB.nilB _, fun h => absurd h (Nat.lt_irrefl 0), below_setRow (B7) (by omega) _⟩
theorem recFollow_yes (P : List UInt8) (hP : P.length = 32) (g s : Nat) (A : Option Addr) (n c : Nat) (xs : List UInt8) (w : World) (hr : RdB w A n c xs) (hE0 : rcGetE xs = 0) (hg : (rcGet xs).g = g) (hs : (rcGet xs).s = s) (hch : (rcGet xs).D = shLink P (rcBody (rcGet xs))) :
    Calls Try.prog 38 #[.agg (dgA P), .int .u32 (g : Int), .int .u32 (s : Int), .slice A n c] w (RetRc w (rcGet xs) 0) := by
  have hn := hr.n63
  have hL := hr.2.1
  have hc := hr.2.2.1
  obtain ⟨V, hV⟩ : ∃ V, V = (w.alloc (.cells (dgA P) 67)).alloc (.cells #[.int .u32 0, .int .u32 0, .int .u32 0, .int .u64 0, .int .i64 0, .int .u64 0, .slice none 0 0, .int .u8 0, .int .u8 0, .int .u8 0, .int .u8 0, .int .u8 0, .int .u8 0, .int .u8 0, .int .u8 0, .int .u8 0, .int .u8 0, .int .u8 0, .int .u8 0, .int .u8 0, .int .u8 0, .int .u8 0, .int .u8 0, .int .u8 0, .int .u8 0, .int .u8 0, .int .u8 0, .int .u8 0, .int .u8 0, .int .u8 0, .int .u8 0, .int .u8 0, .int .u8 0, .int .u8 0, .int .u8 0, .int .u8 0, .int .u8 0, .int .u8 0, .int .u8 0] 69) := ⟨_, rfl⟩
  have bV : Below w.heap.size w V := by rw [hV]; exact ((below_self w).alloc (Nat.le_refl _) _).alloc (by simp) _
  have zV : V.heap.size = w.heap.size + 2 := by rw [hV]; simp
  have QP : Hid (V.heap[w.heap.size]? = some (.cells (dgA P) 67 (0, 0))) := by rw [hV]; exact Lib.hid (rw_old _ (rw_at _ rfl))
  have Q : Hid (RcAt V (w.heap.size + 1) rcZ none 0 0) := by rw [hV]; exact Lib.hid (zeroAt (by simp))
  have HV := Lib.hid hV
  have hG := recGet_any A n c xs V (hr.below bV)
  obtain ⟨hok9, hb9⟩ := rcGet_okk xs
  obtain ⟨E, hE⟩ : ∃ E, rcGetE xs = E := ⟨_, rfl⟩
  obtain ⟨R, hR⟩ : ∃ R, rcGet xs = R := ⟨_, rfl⟩
  rw [hE, hR] at hG
  rw [hR] at hok9
  have hE1 : E = 0 := by rw [← hE]; exact hE0
  subst hE1
  have m0 : R.g = g := by rw [← hR]; exact hg
  subst m0
  have m1 : R.s = s := by rw [← hR]; exact hs
  subst m1
  obtain ⟨t1, t2, t3, t4, t5, t6, t7⟩ := rcGet_ok xs hE0
  have hn256 : n = 256 := by rw [← hL]; exact t2
  subst hn256
  have htk : xs.take 220 = rcBody R := by rw [← hR]; exact rcGet_take xs hE0
  obtain ⟨LK, hLK⟩ : ∃ d, d = shLink P (rcBody R) := ⟨_, rfl⟩
  have hLKl : LK.length = 32 := by rw [hLK]; exact shLink_len _ _
  have hq : decide (R.D = LK) = true := by rw [hLK, ← hR]; exact decide_eq_true hch
  have KQ := Lib.hid (fun W => hq ▸ rdig_eq R.D LK hok9.2.2.2.2.2.2 hLKl W)
  have HTK := Lib.hid htk
  have HLK := Lib.hid hLK
  have ci : (220 : Int) ≤ (c : Int) := by omega
  clear t1 t2 t3 t4 t5 t6 t7 hch htk hLK hLKl hq hL
  have HG := Lib.hid hG
  have HE := Lib.hid hE
  have HR := Lib.hid hR
  have HRD := Lib.hid hok9.2.2.2.2.2.2
  have HP := Lib.hid hP
  have ZV := Lib.hid zV
  have HB9 := Lib.hid hb9
  clear hV hG hE hR hP zV hb9
  go_enter Try.func38, Try.ntmps38
  go_wp2_with fail
  rw [← HV.out]
  refine HG.out.mono ?_
  rintro e w3 ⟨A4, n4, c4, rfl, hRb, hRf, hb3⟩
  have Q3 := Lib.hid (Q.out.up hb3)
  obtain ⟨Z3, hZ3⟩ : ∃ W, W = w3.alloc (.cells #[.int .u32 0, .int .u32 0, .int .u32 0, .int .u64 0, .int .i64 0, .int .u64 0, .slice none 0 0, .int .u8 0, .int .u8 0, .int .u8 0, .int .u8 0, .int .u8 0, .int .u8 0, .int .u8 0, .int .u8 0, .int .u8 0, .int .u8 0, .int .u8 0, .int .u8 0, .int .u8 0, .int .u8 0, .int .u8 0, .int .u8 0, .int .u8 0, .int .u8 0, .int .u8 0, .int .u8 0, .int .u8 0, .int .u8 0, .int .u8 0, .int .u8 0, .int .u8 0, .int .u8 0, .int .u8 0, .int .u8 0, .int .u8 0, .int .u8 0, .int .u8 0, .int .u8 0] 69) := ⟨_, rfl⟩
  have QZ : Hid (RcAt Z3 w3.heap.size rcZ none 0 0) := by rw [hZ3]; exact Lib.hid (zeroAt rfl)
  have bZ : Below w3.heap.size w3 Z3 := by rw [hZ3]; exact (below_self _).alloc (Nat.le_refl _) _
  obtain ⟨X, hX⟩ : ∃ W, W = Z3.setRow w3.heap.size (rcV R A4 n4 c4).toArray := ⟨_, rfl⟩
  have bX : Below w3.heap.size w3 X := by rw [hX]; exact below_setRow bZ (Nat.le_refl _) _
  have QX : Hid (RcAt X w3.heap.size R A4 n4 c4) := by rw [hX]; exact Lib.hid QZ.out.setRow
  have QR : Hid (RcAt X (w.heap.size + 1) rcZ none 0 0) := Lib.hid (Q3.out.up bX)
  have QP := Lib.hid (rw_up QP.out (below_then hb3 bX))
  have B := below_then (below_then bV hb3) bX
  have hrX := hr.below B
  have hRbX := hRb.below bX
  have z3 := hb3.size
  have k0 := RcAt.c0 QX.out
  have k1 := RcAt.c1 QX.out
  rw [hX] at k0 k1
  have HX3 := Lib.hid hX
  have HZ3 := Lib.hid hZ3
  clear hX hZ3
  clear hE0 hg hs
  rw [HX3.out.symm] at k0 k1
  have k0' := k0
  have k1' := k1
  rw [HX3.out] at k0 k1
  go_wp2_with (rw [← HZ3.out]; refine rc_store rfl _ _ rfl rfl rfl QZ.out HRD.out rcZD ?_)
  try rw [← HX3.out]
  have lP := rw_lt QP.out
  refine wp_region_seg (S := fun w' => Below X.heap.size X w') 0 #[true, true, true, true, true, true, true, true] [(0, true), (1, true), (2, true), (3, true), (4, true), (5, false), (6, true), (7, true)] (by kernel_rfl) (by kernel_rfl) (fun _ _ d _ _ h => by first | (cases d <;> exact h) | cases h.1) ((Below.refl X.heap.size X).drew) ?_
  have HB := (Below.refl X.heap.size X).drew
  iterate 1 (refine seg_take (v := ?_) rfl (Or.inl ⟨by rfl, ?_⟩) ?_; rotate_left; (focus (intro w' hw'; go_simp <;> with_reducible rfl)); try simp only [Act.put, List.setIfInBounds_toArray, List.set_cons_zero, List.set_cons_succ])
  refine seg_take (v := .agg (dgA R.D)) rfl (Or.inl ⟨by rfl, fun w' hw' => ?_⟩) ?_
  focus (exact rex_load rfl rfl (mid_dig (QX.out.up hw') HRD.out))
  try simp only [Act.put, List.setIfInBounds_toArray, List.set_cons_zero, List.set_cons_succ]
  refine seg_take (v := .agg (dgA P)) rfl (Or.inl ⟨by rfl, fun w' hw' => ?_⟩) ?_
  focus (exact rex_load rfl rfl (run_loadVar_row w' w.heap.size _ 67 _ _ _ (rw_up QP.out hw') Try.underlying67 rfl (infoD P HP.out)))
  try simp only [Act.put, List.setIfInBounds_toArray, List.set_cons_zero, List.set_cons_succ]
  iterate 2 (refine seg_take (v := ?_) rfl (Or.inl ⟨by rfl, ?_⟩) ?_; rotate_left; (focus (intro w' hw'; go_simp <;> with_reducible rfl)); try simp only [Act.put, List.setIfInBounds_toArray, List.set_cons_zero, List.set_cons_succ])
  refine seg_run rfl (fun K hK => ?_)
  go_simp
  refine (shaLink_any P HP.out _ 220 _ (xs.take 220) _ ((hrX.below HB).take 220 (by omega)) (by omega)).mono ?_
  rintro e_ w7 ⟨rfl, hb7⟩
  rw [HTK.out, ← HLK.out]
  have HB := below_then HB hb7
  refine hK.out _ _ (HB) ?_
  clear hK
  try simp only [Act.put, List.setIfInBounds_toArray, List.set_cons_zero, List.set_cons_succ]
  refine seg_take (v := .bool false) rfl (Or.inl ⟨by rfl, fun w' hw' => ?_⟩) ?_
  focus ((have jj := KQ.out w'; go_simp))
  try simp only [Act.put, List.setIfInBounds_toArray, List.set_cons_zero, List.set_cons_succ]
  iterate 1 (refine seg_take (v := ?_) rfl (Or.inl ⟨by rfl, ?_⟩) ?_; rotate_left; (focus (intro w' hw'; go_simp <;> with_reducible rfl)); try simp only [Act.put, List.setIfInBounds_toArray, List.set_cons_zero, List.set_cons_succ])
  refine seg_done (fun _ => ?_)
  refine wpAnyH_done (by kernel_rfl) ?_ _
  have QX7 := Lib.hid (QX.out.up HB)
  have QR7 := Lib.hid (QR.out.up HB)
  have B7 := below_then B HB
  go_wp2_with (first | (refine rc_load rfl _ rfl rfl QX7.out HRD.out ?_) | (refine rc_store rfl _ _ rfl rfl rfl QR7.out HRD.out rcZD ?_))
  rw [HR.out]
  refine bodyPost_ret (rresults_row_tmp Try.results38 _ _ (w.heap.size + 1) 69 _ (0, 0) _ rfl (RcAt.setRow (r' := R) (A' := A4) (n' := n4) (c' := c4) QR7.out) Try.underlying69 rfl (rcInfo R A4 n4 c4 HRD.out)) rfl ?_
  exact ⟨A4, n4, c4, rfl, rd_row (hRbX.below HB) (w.heap.size + 1) _ (fun h0 a e => by have := hRf h0 a e; have := ZV.out; omega), fun h0 a e => by have := hRf h0 a e; have := ZV.out; omega, below_setRow (B7) (by omega) _⟩
theorem recFollow_any (P : List UInt8) (hP : P.length = 32) (g s : Nat) (A : Option Addr) (n c : Nat) (xs : List UInt8) (w : World) (hr : RdB w A n c xs) :
    Calls Try.prog 38 #[.agg (dgA P), .int .u32 (g : Int), .int .u32 (s : Int), .slice A n c] w (RetRc w (rcFol P g s xs) (rcFolE P g s xs)) := by
  by_cases hE : rcGetE xs = 0
  · by_cases hg : (rcGet xs).g = g
    · by_cases hs : (rcGet xs).s = s
      · by_cases hch : (rcGet xs).D = shLink P (rcBody (rcGet xs))
        · have e : rcFolE P g s xs = 0 := by unfold rcFolE; rw [if_pos hE, if_neg (fun h => h hg), if_neg (fun h => h hs), if_neg (fun h => h hch)]
          have e2 : rcFol P g s xs = rcGet xs := by unfold rcFol; rw [if_pos e]
          rw [e, e2]; exact recFollow_yes P hP g s A n c xs w hr hE hg hs hch
        · have e : rcFolE P g s xs = 122 := by unfold rcFolE; rw [if_pos hE, if_neg (fun h => h hg), if_neg (fun h => h hs), if_pos hch]
          have e2 : rcFol P g s xs = rcZ := by unfold rcFol; rw [if_neg (by rw [e]; decide)]
          rw [e, e2]; exact recFollow_chain P hP g s A n c xs w hr hE hg hs hch
      · have e : rcFolE P g s xs = 121 := by unfold rcFolE; rw [if_pos hE, if_neg (fun h => h hg), if_pos hs]
        have e2 : rcFol P g s xs = rcZ := by unfold rcFol; rw [if_neg (by rw [e]; decide)]
        rw [e, e2]; exact recFollow_seq P hP g s A n c xs w hr hE hg hs
    · have e : rcFolE P g s xs = 120 := by unfold rcFolE; rw [if_pos hE, if_pos hg]
      have e2 : rcFol P g s xs = rcZ := by unfold rcFol; rw [if_neg (by rw [e]; decide)]
      rw [e, e2]; exact recFollow_gen P hP g s A n c xs w hr hE hg
  · have e : rcFolE P g s xs = rcGetE xs := by unfold rcFolE; rw [if_neg hE]
    have e2 : rcFol P g s xs = rcZ := by unfold rcFol; rw [if_neg (by rw [e]; exact hE)]
    rw [e, e2]; exact recFollow_err P hP g s A n c xs w hr hE
end Go.Proofs.Ytnfepikgbdeomaa
