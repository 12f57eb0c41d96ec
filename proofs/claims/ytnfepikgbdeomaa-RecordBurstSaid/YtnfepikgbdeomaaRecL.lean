/-
  Layer 12: records: the law RecordBurst.
-/
import Derived.Test.YtnfepikgbdeomaaRecK
import Derived.Test.YtnfepikgbdeomaaCrcE
namespace Go.Proofs.Ytnfepikgbdeomaa
set_option maxRecDepth 20000
open Go.RowKit
set_option linter.unusedVariables false
set_option linter.unusedSimpArgs false
set_option maxHeartbeats 8000000

theorem fol_err {P : List UInt8} {g s : Nat} {xs : List UInt8} (h : rcGetE xs ≠ 0) : rcFolE P g s xs = rcGetE xs ∧ rcFol P g s xs = rcZ := by
  have e : rcFolE P g s xs = rcGetE xs := by unfold rcFolE; rw [if_neg h]
  exact ⟨e, by unfold rcFol; rw [if_neg (by rw [e]; exact h)]⟩
theorem get_sum {xs : List UInt8} (hl : xs.length = 256) (h : crcHolds xs = false) : rcGetE xs = 6 ∧ rcGet xs = rcZ := by
  have e : rcGetE xs = 6 := by unfold rcGetE; rw [if_neg (by simp [hl]), if_pos h]
  exact ⟨e, by unfold rcGet; rw [if_neg (by rw [e]; decide)]⟩
theorem recBurst_long (t : Nat) (k : Int) (cl : Nat) (A : Option Addr) (n c : Nat) (b : List UInt8) (g s : Nat) (at_ : Int) (b_ : Nat) (w : World) (ht : t < 18446744073709551616) (hk : -9223372036854775808 ≤ k ∧ k ≤ 9223372036854775807) (hcl : cl < 18446744073709551616) (hr : RdB w A n c b) (hg : g < 4294967296) (hs : s < 4294967296) (hat : -9223372036854775808 ≤ at_ ∧ at_ ≤ 9223372036854775807) (hbits : b_ < 4294967296) (h4 : 400 < n) :
    Calls Try.prog 9 #[.agg #[.int .u64 (t : Int), .int .i64 k, .int .u64 (cl : Int), .slice A n c], .int .u32 (g : Int), .int .u32 (s : Int), .int .i64 at_, .int .u32 (b_ : Int)] w (RetV w (.bool true)) := by
  have hn63 := hr.n63
  have hL := hr.2.1
  obtain ⟨D0, hD0⟩ : ∃ d, d = List.replicate 32 (0 : UInt8) := ⟨_, rfl⟩
  have hD0l : D0.length = 32 := by rw [hD0]; rfl
  have g0 : dgA D0 = #[.int .u8 0, .int .u8 0, .int .u8 0, .int .u8 0, .int .u8 0, .int .u8 0, .int .u8 0, .int .u8 0, .int .u8 0, .int .u8 0, .int .u8 0, .int .u8 0, .int .u8 0, .int .u8 0, .int .u8 0, .int .u8 0, .int .u8 0, .int .u8 0, .int .u8 0, .int .u8 0, .int .u8 0, .int .u8 0, .int .u8 0, .int .u8 0, .int .u8 0, .int .u8 0, .int .u8 0, .int .u8 0, .int .u8 0, .int .u8 0, .int .u8 0, .int .u8 0] := by rw [hD0]; exact dgA0
  obtain ⟨r0, hr0⟩ : ∃ r, r = (⟨g, s, 0, t, k, cl, b, List.replicate 32 0⟩ : Rc) := ⟨_, rfl⟩
  have hok0 : r0.ok := by rw [hr0]; exact ⟨hg, hs, (by show (0 : Nat) < 4294967296; decide), ht, hk, hcl, by simp⟩
  have hck : r0.chk = rcChk k cl b.length := by rw [hr0]; rfl
  obtain ⟨R, hR⟩ : ∃ R, R = rcMkR D0 r0 := ⟨_, rfl⟩
  obtain ⟨E, hE⟩ : ∃ E, E = rcMkE r0 := ⟨_, rfl⟩
  have hRD : R.D.length = 32 := by
    rw [hR]; unfold rcMkR; split
    · exact shLink_len _ _
    · exact rcZD
  obtain ⟨W0, hW0⟩ : ∃ W, W = w.alloc (.cells #[.int .u64 (t : Int), .int .i64 k, .int .u64 (cl : Int), .slice A n c] 65) := ⟨_, rfl⟩
  have b0 : Below w.heap.size w W0 := by rw [hW0]; exact (below_self w).alloc (Nat.le_refl _) _
  have qe : Hid (W0.heap[w.heap.size]? = some (.cells #[.int .u64 (t : Int), .int .i64 k, .int .u64 (cl : Int), .slice A n c] 65 (0, 0))) := by rw [hW0]; exact Lib.hid (rw_at _ rfl)
  have H1 := Lib.hid (recMake_any D0 hD0l g s 0 t k cl A n c b W0 hg hs (by omega) ht hk hcl (hr.below b0))
  rw [← hr0, g0, ← hR, ← hE] at H1
  have HRD := Lib.hid hRD
  have HW0 := Lib.hid hW0
  have d4 : decide ((400 : Int) < (n : Int)) = true := decide_eq_true (by omega)
  clear hr0 hD0 hD0l g0 hok0 hck hR hE hRD hW0
  go_enter Try.func9, Try.ntmps9
  go_wp2_with fail
  rw [← HW0.out]
  refine H1.out.mono ?_
  rintro e w2 ⟨A2, n2, c2, rfl, r2, _, hb2⟩
  have qe2 := Lib.hid (rw_up qe.out hb2)
  have z0 : w.heap.size < W0.heap.size := rw_lt qe.out
  go_wp2_with (refine rc_fresh rfl _ _ rfl rfl rfl w2 rfl rfl HRD.out ?_; intro X2 q2 x2; have y3 := (cell_of_row X2 w.heap.size 3 _ _ _ (rw_up qe2.out x2)).trans (show (#[.int .u64 (t : Int), .int .i64 k, .int .u64 (cl : Int), .slice A n c] : Array Value)[3]? = some (.slice A n c) from rfl))
  refine (heads12 _).mono ?_
  rintro e w9 ⟨rfl, hb9⟩
  go_wp2
  go_ret
  exact ⟨rfl, below_then (below_then (below_then b0 hb2) x2) hb9⟩
theorem recBurst_no (t : Nat) (k : Int) (cl : Nat) (A : Option Addr) (n c : Nat) (b : List UInt8) (g s : Nat) (at_ : Int) (b_ : Nat) (w : World) (ht : t < 18446744073709551616) (hk : -9223372036854775808 ≤ k ∧ k ≤ 9223372036854775807) (hcl : cl < 18446744073709551616) (hr : RdB w A n c b) (hg : g < 4294967296) (hs : s < 4294967296) (hat : -9223372036854775808 ≤ at_ ∧ at_ ≤ 9223372036854775807) (hbits : b_ < 4294967296) (h4 : n ≤ 400) (hc : rcChk k cl b.length = false) :
    Calls Try.prog 9 #[.agg #[.int .u64 (t : Int), .int .i64 k, .int .u64 (cl : Int), .slice A n c], .int .u32 (g : Int), .int .u32 (s : Int), .int .i64 at_, .int .u32 (b_ : Int)] w (RetV w (.bool true)) := by
  have hn63 := hr.n63
  have hL := hr.2.1
  obtain ⟨D0, hD0⟩ : ∃ d, d = List.replicate 32 (0 : UInt8) := ⟨_, rfl⟩
  have hD0l : D0.length = 32 := by rw [hD0]; rfl
  have g0 : dgA D0 = #[.int .u8 0, .int .u8 0, .int .u8 0, .int .u8 0, .int .u8 0, .int .u8 0, .int .u8 0, .int .u8 0, .int .u8 0, .int .u8 0, .int .u8 0, .int .u8 0, .int .u8 0, .int .u8 0, .int .u8 0, .int .u8 0, .int .u8 0, .int .u8 0, .int .u8 0, .int .u8 0, .int .u8 0, .int .u8 0, .int .u8 0, .int .u8 0, .int .u8 0, .int .u8 0, .int .u8 0, .int .u8 0, .int .u8 0, .int .u8 0, .int .u8 0, .int .u8 0] := by rw [hD0]; exact dgA0
  obtain ⟨r0, hr0⟩ : ∃ r, r = (⟨g, s, 0, t, k, cl, b, List.replicate 32 0⟩ : Rc) := ⟨_, rfl⟩
  have hok0 : r0.ok := by rw [hr0]; exact ⟨hg, hs, (by show (0 : Nat) < 4294967296; decide), ht, hk, hcl, by simp⟩
  have hck : r0.chk = rcChk k cl b.length := by rw [hr0]; rfl
  obtain ⟨R, hR⟩ : ∃ R, R = rcMkR D0 r0 := ⟨_, rfl⟩
  obtain ⟨E, hE⟩ : ∃ E, E = rcMkE r0 := ⟨_, rfl⟩
  have hRD : R.D.length = 32 := by
    rw [hR]; unfold rcMkR; split
    · exact shLink_len _ _
    · exact rcZD
  obtain ⟨W0, hW0⟩ : ∃ W, W = w.alloc (.cells #[.int .u64 (t : Int), .int .i64 k, .int .u64 (cl : Int), .slice A n c] 65) := ⟨_, rfl⟩
  have b0 : Below w.heap.size w W0 := by rw [hW0]; exact (below_self w).alloc (Nat.le_refl _) _
  have qe : Hid (W0.heap[w.heap.size]? = some (.cells #[.int .u64 (t : Int), .int .i64 k, .int .u64 (cl : Int), .slice A n c] 65 (0, 0))) := by rw [hW0]; exact Lib.hid (rw_at _ rfl)
  have H1 := Lib.hid (recMake_any D0 hD0l g s 0 t k cl A n c b W0 hg hs (by omega) ht hk hcl (hr.below b0))
  rw [← hr0, g0, ← hR, ← hE] at H1
  have HRD := Lib.hid hRD
  have HW0 := Lib.hid hW0
  have d4 : decide ((400 : Int) < (n : Int)) = false := decide_eq_false (by omega)
  have e2 : E = 2 := by rw [hE]; unfold rcMkE; rw [hck, hc]; rfl
  subst e2
  clear hr0 hD0 hD0l g0 hok0 hck hR hE hRD hW0
  go_enter Try.func9, Try.ntmps9
  go_wp2_with fail
  rw [← HW0.out]
  refine H1.out.mono ?_
  rintro e w2 ⟨A2, n2, c2, rfl, r2, _, hb2⟩
  have qe2 := Lib.hid (rw_up qe.out hb2)
  have z0 : w.heap.size < W0.heap.size := rw_lt qe.out
  go_wp2_with (refine rc_fresh rfl _ _ rfl rfl rfl w2 rfl rfl HRD.out ?_; intro X2 q2 x2; have y3 := (cell_of_row X2 w.heap.size 3 _ _ _ (rw_up qe2.out x2)).trans (show (#[.int .u64 (t : Int), .int .i64 k, .int .u64 (cl : Int), .slice A n c] : Array Value)[3]? = some (.slice A n c) from rfl))
  refine (heads12 _).mono ?_
  rintro e w9 ⟨rfl, hb9⟩
  go_wp2
  go_ret
  exact ⟨rfl, below_then (below_then (below_then b0 hb2) x2) hb9⟩
theorem recBurst_neg (t : Nat) (k : Int) (cl : Nat) (A : Option Addr) (n c : Nat) (b : List UInt8) (g s : Nat) (at_ : Int) (b_ : Nat) (w : World) (ht : t < 18446744073709551616) (hk : -9223372036854775808 ≤ k ∧ k ≤ 9223372036854775807) (hcl : cl < 18446744073709551616) (hr : RdB w A n c b) (hg : g < 4294967296) (hs : s < 4294967296) (hat : -9223372036854775808 ≤ at_ ∧ at_ ≤ 9223372036854775807) (hbits : b_ < 4294967296) (h4 : n ≤ 400) (hc : rcChk k cl b.length = true) (h5 : at_ < 0) :
    Calls Try.prog 9 #[.agg #[.int .u64 (t : Int), .int .i64 k, .int .u64 (cl : Int), .slice A n c], .int .u32 (g : Int), .int .u32 (s : Int), .int .i64 at_, .int .u32 (b_ : Int)] w (RetV w (.bool true)) := by
  have hn63 := hr.n63
  have hL := hr.2.1
  obtain ⟨D0, hD0⟩ : ∃ d, d = List.replicate 32 (0 : UInt8) := ⟨_, rfl⟩
  have hD0l : D0.length = 32 := by rw [hD0]; rfl
  have g0 : dgA D0 = #[.int .u8 0, .int .u8 0, .int .u8 0, .int .u8 0, .int .u8 0, .int .u8 0, .int .u8 0, .int .u8 0, .int .u8 0, .int .u8 0, .int .u8 0, .int .u8 0, .int .u8 0, .int .u8 0, .int .u8 0, .int .u8 0, .int .u8 0, .int .u8 0, .int .u8 0, .int .u8 0, .int .u8 0, .int .u8 0, .int .u8 0, .int .u8 0, .int .u8 0, .int .u8 0, .int .u8 0, .int .u8 0, .int .u8 0, .int .u8 0, .int .u8 0, .int .u8 0] := by rw [hD0]; exact dgA0
  obtain ⟨r0, hr0⟩ : ∃ r, r = (⟨g, s, 0, t, k, cl, b, List.replicate 32 0⟩ : Rc) := ⟨_, rfl⟩
  have hok0 : r0.ok := by rw [hr0]; exact ⟨hg, hs, (by show (0 : Nat) < 4294967296; decide), ht, hk, hcl, by simp⟩
  have hck : r0.chk = rcChk k cl b.length := by rw [hr0]; rfl
  obtain ⟨R, hR⟩ : ∃ R, R = rcMkR D0 r0 := ⟨_, rfl⟩
  obtain ⟨E, hE⟩ : ∃ E, E = rcMkE r0 := ⟨_, rfl⟩
  have hRD : R.D.length = 32 := by
    rw [hR]; unfold rcMkR; split
    · exact shLink_len _ _
    · exact rcZD
  obtain ⟨W0, hW0⟩ : ∃ W, W = w.alloc (.cells #[.int .u64 (t : Int), .int .i64 k, .int .u64 (cl : Int), .slice A n c] 65) := ⟨_, rfl⟩
  have b0 : Below w.heap.size w W0 := by rw [hW0]; exact (below_self w).alloc (Nat.le_refl _) _
  have qe : Hid (W0.heap[w.heap.size]? = some (.cells #[.int .u64 (t : Int), .int .i64 k, .int .u64 (cl : Int), .slice A n c] 65 (0, 0))) := by rw [hW0]; exact Lib.hid (rw_at _ rfl)
  have H1 := Lib.hid (recMake_any D0 hD0l g s 0 t k cl A n c b W0 hg hs (by omega) ht hk hcl (hr.below b0))
  rw [← hr0, g0, ← hR, ← hE] at H1
  have HRD := Lib.hid hRD
  have HW0 := Lib.hid hW0
  have d4 : decide ((400 : Int) < (n : Int)) = false := decide_eq_false (by omega)
  have e2 : E = 0 := by rw [hE]; unfold rcMkE; rw [hck, hc]; rfl
  subst e2
  have d5 : decide (at_ < 0) = true := decide_eq_true h5
  clear hr0 hD0 hD0l g0 hok0 hck hR hE hRD hW0
  go_enter Try.func9, Try.ntmps9
  go_wp2_with fail
  rw [← HW0.out]
  refine H1.out.mono ?_
  rintro e w2 ⟨A2, n2, c2, rfl, r2, _, hb2⟩
  have qe2 := Lib.hid (rw_up qe.out hb2)
  have z0 : w.heap.size < W0.heap.size := rw_lt qe.out
  go_wp2_with (refine rc_fresh rfl _ _ rfl rfl rfl w2 rfl rfl HRD.out ?_; intro X2 q2 x2; have y3 := (cell_of_row X2 w.heap.size 3 _ _ _ (rw_up qe2.out x2)).trans (show (#[.int .u64 (t : Int), .int .i64 k, .int .u64 (cl : Int), .slice A n c] : Array Value)[3]? = some (.slice A n c) from rfl))
  refine (heads12 _).mono ?_
  rintro e w9 ⟨rfl, hb9⟩
  go_wp2
  go_ret
  exact ⟨rfl, below_then (below_then (below_then b0 hb2) x2) hb9⟩
theorem recBurst_zero (t : Nat) (k : Int) (cl : Nat) (A : Option Addr) (n c : Nat) (b : List UInt8) (g s : Nat) (at_ : Int) (b_ : Nat) (w : World) (ht : t < 18446744073709551616) (hk : -9223372036854775808 ≤ k ∧ k ≤ 9223372036854775807) (hcl : cl < 18446744073709551616) (hr : RdB w A n c b) (hg : g < 4294967296) (hs : s < 4294967296) (hat : -9223372036854775808 ≤ at_ ∧ at_ ≤ 9223372036854775807) (hbits : b_ < 4294967296) (h4 : n ≤ 400) (hc : rcChk k cl b.length = true) (h5 : ¬ at_ < 0) (h6 : b_ = 0) :
    Calls Try.prog 9 #[.agg #[.int .u64 (t : Int), .int .i64 k, .int .u64 (cl : Int), .slice A n c], .int .u32 (g : Int), .int .u32 (s : Int), .int .i64 at_, .int .u32 (b_ : Int)] w (RetV w (.bool true)) := by
  have hn63 := hr.n63
  have hL := hr.2.1
  obtain ⟨D0, hD0⟩ : ∃ d, d = List.replicate 32 (0 : UInt8) := ⟨_, rfl⟩
  have hD0l : D0.length = 32 := by rw [hD0]; rfl
  have g0 : dgA D0 = #[.int .u8 0, .int .u8 0, .int .u8 0, .int .u8 0, .int .u8 0, .int .u8 0, .int .u8 0, .int .u8 0, .int .u8 0, .int .u8 0, .int .u8 0, .int .u8 0, .int .u8 0, .int .u8 0, .int .u8 0, .int .u8 0, .int .u8 0, .int .u8 0, .int .u8 0, .int .u8 0, .int .u8 0, .int .u8 0, .int .u8 0, .int .u8 0, .int .u8 0, .int .u8 0, .int .u8 0, .int .u8 0, .int .u8 0, .int .u8 0, .int .u8 0, .int .u8 0] := by rw [hD0]; exact dgA0
  obtain ⟨r0, hr0⟩ : ∃ r, r = (⟨g, s, 0, t, k, cl, b, List.replicate 32 0⟩ : Rc) := ⟨_, rfl⟩
  have hok0 : r0.ok := by rw [hr0]; exact ⟨hg, hs, (by show (0 : Nat) < 4294967296; decide), ht, hk, hcl, by simp⟩
  have hck : r0.chk = rcChk k cl b.length := by rw [hr0]; rfl
  obtain ⟨R, hR⟩ : ∃ R, R = rcMkR D0 r0 := ⟨_, rfl⟩
  obtain ⟨E, hE⟩ : ∃ E, E = rcMkE r0 := ⟨_, rfl⟩
  have hRD : R.D.length = 32 := by
    rw [hR]; unfold rcMkR; split
    · exact shLink_len _ _
    · exact rcZD
  obtain ⟨W0, hW0⟩ : ∃ W, W = w.alloc (.cells #[.int .u64 (t : Int), .int .i64 k, .int .u64 (cl : Int), .slice A n c] 65) := ⟨_, rfl⟩
  have b0 : Below w.heap.size w W0 := by rw [hW0]; exact (below_self w).alloc (Nat.le_refl _) _
  have qe : Hid (W0.heap[w.heap.size]? = some (.cells #[.int .u64 (t : Int), .int .i64 k, .int .u64 (cl : Int), .slice A n c] 65 (0, 0))) := by rw [hW0]; exact Lib.hid (rw_at _ rfl)
  have H1 := Lib.hid (recMake_any D0 hD0l g s 0 t k cl A n c b W0 hg hs (by omega) ht hk hcl (hr.below b0))
  rw [← hr0, g0, ← hR, ← hE] at H1
  have HRD := Lib.hid hRD
  have HW0 := Lib.hid hW0
  have d4 : decide ((400 : Int) < (n : Int)) = false := decide_eq_false (by omega)
  have e2 : E = 0 := by rw [hE]; unfold rcMkE; rw [hck, hc]; rfl
  subst e2
  have d5 : decide (at_ < 0) = false := decide_eq_false h5
  have d6 : ((b_ : Int) == 0) = true := by rw [h6]; rfl
  have d7 : (b_ : Int) = 0 := by omega
  clear h6
  clear hr0 hD0 hD0l g0 hok0 hck hR hE hRD hW0
  go_enter Try.func9, Try.ntmps9
  go_wp2_with fail
  rw [← HW0.out]
  refine H1.out.mono ?_
  rintro e w2 ⟨A2, n2, c2, rfl, r2, _, hb2⟩
  have qe2 := Lib.hid (rw_up qe.out hb2)
  have z0 : w.heap.size < W0.heap.size := rw_lt qe.out
  go_wp2_with (refine rc_fresh rfl _ _ rfl rfl rfl w2 rfl rfl HRD.out ?_; intro X2 q2 x2; have y3 := (cell_of_row X2 w.heap.size 3 _ _ _ (rw_up qe2.out x2)).trans (show (#[.int .u64 (t : Int), .int .i64 k, .int .u64 (cl : Int), .slice A n c] : Array Value)[3]? = some (.slice A n c) from rfl))
  refine (heads12 _).mono ?_
  rintro e w9 ⟨rfl, hb9⟩
  go_wp2
  go_ret
  exact ⟨rfl, below_then (below_then (below_then b0 hb2) x2) hb9⟩
theorem recBurst_main (t : Nat) (k : Int) (cl : Nat) (A : Option Addr) (n c : Nat) (b : List UInt8) (g s : Nat) (at_ : Int) (b_ : Nat) (w : World) (ht : t < 18446744073709551616) (hk : -9223372036854775808 ≤ k ∧ k ≤ 9223372036854775807) (hcl : cl < 18446744073709551616) (hr : RdB w A n c b) (hg : g < 4294967296) (hs : s < 4294967296) (hat : -9223372036854775808 ≤ at_ ∧ at_ ≤ 9223372036854775807) (hbits : b_ < 4294967296) (h4 : n ≤ 400) (hc : rcChk k cl b.length = true) (h5 : ¬ at_ < 0) (h6 : b_ ≠ 0) :
    Calls Try.prog 9 #[.agg #[.int .u64 (t : Int), .int .i64 k, .int .u64 (cl : Int), .slice A n c], .int .u32 (g : Int), .int .u32 (s : Int), .int .i64 at_, .int .u32 (b_ : Int)] w (RetV w (.bool true)) := by
  have hn63 := hr.n63
  have hL := hr.2.1
  obtain ⟨D0, hD0⟩ : ∃ d, d = List.replicate 32 (0 : UInt8) := ⟨_, rfl⟩
  have hD0l : D0.length = 32 := by rw [hD0]; rfl
  have g0 : dgA D0 = #[.int .u8 0, .int .u8 0, .int .u8 0, .int .u8 0, .int .u8 0, .int .u8 0, .int .u8 0, .int .u8 0, .int .u8 0, .int .u8 0, .int .u8 0, .int .u8 0, .int .u8 0, .int .u8 0, .int .u8 0, .int .u8 0, .int .u8 0, .int .u8 0, .int .u8 0, .int .u8 0, .int .u8 0, .int .u8 0, .int .u8 0, .int .u8 0, .int .u8 0, .int .u8 0, .int .u8 0, .int .u8 0, .int .u8 0, .int .u8 0, .int .u8 0, .int .u8 0] := by rw [hD0]; exact dgA0
  obtain ⟨r0, hr0⟩ : ∃ r, r = (⟨g, s, 0, t, k, cl, b, List.replicate 32 0⟩ : Rc) := ⟨_, rfl⟩
  have hok0 : r0.ok := by rw [hr0]; exact ⟨hg, hs, (by show (0 : Nat) < 4294967296; decide), ht, hk, hcl, by simp⟩
  have hck : r0.chk = rcChk k cl b.length := by rw [hr0]; rfl
  obtain ⟨R, hR⟩ : ∃ R, R = rcMkR D0 r0 := ⟨_, rfl⟩
  obtain ⟨E, hE⟩ : ∃ E, E = rcMkE r0 := ⟨_, rfl⟩
  have hRD : R.D.length = 32 := by
    rw [hR]; unfold rcMkR; split
    · exact shLink_len _ _
    · exact rcZD
  obtain ⟨W0, hW0⟩ : ∃ W, W = w.alloc (.cells #[.int .u64 (t : Int), .int .i64 k, .int .u64 (cl : Int), .slice A n c] 65) := ⟨_, rfl⟩
  have b0 : Below w.heap.size w W0 := by rw [hW0]; exact (below_self w).alloc (Nat.le_refl _) _
  have qe : Hid (W0.heap[w.heap.size]? = some (.cells #[.int .u64 (t : Int), .int .i64 k, .int .u64 (cl : Int), .slice A n c] 65 (0, 0))) := by rw [hW0]; exact Lib.hid (rw_at _ rfl)
  have H1 := Lib.hid (recMake_any D0 hD0l g s 0 t k cl A n c b W0 hg hs (by omega) ht hk hcl (hr.below b0))
  rw [← hr0, g0, ← hR, ← hE] at H1
  have HRD := Lib.hid hRD
  have HW0 := Lib.hid hW0
  have d4 : decide ((400 : Int) < (n : Int)) = false := decide_eq_false (by omega)
  have e2 : E = 0 := by rw [hE]; unfold rcMkE; rw [hck, hc]; rfl
  subst e2
  have d5 : decide (at_ < 0) = false := decide_eq_false h5
  have d6 : ((b_ : Int) == 0) = false := beq_eq_false_iff_ne.2 (by omega)
  have d7 : ¬ ((b_ : Int) = 0) := by omega
  obtain ⟨at_, rfl⟩ : ∃ k : Nat, at_ = k := ⟨at_.toNat, by omega⟩
  have hR2 : R = rcMk D0 r0 := by rw [hR]; unfold rcMkR; rw [if_pos (by rw [hck]; exact hc)]
  have hRok : R.ok := by rw [hR2]; exact rcMk_ok _ _ hok0
  have hRc : R.chk = true := by rw [hR2]; show r0.chk = true; rw [hck]; exact hc
  have hRl : R.b.length ≤ 180 := (rcChk_len hRc).1
  obtain ⟨XB, hXB⟩ : ∃ X, X = rcBody R ++ R.D := ⟨_, rfl⟩
  have hXl : XB.length = 252 := by rw [hXB, List.length_append, rcBody_len R (by omega), hRD]
  obtain ⟨Y, hY⟩ : ∃ Y, Y = rcPutL R := ⟨_, rfl⟩
  have hYc : Y = crcClosed XB := by rw [hY]; unfold rcPutL rcL; rw [if_pos hRc, hXB]
  have hYl : Y.length = 256 := by rw [hYc]; simp [crcClosed, hXl, le4_length]
  have hPE : rcPutE R = 0 := by unfold rcPutE; rw [if_pos hRc]
  have H2 := Lib.hid (fun A n c W (h : RdB W A n c R.b) => recPut_any R A n c W hRok h)
  rw [← hY, hPE] at H2
  have H3 := Lib.hid (fun A c ts W (h : RdB W A 256 c ts) (hh : crcHolds ts = false) => show Calls Try.prog 47 #[.slice A 256 c] W (RetRc W rcZ 6) from by
    have := recGet_any A 256 c ts W h
    rwa [(get_sum h.2.1 hh).1, (get_sum h.2.1 hh).2] at this)
  have H4 := Lib.hid (fun A c ts W (h : RdB W A 256 c ts) (hh : crcHolds ts = false) => show Calls Try.prog 38 #[.agg (dgA D0), .int .u32 (g : Int), .int .u32 (s : Int), .slice A 256 c] W (RetRc W rcZ 6) from by
    have := recFollow_any D0 hD0l g s A 256 c ts W h
    have e0 : rcGetE ts ≠ 0 := by rw [(get_sum h.2.1 hh).1]; decide
    rwa [(fol_err e0).1, (fol_err e0).2, (get_sum h.2.1 hh).1] at this)
  rw [g0] at H4
  obtain ⟨rcZ', hZ'⟩ : ∃ z, z = rcZ := ⟨_, rfl⟩
  have HZD : Hid (rcZ'.D.length = 32) := by rw [hZ']; exact Lib.hid rcZD
  rw [← hZ'] at H3 H4
  obtain ⟨F, hF⟩ : ∃ F : Nat, F = at_ % 2017 := ⟨_, rfl⟩
  have hF1 : F ≤ 2016 := by omega
  have hkm : ((at_ : Int) % 2017) = (F : Int) := by rw [hF]; rfl
  have HYC := Lib.hid hYc
  have HYL := Lib.hid hYl
  have HXL := Lib.hid hXl
  have HF := Lib.hid hF
  clear hr0 hD0 hD0l g0 hok0 hck hR hE hRD hW0 hR2 hRok hRc hRl hXB hXl hY hYc hYl hPE hZ' hF h5 h6
  go_enter Try.func9, Try.ntmps9
  go_wp2_with fail
  rw [← HW0.out]
  refine H1.out.mono ?_
  rintro e w2 ⟨A2, n2, c2, rfl, r2, _, hb2⟩
  have qe2 := Lib.hid (rw_up qe.out hb2)
  have z0 : w.heap.size < W0.heap.size := rw_lt qe.out
  go_wp2_with (first
    | (refine rc_fresh rfl _ _ rfl rfl rfl w2 rfl rfl HRD.out ?_; intro X2 q2 x2; have y3 := (cell_of_row X2 w.heap.size 3 _ _ _ (rw_up qe2.out x2)).trans (show (#[.int .u64 (t : Int), .int .i64 k, .int .u64 (cl : Int), .slice A n c] : Array Value)[3]? = some (.slice A n c) from rfl))
    | (refine rc_load rfl _ rfl rfl q2.out HRD.out ?_))
  have B2 := below_then (below_then b0 hb2) x2
  refine (H2.out _ _ _ X2 (r2.below x2)).mono ?_
  rintro e w3 ⟨A3, n3, c3, rfl, ho3, hb3⟩
  have hn3 : n3 = 256 := by rw [← ho3.len, HYL.out]
  subst hn3
  have B3 := below_then B2 hb3
  have r3 := ho3.rd
  clear ho3 y3
  have hown := OwnB.mono (own0 w3) B3.size
  have BA := B3.alloc B3.size (.cells #[] 5)
  go_wp2_with (at_builtin; refine wp_appB rfl _ _ rfl BA (Nat.le_refl _) BA.size (some ⟨w3.heap.size, 0, none⟩) 0 0 [] rfl hown A3 256 c3 Y rfl (r3.alloc _) (by omega) 256 Y (by omega) (by simp) ?_; intro A5 c5 w5 ho5 hb5 hg5)
  obtain ⟨gg, rfl, hbg, hglt⟩ := ho5.addr (by omega)
  rw [hkm]
  go_loopw [4, 17] (BurstI w w.heap.size gg 256 c5 F b_ (lev Y)) (fun _ i _ => F + 32 - (intOf i).toNat)
  case atStart => exact ⟨0, _, Nat.zero_le _, by simp, by simp, ho5, by simp [Nat.mod_one], hb5⟩
  case round =>
    obtain ⟨j, ts, hj, rfl, rfl, ho, hv, hb⟩ := hrel
    by_cases hlt : j < 32
    · have k1 : ((F + j : Nat) : Int) < (F : Int) + 32 := by omega
      have hidx : (F + j) / 8 < 256 := by omega
      obtain ⟨u, hu, hcell⟩ := ho.cell_ _ hidx
      have hfree := ho.free ((F + j) / 8)
      have hp : b_ / 2 ^ j < 4294967296 := Nat.lt_of_le_of_lt (Nat.div_le_self _ _) hbits
      have h2 : b_ / 2 ^ (j + 1) = b_ / 2 ^ j / 2 := by rw [Nat.pow_succ, Nat.div_div_eq_div_mul]
      have HV := Lib.hid hv
      have HU := Lib.hid hu
      have H2 := Lib.hid h2
      clear hv hu h2
      generalize hR : b_ / 2 ^ j = R at *
      generalize hI : F + j = I at *
      have HR := Lib.hid hR
      have HI := Lib.hid hI
      clear hR hI
      by_cases hodd : R % 2 = 1
      · have e1 : ((R : Int) % 2 == 1) = true := by simp; omega
        have HO := Lib.hid hodd
        clear hodd
        go_wp2
        have ex : bits .xor .u8 (u.toNat : Int) (2 ^ (I % 8) % 256) = (((u ^^^ UInt8.ofNat (2 ^ (I % 8))).toNat : Nat) : Int) := by
          have e2 : ((2 : Int) ^ (I % 8) % 256) = ((2 ^ (I % 8) : Nat) : Int) := by
            rw [show ((2 : Int) ^ (I % 8) % 256) = ((2 ^ (I % 8) % 256 : Nat) : Int) by rw [Int.natCast_emod, Int.natCast_pow]; rfl, Nat.mod_eq_of_lt (pow_lt_256 I)]
          rw [e2, u8_xor_nat _ _ u.toNat_lt (pow_lt_256 I), UInt8.toNat_xor, UInt8.toNat_ofNat', Nat.mod_eq_of_lt (pow_lt_256 I)]
        rw [ex]
        refine ⟨⟨j + 1, _, by omega, by rw [← HI.out]; go_num, by rw [H2.out]; go_num, ho.set_ _ _, burst_odd ts u _ F b_ j I HI.out HU.out HV.out (by rw [HR.out]; exact HO.out), hb.setCell hbg _⟩, by simp [intOf]; omega⟩
      · have e1 : ((R : Int) % 2 == 1) = false := by simp; omega
        have hev : R % 2 = 0 := by omega
        have HO := Lib.hid hev
        clear hodd hev
        go_wp2
        refine ⟨⟨j + 1, ts, by omega, by rw [← HI.out]; go_num, by rw [H2.out]; go_num, ho, burst_even _ F b_ j _ HV.out (by rw [HR.out]; exact HO.out), hb⟩, by simp [intOf]; omega⟩
    · obtain rfl : j = 32 := by omega
      have hres : crcHolds ts = false := by
        rw [crc_burst XB ts b_ F hbits (by rw [ho.len, HXL.out]) (by rw [ho.len]; omega) (by rw [hv, HYC.out, Nat.mod_eq_of_lt (show b_ < 2 ^ 32 from hbits)])]
        exact decide_eq_false (by omega)
      have HRS := Lib.hid hres
      clear hv hres
      go_wp2_with fail
      refine (H3.out _ _ ts wr ho.rd HRS.out).mono ?_
      rintro e w6 ⟨A6, n6, c6, rfl, r6, _, hb6⟩
      go_wp2_with (refine rc_fresh rfl _ _ rfl rfl rfl w6 rfl rfl HZD.out ?_; intro X6 q6 x6)
      refine (H4.out _ _ ts X6 ((ho.rd.below hb6).below x6) HRS.out).mono ?_
      rintro e w7 ⟨A7, n7, c7, rfl, r7, _, hb7⟩
      go_wp2_with (refine rc_fresh rfl _ _ rfl rfl rfl w7 rfl rfl HZD.out ?_; intro X7 q7 x7)
      refine (heads12 _).mono ?_
      rintro e w8 ⟨rfl, hb8⟩
      go_wp2
      go_ret
      exact ⟨rfl, below_then (below_then (below_then (below_then (below_then hb hb6) x6) hb7) x7) hb8⟩
theorem recBurst_law (t : Nat) (k : Int) (cl : Nat) (A : Option Addr) (n c : Nat) (b : List UInt8) (g s : Nat) (at_ : Int) (b_ : Nat) (w : World) (ht : t < 18446744073709551616) (hk : -9223372036854775808 ≤ k ∧ k ≤ 9223372036854775807) (hcl : cl < 18446744073709551616) (hr : RdB w A n c b) (hg : g < 4294967296) (hs : s < 4294967296) (hat : -9223372036854775808 ≤ at_ ∧ at_ ≤ 9223372036854775807) (hbits : b_ < 4294967296) :
    Calls Try.prog 9 #[.agg #[.int .u64 (t : Int), .int .i64 k, .int .u64 (cl : Int), .slice A n c], .int .u32 (g : Int), .int .u32 (s : Int), .int .i64 at_, .int .u32 (b_ : Int)] w (RetV w (.bool true)) := by
  by_cases h4 : n ≤ 400
  · cases hc : rcChk k cl b.length with
    | false => exact recBurst_no t k cl A n c b g s at_ b_ w ht hk hcl hr hg hs hat hbits h4 hc
    | true =>
      by_cases h5 : at_ < 0
      · exact recBurst_neg t k cl A n c b g s at_ b_ w ht hk hcl hr hg hs hat hbits h4 hc h5
      · by_cases h6 : b_ = 0
        · exact recBurst_zero t k cl A n c b g s at_ b_ w ht hk hcl hr hg hs hat hbits h4 hc h5 h6
        · exact recBurst_main t k cl A n c b g s at_ b_ w ht hk hcl hr hg hs hat hbits h4 hc h5 h6
  · exact recBurst_long t k cl A n c b g s at_ b_ w ht hk hcl hr hg hs hat hbits (by omega)
end Go.Proofs.Ytnfepikgbdeomaa
