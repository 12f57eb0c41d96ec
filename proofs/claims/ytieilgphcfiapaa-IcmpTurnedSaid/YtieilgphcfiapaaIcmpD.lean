/-
  The law IcmpTurned.
-/
import Derived.Test.YtieilgphcfiapaaIcmpP
namespace Go.Proofs.Ytieilgphcfiapaa
set_option maxRecDepth 20000
open Go.RowKit
set_option linter.unusedVariables false
set_option linter.unusedSimpArgs false
set_option maxHeartbeats 8000000

theorem icmpTurned_early (A : Option Addr) (n c : Nat) (xs : List UInt8) (at_ : Int) (by_ : Nat) (w : World) (hr : RdB w A n c xs) (h : 500 < n ∨ at_ < 0 ∨ by_ = 0) :
    Calls Try.prog 12 #[.slice A n c, .int .i64 at_, .int .u8 by_] w (RetV w (.bool true)) := by
  have hn63 := hr.n63
  by_cases h1 : 500 < n
  · have d1 : decide ((500 : Int) < (n : Int)) = true := decide_eq_true (by omega)
    clear h
    go_enter Try.func12, Try.ntmps12
    go_wp2_with fail
    refine (heads22 _).mono ?_
    rintro e w9 ⟨rfl, hb9⟩
    go_wp2
    go_ret
    exact ⟨rfl, hb9⟩
  · have d1 : decide ((500 : Int) < (n : Int)) = false := decide_eq_false (by omega)
    by_cases h2 : at_ < 0
    · have d2 : decide (at_ < 0) = true := decide_eq_true h2
      clear h
      go_enter Try.func12, Try.ntmps12
      go_wp2_with fail
      refine (heads22 _).mono ?_
      rintro e w9 ⟨rfl, hb9⟩
      go_wp2
      go_ret
      exact ⟨rfl, hb9⟩
    · have d2 : decide (at_ < 0) = false := decide_eq_false h2
      obtain rfl : by_ = 0 := by omega
      clear h
      go_enter Try.func12, Try.ntmps12
      go_wp2_with fail
      refine (heads22 _).mono ?_
      rintro e w9 ⟨rfl, hb9⟩
      go_wp2
      go_ret
      exact ⟨rfl, hb9⟩

theorem icmpTurned_main (A : Option Addr) (n c : Nat) (xs : List UInt8) (at_ : Int) (by_ : Nat) (w : World) (hr : RdB w A n c xs) (h1 : n ≤ 500) (hat : 0 ≤ at_) (hb0 : by_ ≠ 0) (hby : by_ < 256) :
    Calls Try.prog 12 #[.slice A n c, .int .i64 at_, .int .u8 by_] w (RetV w (.bool true)) := by
  have hn63 := hr.n63
  have hl := hr.2.1
  have d1 : decide ((500 : Int) < (n : Int)) = false := decide_eq_false (by omega)
  have d2 : decide (at_ < 0) = false := decide_eq_false (by omega)
  have d3 : ((by_ : Int) == 0) = false := by rw [beq_eq_false_iff_ne]; omega
  obtain ⟨S, hS⟩ : ∃ S, numCheck (qz xs) = S := ⟨numCheck (qz xs), rfl⟩
  have hS2 : S < 65536 := by rw [← hS]; unfold numCheck; omega
  have HS := Lib.hid hS
  have HQ := Lib.hid (qry_set xs (UInt8.ofNat (S / 256)) (UInt8.ofNat S) (by rw [hS, beB_two]))
  obtain ⟨Q, hQ⟩ : ∃ Q, qry xs = Q := ⟨qry xs, rfl⟩
  have hQl : Q.length = 8 + n := by rw [← hQ, qry_len, hl]
  have HQ1 := Lib.hid hQ
  have wS := w64n (k := S) (by omega)
  clear hS hQ
  go_enter Try.func12, Try.ntmps12
  have rl := OwnB.lit w #[.int .u8 8, .int .u8 0, .int .u8 0, .int .u8 0, .int .u8 0, .int .u8 1, .int .u8 0, .int .u8 2] [8, 0, 0, 0, 0, 1, 0, 2] 8 (by rfl) rfl (by simp [maxLen])
  go_wp2_with (at_builtin; refine wp_appB rfl _ _ rfl ((below_self w).alloc (Nat.le_refl _) _) (Nat.le_refl _) (by simp) (some ⟨w.heap.size, 0, none⟩) 8 8 [8, 0, 0, 0, 0, 1, 0, 2] rfl rl A n c xs rfl (hr.alloc _) (by omega) (8 + n) (qz xs) rfl rfl ?_; intro A2 c2 w2 ho2 hb2 hg2)
  have hh := refNumCheck_any A2 (8 + n) c2 (qz xs) w2 ho2.rd (by omega)
  rw [HS.out] at hh
  refine hh.mono ?_
  clear hh
  rintro e w3 ⟨rfl, rfl⟩
  go_wp2_with fail
  refine (refBe_any S 2 w2 (by omega)).mono ?_
  rintro e w6 ⟨A6, n6, c6, rfl, ho6, hb6⟩
  rw [show clamp 2 = 2 from rfl] at ho6
  have hn6 : n6 = 2 := by rw [← ho6.len, beB_length]
  subst hn6
  obtain ⟨g6, rfl, hg61, hg62⟩ := ho6.addr (by omega)
  have o46 := ho2.below hb6
  obtain ⟨g4, rfl, hg41, hg42⟩ := ho2.addr (by omega)
  have s0 := ho6.rd.cellS 0 (by omega)
  have s1 := ho6.rd.cellS 1 (by omega)
  rw [beB_two] at s0 s1
  go_wp2_with fail
  have hne : g6 ≠ g4 := by omega
  have F4 := o46.free 2
  have F4b := o46.free 3
  have c40 := (o46.rd.cellS 2 (by omega))
  have c41 := (o46.rd.cellS 3 (by omega))
  rw [Nat.zero_add] at s0 s1 c40 c41
  have kn0 : (2 : Int) < 8 + (n : Int) := by omega
  have kn1 : (3 : Int) < 8 + (n : Int) := by omega
  refine wp_region_plan (S := fun w' => w'.cell? ⟨g6, 0, none⟩ = some (.int .u8 ((UInt8.ofNat (S / 256)).toNat : Int)) ∧ w'.cell? ⟨g6, 1, none⟩ = some (.int .u8 ((UInt8.ofNat S).toNat : Int))) [(0, true), (1, true), (2, true), (3, true), (4, true), (5, true), (6, true), (7, true), (8, true), (9, false), (10, true), (11, false)] (by kernel_rfl) (by kernel_rfl) (fun _ _ d _ _ h => by cases d <;> exact h) (⟨s0, s1⟩) ?_
  iterate 9 (refine plan_take (v := ?_) rfl (Or.inl ⟨by rfl, ?_⟩) ?_; rotate_left; (focus (intro w' hw'; obtain ⟨j0, j1⟩ := hw'; go_simp <;> with_reducible rfl)); try simp only [Act.put, List.setIfInBounds_toArray, List.set_cons_zero, List.set_cons_succ])
  refine plan_run rfl (fun K hK => ?_)
  go_simp
  skip
  refine hK.out _ _ (⟨scell hne s0, scell hne s1⟩) ?_
  clear hK
  try simp only [Act.put, List.setIfInBounds_toArray, List.set_cons_zero, List.set_cons_succ]
  iterate 1 (refine plan_take (v := ?_) rfl (Or.inl ⟨by rfl, ?_⟩) ?_; rotate_left; (focus (intro w' hw'; obtain ⟨j0, j1⟩ := hw'; go_simp <;> with_reducible rfl)); try simp only [Act.put, List.setIfInBounds_toArray, List.set_cons_zero, List.set_cons_succ])
  refine plan_run rfl (fun K hK => ?_)
  go_simp
  skip
  refine hK.out _ _ (⟨scell hne (scell hne s0), scell hne (scell hne s1)⟩) ?_
  clear hK
  try simp only [Act.put, List.setIfInBounds_toArray, List.set_cons_zero, List.set_cons_succ]
  refine plan_done ?_
  have hset := (o46.set_ 2 (UInt8.ofNat (S / 256))).set_ 3 (UInt8.ofNat S)
  rw [HQ.out, HQ1.out, show ((UInt8.ofNat (S / 256)).toNat : Int) = (S : Int) / 256 % 256 by simp, show ((UInt8.ofNat S).toNat : Int) = (S : Int) % 256 by simp] at hset
  have B06 := below_then hb2 hb6
  have bV := (B06.setCell (p := ⟨g4, 2, none⟩) hg41 (.int .u8 ((S : Int) / 256 % 256))).setCell (p := ⟨g4, 3, none⟩) hg41 (.int .u8 ((S : Int) % 256))
  clear s0 s1 c40 c41 F4 F4b o46
  obtain ⟨W7, hW7⟩ : ∃ W7, W7 = ((w6.setCell ⟨g4, 2, none⟩ (.int .u8 ((S : Int) / 256 % 256))).setCell ⟨g4, 3, none⟩ (.int .u8 ((S : Int) % 256))).drew := ⟨_, rfl⟩
  have hset7 : OwnB W7 w.heap.size (some ⟨g4, 0, none⟩) (8 + n) c2 Q := by rw [hW7]; exact hset
  have bW7 : Below w.heap.size w W7 := by rw [hW7]; exact bV.drew
  rw [← hW7]
  have HW7 := Lib.hid hW7
  clear hset bV hW7
  obtain ⟨q, hq⟩ : ∃ q : Nat, at_ % (8 + (n : Int)) = (q : Nat) := ⟨(at_ % (8 + (n : Int))).toNat, by have := Int.emod_nonneg at_ (show (8 + (n : Int)) ≠ 0 by omega); omega⟩
  have hq2 : q < 8 + n := by have := Int.emod_lt_of_pos at_ (show 0 < 8 + (n : Int) by omega); omega
  have hq1 : at_.tmod (8 + (n : Int)) = (q : Int) := by rw [Int.tmod_eq_emod_of_nonneg (by omega), hq]
  have hq3 : ¬ (8 + (n : Int) = 0) := by omega
  have kq1 : (0 : Int) ≤ (q : Int) := by omega
  have kq2 : (q : Int) < 8 + (n : Int) := by omega
  have cq := hset7.rd.cellS q (by omega)
  have hT0 := fun (V : UInt8) (hv : V ≠ (qry xs).getD q 0) => qry_turned xs (8 + n) q V (by omega) hq2 hv
  rw [HQ1.out] at hT0
  obtain ⟨U, hU⟩ : ∃ U, Q.getD q 0 = U := ⟨_, rfl⟩
  rw [hU] at cq hT0
  have hx : bits .xor .u8 (U.toNat : Int) (by_ : Int) = ((U ^^^ UInt8.ofNat by_).toNat : Int) := by
    rw [u8_xor_nat _ _ U.toNat_lt hby, UInt8.toNat_xor, UInt8.toNat_ofNat', Nat.mod_eq_of_lt (by omega)]
  have hbn : UInt8.ofNat by_ ≠ 0 := by intro h; apply hb0; have := congrArg UInt8.toNat h; rw [UInt8.toNat_ofNat', Nat.mod_eq_of_lt (by omega)] at this; exact this
  have hvn : U ^^^ UInt8.ofNat by_ ≠ U := xor_ne _ _ hbn
  obtain ⟨V, hV⟩ : ∃ V, U ^^^ UInt8.ofNat by_ = V := ⟨_, rfl⟩
  rw [hV] at hx hvn
  have HT := Lib.hid (hT0 V hvn)
  have fq := hset7.free q
  rw [Nat.zero_add] at cq
  clear hq hvn hT0 hV hU
  go_wp2_with fail
  have hset := hset7.set_ q V
  have bV := bW7.setCell (p := ⟨g4, q, none⟩) hg41 (.int .u8 (V.toNat : Int))
  obtain ⟨L, hL⟩ : ∃ L, Q.set q V = L := ⟨_, rfl⟩
  rw [hL] at hset
  have hT1 := HT.out
  rw [hL] at hT1
  have HT1 := Lib.hid hT1
  clear hT1
  have hh := echo_any (some ⟨g4, 0, none⟩) (8 + n) c2 L _ hset.rd (by omega)
  rw [HT1.out.2, show echoL L 6 = [] from rfl] at hh
  refine hh.mono ?_
  clear hh
  rintro e w8 ⟨A8, n8, c8, rfl, ho8, hb8⟩
  have o8 := hset.below hb8
  have B8 := below_then bV hb8
  go_wp2_with fail
  have hh := icmpHolds_any (some ⟨g4, 0, none⟩) (8 + n) c2 L w8 o8.rd
  rw [decide_eq_false HT1.out.1, Bool.and_false] at hh
  refine hh.mono ?_
  clear hh
  rintro e w9 ⟨rfl, rfl⟩
  go_wp2_with fail
  refine (heads22 _).mono ?_
  rintro e w10 ⟨rfl, hb10⟩
  go_wp2
  go_ret
  exact ⟨rfl, below_then B8 hb10⟩

theorem icmpTurned_law (A : Option Addr) (n c : Nat) (xs : List UInt8) (at_ : Int) (by_ : Nat) (w : World) (hr : RdB w A n c xs) (ha : -9223372036854775808 ≤ at_ ∧ at_ ≤ 9223372036854775807) (hby : by_ < 256) :
    Calls Try.prog 12 #[.slice A n c, .int .i64 at_, .int .u8 by_] w (RetV w (.bool true)) := by
  by_cases h : 500 < n ∨ at_ < 0 ∨ by_ = 0
  · exact icmpTurned_early A n c xs at_ by_ w hr h
  · exact icmpTurned_main A n c xs at_ by_ w hr (by omega) (by omega) (by omega) hby
end Go.Proofs.Ytieilgphcfiapaa
