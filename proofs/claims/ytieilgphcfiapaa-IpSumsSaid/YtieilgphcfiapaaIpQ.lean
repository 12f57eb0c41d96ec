/-
  The law IpSums.
-/
import Derived.Test.YtieilgphcfiapaaIpM
import Derived.Test.YtieilgphcfiapaaIpP
import Derived.Test.YtieilgphcfiapaaAid
import Derived.StillTailTactics
namespace Go.Proofs.Ytieilgphcfiapaa
set_option maxRecDepth 20000
open Go.RowKit
set_option linter.unusedVariables false
set_option linter.unusedSimpArgs false
set_option maxHeartbeats 4000000

theorem ipSums_early (src dst : Nat) (proto : Int) (A : Option Addr) (n c : Nat) (xs : List UInt8) (w : World) (hr : RdB w A n c xs) (h : 500 < n ∨ n % 2 ≠ 0) :
    Calls Try.prog 6 #[.int .u32 src, .int .u32 dst, .int .i64 proto, .slice A n c] w (RetV w (.bool true)) := by
  have hn63 := hr.n63
  have t0 : ((n : Int).tmod 2) = ((n % 2 : Nat) : Int) := (Int.ofNat_tmod n 2).symm
  by_cases h1 : 500 < n
  · have d1 : decide ((500 : Int) < (n : Int)) = true := decide_eq_true (by omega)
    clear h
    go_enter Try.func6, Try.ntmps6
    go_wp2_with fail
    refine (heads20 _).mono ?_
    rintro e w9 ⟨rfl, hb9⟩
    go_wp2
    go_ret
    exact ⟨rfl, hb9⟩
  · have d1 : decide ((500 : Int) < (n : Int)) = false := decide_eq_false (by omega)
    have d2 : (((n % 2 : Nat) : Int) != 0) = true := by rw [bne_iff_ne]; omega
    clear h
    go_enter Try.func6, Try.ntmps6
    go_wp2_with fail
    refine (heads20 _).mono ?_
    rintro e w9 ⟨rfl, hb9⟩
    go_wp2
    go_ret
    exact ⟨rfl, hb9⟩

theorem ipSums_main (src dst : Nat) (proto : Int) (A : Option Addr) (n c : Nat) (xs : List UInt8) (w : World) (hsrc : src < 4294967296) (hdst : dst < 4294967296) (hr : RdB w A n c xs) (h1 : n ≤ 500) (h2 : n % 2 = 0) :
    Calls Try.prog 6 #[.int .u32 src, .int .u32 dst, .int .i64 proto, .slice A n c] w (RetV w (.bool true)) := by
  have hn63 := hr.n63
  have hl := hr.2.1
  have t0 : ((n : Int).tmod 2) = ((n % 2 : Nat) : Int) := (Int.ofNat_tmod n 2).symm
  have d1 : decide ((500 : Int) < (n : Int)) = false := decide_eq_false (by omega)
  have d2 : (((n % 2 : Nat) : Int) != 0) = false := by rw [bne_eq_false_iff_eq]; omega
  have HZ := Lib.hid (ip_sealed src dst proto xs (by omega))
  have HT := Lib.hid (ip_turned src dst proto xs)
  obtain ⟨S, hS⟩ : ∃ S, ipSumN src dst proto (xs ++ [0, 0]) = S := ⟨ipSumN src dst proto (xs ++ [0, 0]), rfl⟩
  have hS2 : S < 65536 := by rw [← hS]; exact ipSumN_lt ..
  have HS := Lib.hid hS
  clear hS
  go_enter Try.func6, Try.ntmps6
  go_wp2_with (first
    | (at_builtin; refine wp_appB rfl _ _ rfl ((below_self w).alloc (Nat.le_refl _) _) (Nat.le_refl _) (by simp) _ _ _ _ rfl (own0 w) A n c xs rfl (hr.alloc _) (by omega) n xs (by omega) (by simp) ?_; intro A3 c3 w3 ho3 hb3 hg3)
    | (at_builtin; refine wp_appB rfl _ _ rfl (hb3.alloc hb3.size _) (by omega) (by have := hb3.size; simp; omega) A3 n c3 xs rfl (ho3.alloc _) (some ⟨w3.heap.size, 0, none⟩) 2 2 [0, 0] rfl (rdK rfl _ _ _ (by rfl) rfl (by simp [maxLen])) (by omega) (n + 2) (xs ++ [0, 0]) rfl rfl ?_; intro A4 c4 w4 ho4 hb4 hg4))
  refine (ipSum_any src dst proto A4 (n + 2) c4 _ w4 hsrc hdst ho4.rd (by omega)).mono ?_
  rintro e w5 ⟨rfl, hb5⟩
  rw [HS.out]
  have wS := w64n (k := S) (by omega)
  go_wp2_with fail
  refine (refBe_any S 2 w5 (by omega)).mono ?_
  rintro e w6 ⟨A6, n6, c6, rfl, ho6, hb6⟩
  rw [show clamp 2 = 2 from rfl] at ho6
  have hn6 : n6 = 2 := by rw [← ho6.len, beB_length]
  subst hn6
  obtain ⟨g6, rfl, hg61, hg62⟩ := ho6.addr (by omega)
  have B46 := below_then hb5 hb6
  have o46 := ho4.below B46
  obtain ⟨g4, rfl, hg41, hg42⟩ := ho4.addr (by omega)
  have s0 := ho6.rd.cellS 0 (by omega)
  have s1 := ho6.rd.cellS 1 (by omega)
  rw [beB_two] at s0 s1
  go_wp2_with fail
  have hne : g6 ≠ g4 := by have := hb5.size; omega
  have F4 := o46.free n
  have F4b := o46.free (n + 1)
  have c40 := (o46.rd.cellS n (by omega))
  have c41 := (o46.rd.cellS (n + 1) (by omega))
  rw [Nat.zero_add] at s0 s1 c40 c41
  have kn0 : (n : Int) < (n : Int) + 2 := by omega
  have kn1 : (n : Int) + 1 < (n : Int) + 2 := by omega
  have kn3 : (0 : Int) ≤ (n : Int) + 1 := by omega
  have kn2 : IntKind.i64.wrap ((n : Int) + 1) = (n : Int) + 1 := IntWalk.i64_in _ (by omega)
  refine wp_region_plan (S := fun w' => w'.cell? ⟨g6, 0, none⟩ = some (.int .u8 ((UInt8.ofNat (S / 256)).toNat : Int)) ∧ w'.cell? ⟨g6, 1, none⟩ = some (.int .u8 ((UInt8.ofNat S).toNat : Int))) [(0, true), (1, true), (2, true), (3, true), (4, true), (5, true), (6, true), (7, true), (8, true), (9, true), (10, true), (11, true), (12, true), (13, true), (14, false), (15, true), (16, false)] (by kernel_rfl) (by kernel_rfl) (fun _ _ d _ _ h => by cases d <;> exact h) (⟨s0, s1⟩) ?_
  iterate 14 (refine plan_take (v := ?_) rfl (Or.inl ⟨by rfl, ?_⟩) ?_; rotate_left; (focus (intro w' hw'; obtain ⟨j0, j1⟩ := hw'; go_simp <;> with_reducible rfl)); try simp only [Act.put, List.setIfInBounds_toArray, List.set_cons_zero, List.set_cons_succ])
  refine plan_run rfl (fun K hK => ?_)
  go_simp
  skip
  refine hK.out _ _ (⟨scell hne s0, scell hne s1⟩) ?_
  clear hK
  try simp only [Act.put, List.setIfInBounds_toArray, List.set_cons_zero, List.set_cons_succ]
  iterate 1 (refine plan_take (v := ?_) rfl (Or.inl ⟨by rfl, ?_⟩) ?_; rotate_left; (focus (intro w' hw'; obtain ⟨j0, j1⟩ := hw'; go_simp <;> with_reducible rfl)); try simp only [Act.put, List.setIfInBounds_toArray, List.set_cons_zero, List.set_cons_succ])
  refine plan_run rfl (fun K hK => ?_)
  go_simp
  skip
  refine hK.out _ _ (⟨scell hne (scell hne s0), scell hne (scell hne s1)⟩) ?_
  clear hK
  try simp only [Act.put, List.setIfInBounds_toArray, List.set_cons_zero, List.set_cons_succ]
  refine plan_done ?_
  have hset := (o46.set_ n (UInt8.ofNat (S / 256))).set_ (n + 1) (UInt8.ofNat S)
  have hxs : (((xs ++ [0, 0]).set n (UInt8.ofNat (S / 256))).set (n + 1) (UInt8.ofNat S)) = xs ++ beB S 2 := by
    rw [set2_field _ _ _ _ (by simp; omega), beB_two, List.take_append_of_le_length (by omega), List.take_of_length_le (by omega), List.drop_of_length_le (by simp; omega), List.append_nil]
  rw [hxs, show ((UInt8.ofNat (S / 256)).toNat : Int) = (S : Int) / 256 % 256 by simp, show ((UInt8.ofNat S).toNat : Int) = (S : Int) % 256 by simp] at hset
  have B06 := below_then hb4 B46
  have bV := (B06.setCell (p := ⟨g4, n, none⟩) hg41 (.int .u8 ((S : Int) / 256 % 256))).setCell (p := ⟨g4, n + 1, none⟩) hg41 (.int .u8 ((S : Int) % 256))
  clear s0 s1 c40 c41 F4 F4b o46
  go_wp2_with fail
  have hV := ipSum_any src dst proto (some ⟨g4, 0, none⟩) (n + 2) c4 _ _ hsrc hdst hset.rd.drew (by omega)
  rw [← HS.out, HZ.out] at hV
  rw [HS.out] at hV
  refine hV.mono ?_
  rintro e w7 ⟨rfl, hb7⟩
  have B7 := below_then bV.drew hb7
  clear hV
  go_wp2_with fail
  have hT := ipSum_any dst src proto A n c xs w7 hdst hsrc (hr.below B7) (by omega)
  rw [HT.out] at hT
  refine hT.mono ?_
  rintro e w8 ⟨rfl, hb8⟩
  clear hT
  go_wp2_with fail
  refine (ipSum_any src dst proto A n c xs w8 hsrc hdst ((hr.below B7).below hb8) (by omega)).mono ?_
  rintro e w9 ⟨rfl, hb9⟩
  have kq : (((ipSumN src dst proto xs : Nat) : Int) == ((ipSumN src dst proto xs : Nat) : Int)) = true := by simp
  go_wp2_with fail
  refine (heads20 w9).mono ?_
  rintro e w10 ⟨rfl, hb10⟩
  go_wp2
  go_ret
  exact ⟨rfl, below_then B7 (below_then hb8 (below_then hb9 hb10))⟩

theorem ipSums_law (src dst : Nat) (proto : Int) (A : Option Addr) (n c : Nat) (xs : List UInt8) (w : World) (hsrc : src < 4294967296) (hdst : dst < 4294967296) (hp : -9223372036854775808 ≤ proto ∧ proto ≤ 9223372036854775807) (hr : RdB w A n c xs) :
    Calls Try.prog 6 #[.int .u32 src, .int .u32 dst, .int .i64 proto, .slice A n c] w (RetV w (.bool true)) := by
  by_cases h : 500 < n ∨ n % 2 ≠ 0
  · exact ipSums_early src dst proto A n c xs w hr h
  · exact ipSums_main src dst proto A n c xs w hsrc hdst hr (by omega) (by omega)
end Go.Proofs.Ytieilgphcfiapaa
