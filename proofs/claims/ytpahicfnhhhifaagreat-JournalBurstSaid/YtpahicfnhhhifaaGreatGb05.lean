/-
 Proved here, for the statement JournalBurst:
 The walks of num.put, Le, Be, and of the reference's four.
-/
import Derived.Test.YtpahicfnhhhifaaGreatGb04
set_option linter.unusedVariables false
set_option linter.unusedSimpArgs false
namespace Go.Proofs.YtpahicfnhhhifaaGreat
set_option maxRecDepth 20000
open Go.RowKit
theorem set_le (n size k : Nat) (h : k < size) : (leB n k ++ List.replicate (size - k) 0).set k (UInt8.ofNat (n / 256 ^ k)) = leB n (k + 1) ++ List.replicate (size - (k + 1)) 0 := by
 rw [List.set_append_right _ _ (by rw [leB_length]; omega), leB_length, Nat.sub_self, leB_succ, show size - k = (size - (k + 1)) + 1 by omega, List.replicate_succ, List.set_cons_zero]
 simp
theorem set_be (n size k : Nat) (h : k < size) : (List.replicate (size - k) 0 ++ beB n k).set (size - 1 - k) (UInt8.ofNat (n / 256 ^ k)) = List.replicate (size - (k + 1)) 0 ++ beB n (k + 1) := by
 rw [List.set_append_left _ _ (by simp; omega), show size - k = (size - (k + 1)) + 1 by omega, List.replicate_succ', show size - 1 - k = (List.replicate (size - (k + 1)) (0 : UInt8)).length by simp; omega,
  List.set_append_right _ _ (Nat.le_refl _), Nat.sub_self]
 unfold beB
 rw [leB_succ]
 simp
theorem byte_val (n k : Nat) : IntKind.u8.wrap ((n : Int) / 2 ^ (8 * k)) = ((UInt8.ofNat (n / 256 ^ k)).toNat : Int) := by
 rw [IntKind.wrap_u8, UInt8.toNat_ofNat', pow_256, Int.natCast_emod, Int.natCast_ediv, Int.natCast_pow]; rfl
theorem le1_any (i : Int) (w : World) : Calls Tryz.prog 135 #[.int .i64 i] w fun e w' => e = .returned (.int .i64 i) ∧ w = w' := by
 go_enter Tryz.func135, Tryz.ntmps135
 go_wp2
 go_ret
 exact ⟨rfl, rfl⟩
theorem be1_any (i : Int) (g : Nat) (K : Int) (w : World) (hc : w.cell? ⟨g, 0, none⟩ = some (.int .i64 K)) (h1 : 0 ≤ i) (h2 : i < K) (h3 : K ≤ 8) :
  Calls Tryz.prog 141 #[.int .i64 i, .pointer (some ⟨g, 0, none⟩)] w fun e w' => e = .returned (.int .i64 (K - 1 - i)) ∧ w = w' := by
 go_enter Tryz.func141, Tryz.ntmps141
 go_wp2
 go_ret
 exact ⟨rfl, rfl⟩
def PutI (w : World) (size : Nat) (f : Nat → List UInt8) (i : Value) (wr : World) : Prop :=
 ∃ k, k ≤ size ∧ i = .int .i64 (k : Nat) ∧ OwnB wr w.heap.size (some ⟨w.heap.size, 0, none⟩) size size (f k) ∧ Below w.heap.size w wr
theorem put_le (n size : Nat) (w : World) (hn : n < 18446744073709551616) (h8 : size ≤ 8) :
  Calls Tryz.prog 133 #[.int .u64 n, .int .i64 size, .func (.func 135) #[] #[]] w (RetB w (leB n size)) := by
 go_enter Tryz.func133, Tryz.ntmps133
 go_wp2_with (at_make; refine wp_makeB rfl _ _ rfl _ _ size rfl rfl (by omega) ?_; intro w1 ho1 hb1)
 go_loopw [12] (PutI w size (fun k => leB n k ++ List.replicate (size - k) 0)) (fun i _ => size - (intOf i).toNat)
 case atStart => exact ⟨0, Nat.zero_le _, rfl, by simpa [leB_zero] using ho1, hb1⟩
 case round =>
  obtain ⟨k, hk, rfl, ho, hb⟩ := hrel
  by_cases hlt : k < size
  ·skip
   have k1 : (k : Int) < (size : Int) := by omega
   have k0 : (0 : Int) ≤ (k : Int) := by omega
   have hfree := ho.free k
   obtain ⟨u0, _, hcell⟩ := ho.cell_ k hlt
   have kw : IntKind.i64.wrap (8 * (k : Int)) = 8 * (k : Int) := IntWalk.i64_in _ (by omega)
   have kz : (8 * (k : Int)).toNat = 8 * k := by omega
   have kv := byte_val n k
   go_wp2_with fail
   refine wp_region_plan (S := fun w' => True) [(0, true), (1, true), (2, true), (4, true), (5, true), (6, true), (7, true), (8, true), (3, false), (9, true), (10, false)] (by kernel_rfl) (by kernel_rfl) (fun _ _ d _ _ h => by cases d <;> exact h) trivial ?_
   iterate 8 (refine plan_take (v := ?_) rfl (Or.inl ⟨by rfl, ?_⟩) ?_; rotate_left; (focus (intro w' hw'; go_simp <;> with_reducible rfl)); try simp only [Act.put, pst3])
   refine plan_run rfl (fun K hK => ?_)
   go_simp
   refine (le1_any (k : Int) _).mono ?_
   rintro e w2 ⟨rfl, rfl⟩
   refine hK.out _ _ trivial ?_
   clear hK
   try simp only [Act.put, pst3]
   iterate 1 (refine plan_take (v := ?_) rfl (Or.inl ⟨by rfl, ?_⟩) ?_; rotate_left; (focus (intro w' hw'; go_simp <;> with_reducible rfl)); try simp only [Act.put, pst3])
   refine plan_run rfl (fun K hK => ?_)
   go_simp
   refine hK.out _ _ trivial ?_
   clear hK
   try simp only [Act.put, pst3]
   refine plan_done ?_
   go_wp2
   go_roundw
   case rel => exact ⟨k + 1, by omega, by go_num, by have h := ho.set_ k (UInt8.ofNat (n / 256 ^ k)); rw [set_le n size k hlt] at h; exact h, hb.drew.setCell (Nat.le_refl _) _⟩
   case measure => simp [intOf] <;> omega
  ·obtain rfl : k = size := by omega
   go_wp2
   go_ret
   exact ⟨_, _, _, rfl, by simpa using ho, hb⟩
theorem put_be (n size g : Nat) (w : World) (hn : n < 18446744073709551616) (h8 : size ≤ 8) (hg : g < w.heap.size) (hc : w.cell? ⟨g, 0, none⟩ = some (.int .i64 size)) :
  Calls Tryz.prog 133 #[.int .u64 n, .int .i64 size, .func (.func 141) #[] #[.pointer (some ⟨g, 0, none⟩)]] w (RetB w (beB n size)) := by
 go_enter Tryz.func133, Tryz.ntmps133
 go_wp2_with (at_make; refine wp_makeB rfl _ _ rfl _ _ size rfl rfl (by omega) ?_; intro w1 ho1 hb1)
 go_loopw [12] (PutI w size (fun k => List.replicate (size - k) 0 ++ beB n k)) (fun i _ => size - (intOf i).toNat)
 case atStart => exact ⟨0, Nat.zero_le _, rfl, by simpa [beB, leB_zero] using ho1, hb1⟩
 case round =>
  obtain ⟨k, hk, rfl, ho, hb⟩ := hrel
  have hck : wr.cell? ⟨g, 0, none⟩ = some (.int .i64 size) := (hb.cell (p := ⟨g, 0, none⟩) hg).trans hc
  by_cases hlt : k < size
  ·obtain ⟨j, hj⟩ : ∃ j, j = size - 1 - k := ⟨_, rfl⟩
   have k1 : (k : Int) < (size : Int) := by omega
   have k0 : (0 : Int) ≤ (k : Int) := by omega
   have k2 : (size : Int) - 1 - (k : Int) = (j : Int) := by omega
   have k3 : (0 : Int) ≤ (j : Int) := by omega
   have k4 : (j : Int) < (size : Int) := by omega
   have hj' : j < size := by omega
   have hset : (List.replicate (size - k) 0 ++ beB n k).set j (UInt8.ofNat (n / 256 ^ k)) = List.replicate (size - (k + 1)) 0 ++ beB n (k + 1) := by rw [hj]; exact set_be n size k hlt
   have HT := Lib.hid hset
   clear hj hset
   have hfree := ho.free j
   obtain ⟨u0, _, hcell⟩ := ho.cell_ j hj'
   have kw : IntKind.i64.wrap (8 * (k : Int)) = 8 * (k : Int) := IntWalk.i64_in _ (by omega)
   have kz : (8 * (k : Int)).toNat = 8 * k := by omega
   have kv := byte_val n k
   go_wp2_with fail
   refine wp_region_plan (S := fun w' => True) [(0, true), (1, true), (2, true), (4, true), (5, true), (6, true), (7, true), (8, true), (3, false), (9, true), (10, false)] (by kernel_rfl) (by kernel_rfl) (fun _ _ d _ _ h => by cases d <;> exact h) trivial ?_
   iterate 8 (refine plan_take (v := ?_) rfl (Or.inl ⟨by rfl, ?_⟩) ?_; rotate_left; (focus (intro w' hw'; go_simp <;> with_reducible rfl)); try simp only [Act.put, pst3])
   refine plan_run rfl (fun K hK => ?_)
   go_simp
   refine (be1_any (k : Int) g (size : Int) _ (by exact hck) k0 k1 (by omega)).mono ?_
   rintro e w2 ⟨rfl, rfl⟩
   rw [k2]
   refine hK.out _ _ trivial ?_
   clear hK
   try simp only [Act.put, pst3]
   iterate 1 (refine plan_take (v := ?_) rfl (Or.inl ⟨by rfl, ?_⟩) ?_; rotate_left; (focus (intro w' hw'; go_simp <;> with_reducible rfl)); try simp only [Act.put, pst3])
   refine plan_run rfl (fun K hK => ?_)
   go_simp
   refine hK.out _ _ trivial ?_
   clear hK
   try simp only [Act.put, pst3]
   refine plan_done ?_
   go_wp2
   go_roundw
   case rel => exact ⟨k + 1, by omega, by go_num, by have h := ho.set_ j (UInt8.ofNat (n / 256 ^ k)); rw [HT.out] at h; exact h, hb.drew.setCell (Nat.le_refl _) _⟩
   case measure => simp [intOf] <;> omega
  ·obtain rfl : k = size := by omega
   go_wp2
   go_ret
   exact ⟨_, _, _, rfl, by simpa using ho, hb⟩
theorem le_any (n : Nat) (size : Int) (w : World) (hn : n < 18446744073709551616) :
  Calls Tryz.prog 97 #[.int .u64 n, .int .i64 size] w (RetB w (leB n (clamp size))) := by
 have h8 := clamp_le size
 go_enter Tryz.func97, Tryz.ntmps97
 go_wp2_with (first | (go_at_call 134; refine (cut_any size _).mono ?_; rintro e w1 ⟨rfl, rfl⟩) | (go_at_call 133; refine (put_le n _ _ hn h8).mono ?_; rintro e w1 ⟨A1, n1, c1, rfl, ho1, hb1⟩))
 go_ret
 exact ⟨_, _, _, rfl, ho1, hb1⟩
theorem be_any (n : Nat) (size : Int) (w : World) (hn : n < 18446744073709551616) :
  Calls Tryz.prog 106 #[.int .u64 n, .int .i64 size] w (RetB w (beB n (clamp size))) := by
 have h8 := clamp_le size
 go_enter Tryz.func106, Tryz.ntmps106
 go_wp2_with (first | (go_at_call 134; refine (cut_any size _).mono ?_; rintro e w1 ⟨rfl, rfl⟩) | (go_at_call 133; refine (put_be n _ _ _ hn h8 (by simp) (by simp)).mono ?_; rintro e w1 ⟨A1, n1, c1, rfl, ho1, hb1⟩))
 go_ret
 exact ⟨_, _, _, rfl, ho1.mono (by simp), bstep (below_self w) hb1⟩
end Go.Proofs.YtpahicfnhhhifaaGreat
