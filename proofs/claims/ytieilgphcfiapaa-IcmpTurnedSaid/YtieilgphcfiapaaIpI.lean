/-
  Layer 20: Get of the document, refusals.
-/
import Derived.Test.YtieilgphcfiapaaIpF
namespace Go.Proofs.Ytieilgphcfiapaa
set_option maxRecDepth 20000
open Go.RowKit
set_option linter.unusedVariables false
set_option linter.unusedSimpArgs false

theorem refGet20_short (A : Option Addr) (n c : Nat) (xs : List UInt8) (w : World) (hr : RdB w A n c xs) (h : n < 20) :
    Calls Try.prog 33 #[.slice A n c] w (RetPk w pkZero 5) := by
  have hn63 := hr.n63
  have d1 : decide ((n : Int) < 20) = true := decide_eq_true (by omega)
  go_enter Try.func33, Try.ntmps33
  go_wp2
  exact bodyPost_ret (v := .tuple #[.agg #[.int .u16 pkZero.id, .bool pkZero.more, .int .i64 pkZero.place, .int .i64 pkZero.proto, .int .u32 pkZero.src, .int .u32 pkZero.dst, .slice none 0 0], .int .i64 5]) (by simp [results, Try.results33, go_sem, alloc_box, pkZero]) rfl ⟨_, _, _, rfl, RdB.nilB _, (below_self w).alloc (Nat.le_refl _) _⟩

set_option maxHeartbeats 1000000 in
theorem refGet20_refused (A : Option Addr) (n c : Nat) (xs : List UInt8) (w : World) (hr : RdB w A n c xs) (h : 20 ≤ n) (er : Int) (hw : GetWay n (fld xs 2 2) (fld xs 6 2) ((xs.getD 0 0).toNat : Int) ((xs.getD 8 0).toNat : Int) (numCheck (xs.take 20)) er) :
    Calls Try.prog 33 #[.slice A n c] w (RetPk w pkZero er) := by
  have hn63 := hr.n63
  have hc := hr.2.2.1
  have hc63 := hr.c63
  obtain ⟨b, o, u, rfl, hbl, _⟩ := hr.at_ 0 (by omega)
  have d1 : decide ((n : Int) < 20) = false := decide_eq_false (by omega)
  have c0 : w.cell? ⟨b, o, none⟩ = some (.int .u8 ((xs.getD 0 0).toNat : Int)) := by have := hr.cellS 0 (by omega); rwa [Nat.add_zero] at this
  have c8 := hr.cellS 8 (by omega)
  have hb0 := (xs.getD 0 0).toNat_lt
  have hb8 := (xs.getD 8 0).toNat_lt
  have f22 := fld_lt xs 2 2
  have f62 := fld_lt xs 6 2
  have hnc : (20 : Int) ≤ (c : Int) := by omega
  have kn0 : (0 : Int) < (n : Int) := by omega
  have kc2 : ¬ (c = 2) := by omega
  have kc6 : ¬ (c = 6) := by omega
  have kn8 : (8 : Int) < (n : Int) := by omega
  generalize hB0 : (xs.getD 0 0).toNat = B0 at *
  generalize hB8 : (xs.getD 8 0).toNat = B8 at *
  have F2 : ∀ W : World, RdB W (some ⟨b, o, none⟩) n c xs → Calls Try.prog 67 #[.slice (some ⟨b, o + 2, none⟩) 2 (c - 2)] W fun e w' => e = .returned (.int .u64 (fld xs 2 2 : Nat)) ∧ W = w' := fun W hR => by
    have h2 := (hR.cutS 2 (n - 2) (by omega) (by omega)).take 2 (by omega)
    have h3 := refFromBe_any _ _ _ _ W h2
    have e : fromBe ((xs.drop 2).take 2) = fld xs 2 2 := by unfold fromBe fld; rw [List.take_of_length_le (by rw [h2.2.1]; omega)]
    rw [e] at h3
    exact h3
  have F6 : ∀ W : World, RdB W (some ⟨b, o, none⟩) n c xs → Calls Try.prog 67 #[.slice (some ⟨b, o + 6, none⟩) 2 (c - 6)] W fun e w' => e = .returned (.int .u64 (fld xs 6 2 : Nat)) ∧ W = w' := fun W hR => by
    have h2 := (hR.cutS 6 (n - 6) (by omega) (by omega)).take 2 (by omega)
    have h3 := refFromBe_any _ _ _ _ W h2
    have e : fromBe ((xs.drop 6).take 2) = fld xs 6 2 := by unfold fromBe fld; rw [List.take_of_length_le (by rw [h2.2.1]; omega)]
    rw [e] at h3
    exact h3
  generalize fld xs 2 2 = L at *
  generalize fld xs 6 2 = Pl at *
  have HF2 := Lib.hid F2
  have HF6 := Lib.hid F6
  have hcl : numCheck (xs.take 20) < 65536 := by unfold numCheck; omega
  have CK := fun (W : World) (hR : RdB W (some ⟨b, o, none⟩) n c xs) => refNumCheck_any (some ⟨b, o, none⟩) 20 c (xs.take 20) W (hR.take 20 h) (by omega)
  have HCK := Lib.hid CK
  generalize numCheck (xs.take 20) = ck at *
  have hL : L < 65536 := f22
  have hPl : Pl < 65536 := f62
  have HH := Lib.hid hw
  clear hw F2 F6 CK hB0 hB8 f22 f62 hcl
  rcases HH.out with ⟨t1, rfl⟩ | ⟨t1, t2, rfl⟩ | ⟨t1, t2, t3, rfl⟩ | ⟨t1, t2, t3, t4, rfl⟩ | ⟨t1, t2, t3, t4, t5, rfl⟩ | ⟨t1, t2, t3, t4, t5, t6, rfl⟩
  · skip
    have l0 : decide (n < L) = true := decide_eq_true t1
    have l0b : (n : Int) < (L : Int) := by omega
    clear t1 
    go_enter Try.func33, Try.ntmps33
    go_wp2_with fail
    refine (HF2.out _ (by exact hr.alloc _)).mono ?_
    rintro e w1 ⟨rfl, rfl⟩
    go_wp2
    exact bodyPost_ret (v := .tuple #[.agg #[.int .u16 pkZero.id, .bool pkZero.more, .int .i64 pkZero.place, .int .i64 pkZero.proto, .int .u32 pkZero.src, .int .u32 pkZero.dst, .slice none 0 0], .int .i64 5]) (by simp [results, Try.results33, go_sem, alloc_box, pkZero]) rfl ⟨_, _, _, rfl, RdB.nilB _, (below_self w).alloc (Nat.le_refl _) _⟩
  · skip
    have l0 : decide (n < L) = false := decide_eq_false (by omega)
    have l0b : (L : Int) ≤ (n : Int) := by omega
    have l1 : ((B0 : Int) != 69) = true := by rw [bne_iff_ne]; exact t2
    clear t1 t2
    go_enter Try.func33, Try.ntmps33
    go_wp2_with fail
    refine (HF2.out _ (by exact hr.alloc _)).mono ?_
    rintro e w1 ⟨rfl, rfl⟩
    go_wp2_with fail
    refine (HF6.out _ (by exact hr.alloc _)).mono ?_
    rintro e w1 ⟨rfl, rfl⟩
    go_wp2
    exact bodyPost_ret (v := .tuple #[.agg #[.int .u16 pkZero.id, .bool pkZero.more, .int .i64 pkZero.place, .int .i64 pkZero.proto, .int .u32 pkZero.src, .int .u32 pkZero.dst, .slice none 0 0], .int .i64 3]) (by simp [results, Try.results33, go_sem, alloc_box, pkZero]) rfl ⟨_, _, _, rfl, RdB.nilB _, (below_self w).alloc (Nat.le_refl _) _⟩
  · skip
    have l0 : decide (n < L) = false := decide_eq_false (by omega)
    have l0b : (L : Int) ≤ (n : Int) := by omega
    have l1 : ((B0 : Int) != 69) = false := by rw [bne_eq_false_iff_eq]; exact t2
    have l2 : decide ((L : Int) < 20) = true := decide_eq_true (by omega)
    clear t1 t2 t3
    go_enter Try.func33, Try.ntmps33
    go_wp2_with fail
    refine (HF2.out _ (by exact hr.alloc _)).mono ?_
    rintro e w1 ⟨rfl, rfl⟩
    go_wp2_with fail
    refine (HF6.out _ (by exact hr.alloc _)).mono ?_
    rintro e w1 ⟨rfl, rfl⟩
    go_wp2
    exact bodyPost_ret (v := .tuple #[.agg #[.int .u16 pkZero.id, .bool pkZero.more, .int .i64 pkZero.place, .int .i64 pkZero.proto, .int .u32 pkZero.src, .int .u32 pkZero.dst, .slice none 0 0], .int .i64 3]) (by simp [results, Try.results33, go_sem, alloc_box, pkZero]) rfl ⟨_, _, _, rfl, RdB.nilB _, (below_self w).alloc (Nat.le_refl _) _⟩
  · skip
    have l0 : decide (n < L) = false := decide_eq_false (by omega)
    have l0b : (L : Int) ≤ (n : Int) := by omega
    have l1 : ((B0 : Int) != 69) = false := by rw [bne_eq_false_iff_eq]; exact t2
    have l2 : decide ((L : Int) < 20) = false := decide_eq_false (by omega)
    have l3 : decide ((32768 : Int) ≤ (Pl : Int)) = true := decide_eq_true (by omega)
    clear t1 t2 t3 t4
    go_enter Try.func33, Try.ntmps33
    go_wp2_with fail
    refine (HF2.out _ (by exact hr.alloc _)).mono ?_
    rintro e w1 ⟨rfl, rfl⟩
    go_wp2_with fail
    refine (HF6.out _ (by exact hr.alloc _)).mono ?_
    rintro e w1 ⟨rfl, rfl⟩
    go_wp2
    exact bodyPost_ret (v := .tuple #[.agg #[.int .u16 pkZero.id, .bool pkZero.more, .int .i64 pkZero.place, .int .i64 pkZero.proto, .int .u32 pkZero.src, .int .u32 pkZero.dst, .slice none 0 0], .int .i64 3]) (by simp [results, Try.results33, go_sem, alloc_box, pkZero]) rfl ⟨_, _, _, rfl, RdB.nilB _, (below_self w).alloc (Nat.le_refl _) _⟩
  · skip
    have l0 : decide (n < L) = false := decide_eq_false (by omega)
    have l0b : (L : Int) ≤ (n : Int) := by omega
    have l1 : ((B0 : Int) != 69) = false := by rw [bne_eq_false_iff_eq]; exact t2
    have l2 : decide ((L : Int) < 20) = false := decide_eq_false (by omega)
    have l3 : decide ((32768 : Int) ≤ (Pl : Int)) = false := decide_eq_false (by omega)
    have l4 : ((ck : Int) != 0) = true := by rw [bne_iff_ne]; omega
    clear t1 t2 t3 t4 t5
    go_enter Try.func33, Try.ntmps33
    go_wp2_with fail
    refine (HF2.out _ (by exact hr.alloc _)).mono ?_
    rintro e w1 ⟨rfl, rfl⟩
    go_wp2_with fail
    refine (HF6.out _ (by exact hr.alloc _)).mono ?_
    rintro e w1 ⟨rfl, rfl⟩
    go_wp2_with fail
    refine (HCK.out _ (by exact hr.alloc _)).mono ?_
    rintro e w1 ⟨rfl, rfl⟩
    go_wp2
    exact bodyPost_ret (v := .tuple #[.agg #[.int .u16 pkZero.id, .bool pkZero.more, .int .i64 pkZero.place, .int .i64 pkZero.proto, .int .u32 pkZero.src, .int .u32 pkZero.dst, .slice none 0 0], .int .i64 6]) (by simp [results, Try.results33, go_sem, alloc_box, pkZero]) rfl ⟨_, _, _, rfl, RdB.nilB _, (below_self w).alloc (Nat.le_refl _) _⟩
  · skip
    have l0 : decide (n < L) = false := decide_eq_false (by omega)
    have l0b : (L : Int) ≤ (n : Int) := by omega
    have l1 : ((B0 : Int) != 69) = false := by rw [bne_eq_false_iff_eq]; exact t2
    have l2 : decide ((L : Int) < 20) = false := decide_eq_false (by omega)
    have l3 : decide ((32768 : Int) ≤ (Pl : Int)) = false := decide_eq_false (by omega)
    have l4 : ((ck : Int) != 0) = false := by rw [bne_eq_false_iff_eq]; omega
    have l5 : ((B8 : Int) == 0) = true := by rw [beq_iff_eq]; exact t6
    clear t1 t2 t3 t4 t5 t6
    go_enter Try.func33, Try.ntmps33
    go_wp2_with fail
    refine (HF2.out _ (by exact hr.alloc _)).mono ?_
    rintro e w1 ⟨rfl, rfl⟩
    go_wp2_with fail
    refine (HF6.out _ (by exact hr.alloc _)).mono ?_
    rintro e w1 ⟨rfl, rfl⟩
    go_wp2_with fail
    refine (HCK.out _ (by exact hr.alloc _)).mono ?_
    rintro e w1 ⟨rfl, rfl⟩
    go_wp2
    exact bodyPost_ret (v := .tuple #[.agg #[.int .u16 pkZero.id, .bool pkZero.more, .int .i64 pkZero.place, .int .i64 pkZero.proto, .int .u32 pkZero.src, .int .u32 pkZero.dst, .slice none 0 0], .int .i64 180]) (by simp [results, Try.results33, go_sem, alloc_box, pkZero]) rfl ⟨_, _, _, rfl, RdB.nilB _, (below_self w).alloc (Nat.le_refl _) _⟩
end Go.Proofs.Ytieilgphcfiapaa
