/-
  Layer 20: Get of the package.
-/
import Derived.Test.YtieilgphcfiapaaIpE
-- facts: PkAt
namespace Go.Proofs.Ytieilgphcfiapaa
set_option maxRecDepth 20000
open Go.RowKit
set_option linter.unusedVariables false
set_option linter.unusedSimpArgs false

structure Pk where
  id : Nat
  more : Bool
  place : Int
  proto : Int
  src : Nat
  dst : Nat
  b : List UInt8
def pkZero : Pk := ⟨0, false, 0, 0, 0, 0, []⟩
def ipGetE (xs : List UInt8) : Int :=
  if xs.length < 20 then 5 else if xs.length < fld xs 2 2 then 5 else if xs.getD 0 0 ≠ 69 ∨ fld xs 2 2 < 20 ∨ 32768 ≤ fld xs 6 2 then 3 else
    if numCheck (xs.take 20) ≠ 0 then 6 else if xs.getD 8 0 = 0 then 180 else if 166 < fld xs 2 2 then 2 else 0
def ipGetP (xs : List UInt8) : Pk := ⟨fld xs 4 2, decide (fld xs 6 2 / 8192 = 1 ∨ fld xs 6 2 / 8192 = 3), ((8 * (fld xs 6 2 % 8192) : Nat) : Int), (fld xs 9 1 : Nat), fld xs 12 4, fld xs 16 4, (xs.take (fld xs 2 2)).drop 20⟩
def RetPk (w : World) (f : Pk) (er : Int) (e : Ending) (w' : World) : Prop := ∃ A n c, e = .returned (.tuple #[.agg #[.int .u16 f.id, .bool f.more, .int .i64 f.place, .int .i64 f.proto, .int .u32 f.src, .int .u32 f.dst, .slice A n c], .int .i64 er]) ∧ RdB w' A n c f.b ∧ Below w.heap.size w w'

theorem ipGet_short (A : Option Addr) (n c : Nat) (xs : List UInt8) (w : World) (hr : RdB w A n c xs) (h : n < 20) :
    Calls Try.prog 32 #[.slice A n c] w (RetPk w pkZero 5) := by
  have hn63 := hr.n63
  have d1 : decide ((n : Int) < 20) = true := decide_eq_true (by omega)
  go_enter Try.func32, Try.ntmps32
  go_wp2
  exact bodyPost_ret (v := .tuple #[.agg #[.int .u16 pkZero.id, .bool pkZero.more, .int .i64 pkZero.place, .int .i64 pkZero.proto, .int .u32 pkZero.src, .int .u32 pkZero.dst, .slice none 0 0], .int .i64 5]) (by simp [results, Try.results32, go_sem, pkZero]) rfl ⟨_, _, _, rfl, RdB.nilB _, ((below_self w).alloc (Nat.le_refl _) _).alloc (by simp) _⟩

/-- Refused behind its first two fields: which way, as tests. -/
def GetWay (n long place : Nat) (b0 b8 : Int) (ck : Nat) (er : Int) : Prop :=
  (n < long ∧ er = 5) ∨ (long ≤ n ∧ b0 ≠ 69 ∧ er = 3) ∨ (long ≤ n ∧ b0 = 69 ∧ long < 20 ∧ er = 3) ∨ (long ≤ n ∧ b0 = 69 ∧ 20 ≤ long ∧ 32768 ≤ place ∧ er = 3) ∨
  (long ≤ n ∧ b0 = 69 ∧ 20 ≤ long ∧ place < 32768 ∧ ck ≠ 0 ∧ er = 6) ∨ (long ≤ n ∧ b0 = 69 ∧ 20 ≤ long ∧ place < 32768 ∧ ck = 0 ∧ b8 = 0 ∧ er = 180)

set_option maxHeartbeats 1000000 in
theorem ipGet_refused (A : Option Addr) (n c : Nat) (xs : List UInt8) (w : World) (hr : RdB w A n c xs) (h : 20 ≤ n) (er : Int) (hw : GetWay n (fld xs 2 2) (fld xs 6 2) ((xs.getD 0 0).toNat : Int) ((xs.getD 8 0).toNat : Int) (numCheck (xs.take 20)) er) :
    Calls Try.prog 32 #[.slice A n c] w (RetPk w pkZero er) := by
  have hn63 := hr.n63
  have hc := hr.2.2.1
  have hc63 := hr.c63
  obtain ⟨b, o, u, rfl, hbl, _⟩ := hr.at_ 0 (by omega)
  have d1 : decide ((n : Int) < 20) = false := decide_eq_false (by omega)
  have c0 : w.cell? ⟨b, o, none⟩ = some (.int .u8 ((xs.getD 0 0).toNat : Int)) := by have := hr.cellS 0 (by omega); rwa [Nat.add_zero] at this
  have c8 := hr.cellS 8 (by omega)
  have hb0 := (xs.getD 0 0).toNat_lt
  have hb8 := (xs.getD 8 0).toNat_lt
  have f22 := fld_lt xs 2 2
  have f62 := fld_lt xs 6 2
  have hnc : (20 : Int) ≤ (c : Int) := by omega
  have kn0 : (0 : Int) < (n : Int) := by omega
  have kn8 : (8 : Int) < (n : Int) := by omega
  generalize hB0 : (xs.getD 0 0).toNat = B0 at *
  generalize hB8 : (xs.getD 8 0).toNat = B8 at *
  have F2 := fun (W : World) (g : Nat) (hR : RdB W (some ⟨b, o, none⟩) n c xs) (hg : W.cell? ⟨g, 0, none⟩ = some (.slice (some ⟨b, o, none⟩) n c)) => field_any 2 2 _ n c xs g W hR (by omega) (by omega) (by omega) hg
  have F6 := fun (W : World) (g : Nat) (hR : RdB W (some ⟨b, o, none⟩) n c xs) (hg : W.cell? ⟨g, 0, none⟩ = some (.slice (some ⟨b, o, none⟩) n c)) => field_any 6 2 _ n c xs g W hR (by omega) (by omega) (by omega) hg
  generalize fld xs 2 2 = L at *
  generalize fld xs 6 2 = Pl at *
  have HF2 := Lib.hid F2
  have HF6 := Lib.hid F6
  have hcl : numCheck (xs.take 20) < 65536 := by unfold numCheck; omega
  have CK := fun (W : World) (hR : RdB W (some ⟨b, o, none⟩) n c xs) => numCheck_any (some ⟨b, o, none⟩) 20 c (xs.take 20) W (hR.take 20 h)
  have HCK := Lib.hid CK
  generalize numCheck (xs.take 20) = ck at *
  have hL : L < 65536 := f22
  have hPl : Pl < 65536 := f62
  have HH := Lib.hid hw
  clear hw F2 F6 CK hB0 hB8 f22 f62 hcl
  rcases HH.out with ⟨t1, rfl⟩ | ⟨t1, t2, rfl⟩ | ⟨t1, t2, t3, rfl⟩ | ⟨t1, t2, t3, t4, rfl⟩ | ⟨t1, t2, t3, t4, t5, rfl⟩ | ⟨t1, t2, t3, t4, t5, t6, rfl⟩
  · skip
    have l0 : decide (n < L) = true := decide_eq_true t1
    have l0b : (n : Int) < (L : Int) := by omega
    clear t1 
    go_enter Try.func32, Try.ntmps32
    go_wp2_with fail
    refine (HF2.out _ _ (by exact (hr.alloc _).alloc _) (by simp [go_sem])).mono ?_
    rintro e w1 ⟨rfl, rfl⟩
    go_wp2_with fail
    refine (HF6.out _ _ (by exact (hr.alloc _).alloc _) (by simp [go_sem])).mono ?_
    rintro e w1 ⟨rfl, rfl⟩
    go_wp2
    exact bodyPost_ret (v := .tuple #[.agg #[.int .u16 pkZero.id, .bool pkZero.more, .int .i64 pkZero.place, .int .i64 pkZero.proto, .int .u32 pkZero.src, .int .u32 pkZero.dst, .slice none 0 0], .int .i64 5]) (by simp [results, Try.results32, go_sem, pkZero]) rfl ⟨_, _, _, rfl, RdB.nilB _, ((below_self w).alloc (Nat.le_refl _) _).alloc (by simp) _⟩
  · skip
    have l0 : decide (n < L) = false := decide_eq_false (by omega)
    have l0b : (L : Int) ≤ (n : Int) := by omega
    have l1 : ((B0 : Int) != 69) = true := by rw [bne_iff_ne]; exact t2
    clear t1 t2
    go_enter Try.func32, Try.ntmps32
    go_wp2_with fail
    refine (HF2.out _ _ (by exact (hr.alloc _).alloc _) (by simp [go_sem])).mono ?_
    rintro e w1 ⟨rfl, rfl⟩
    go_wp2_with fail
    refine (HF6.out _ _ (by exact (hr.alloc _).alloc _) (by simp [go_sem])).mono ?_
    rintro e w1 ⟨rfl, rfl⟩
    go_wp2
    exact bodyPost_ret (v := .tuple #[.agg #[.int .u16 pkZero.id, .bool pkZero.more, .int .i64 pkZero.place, .int .i64 pkZero.proto, .int .u32 pkZero.src, .int .u32 pkZero.dst, .slice none 0 0], .int .i64 3]) (by simp [results, Try.results32, go_sem, pkZero]) rfl ⟨_, _, _, rfl, RdB.nilB _, ((below_self w).alloc (Nat.le_refl _) _).alloc (by simp) _⟩
  · skip
    have l0 : decide (n < L) = false := decide_eq_false (by omega)
    have l0b : (L : Int) ≤ (n : Int) := by omega
    have l1 : ((B0 : Int) != 69) = false := by rw [bne_eq_false_iff_eq]; exact t2
    have l2 : decide ((L : Int) < 20) = true := decide_eq_true (by omega)
    clear t1 t2 t3
    go_enter Try.func32, Try.ntmps32
    go_wp2_with fail
    refine (HF2.out _ _ (by exact (hr.alloc _).alloc _) (by simp [go_sem])).mono ?_
    rintro e w1 ⟨rfl, rfl⟩
    go_wp2_with fail
    refine (HF6.out _ _ (by exact (hr.alloc _).alloc _) (by simp [go_sem])).mono ?_
    rintro e w1 ⟨rfl, rfl⟩
    go_wp2
    exact bodyPost_ret (v := .tuple #[.agg #[.int .u16 pkZero.id, .bool pkZero.more, .int .i64 pkZero.place, .int .i64 pkZero.proto, .int .u32 pkZero.src, .int .u32 pkZero.dst, .slice none 0 0], .int .i64 3]) (by simp [results, Try.results32, go_sem, pkZero]) rfl ⟨_, _, _, rfl, RdB.nilB _, ((below_self w).alloc (Nat.le_refl _) _).alloc (by simp) _⟩
  · skip
    have l0 : decide (n < L) = false := decide_eq_false (by omega)
    have l0b : (L : Int) ≤ (n : Int) := by omega
    have l1 : ((B0 : Int) != 69) = false := by rw [bne_eq_false_iff_eq]; exact t2
    have l2 : decide ((L : Int) < 20) = false := decide_eq_false (by omega)
    have l3 : decide ((32768 : Int) ≤ (Pl : Int)) = true := decide_eq_true (by omega)
    clear t1 t2 t3 t4
    go_enter Try.func32, Try.ntmps32
    go_wp2_with fail
    refine (HF2.out _ _ (by exact (hr.alloc _).alloc _) (by simp [go_sem])).mono ?_
    rintro e w1 ⟨rfl, rfl⟩
    go_wp2_with fail
    refine (HF6.out _ _ (by exact (hr.alloc _).alloc _) (by simp [go_sem])).mono ?_
    rintro e w1 ⟨rfl, rfl⟩
    go_wp2
    exact bodyPost_ret (v := .tuple #[.agg #[.int .u16 pkZero.id, .bool pkZero.more, .int .i64 pkZero.place, .int .i64 pkZero.proto, .int .u32 pkZero.src, .int .u32 pkZero.dst, .slice none 0 0], .int .i64 3]) (by simp [results, Try.results32, go_sem, pkZero]) rfl ⟨_, _, _, rfl, RdB.nilB _, ((below_self w).alloc (Nat.le_refl _) _).alloc (by simp) _⟩
  · skip
    have l0 : decide (n < L) = false := decide_eq_false (by omega)
    have l0b : (L : Int) ≤ (n : Int) := by omega
    have l1 : ((B0 : Int) != 69) = false := by rw [bne_eq_false_iff_eq]; exact t2
    have l2 : decide ((L : Int) < 20) = false := decide_eq_false (by omega)
    have l3 : decide ((32768 : Int) ≤ (Pl : Int)) = false := decide_eq_false (by omega)
    have l4 : ((ck : Int) != 0) = true := by rw [bne_iff_ne]; omega
    clear t1 t2 t3 t4 t5
    go_enter Try.func32, Try.ntmps32
    go_wp2_with fail
    refine (HF2.out _ _ (by exact (hr.alloc _).alloc _) (by simp [go_sem])).mono ?_
    rintro e w1 ⟨rfl, rfl⟩
    go_wp2_with fail
    refine (HF6.out _ _ (by exact (hr.alloc _).alloc _) (by simp [go_sem])).mono ?_
    rintro e w1 ⟨rfl, rfl⟩
    go_wp2_with fail
    refine (HCK.out _ (by exact (hr.alloc _).alloc _)).mono ?_
    rintro e w1 ⟨rfl, rfl⟩
    go_wp2
    exact bodyPost_ret (v := .tuple #[.agg #[.int .u16 pkZero.id, .bool pkZero.more, .int .i64 pkZero.place, .int .i64 pkZero.proto, .int .u32 pkZero.src, .int .u32 pkZero.dst, .slice none 0 0], .int .i64 6]) (by simp [results, Try.results32, go_sem, pkZero]) rfl ⟨_, _, _, rfl, RdB.nilB _, ((below_self w).alloc (Nat.le_refl _) _).alloc (by simp) _⟩
  · skip
    have l0 : decide (n < L) = false := decide_eq_false (by omega)
    have l0b : (L : Int) ≤ (n : Int) := by omega
    have l1 : ((B0 : Int) != 69) = false := by rw [bne_eq_false_iff_eq]; exact t2
    have l2 : decide ((L : Int) < 20) = false := decide_eq_false (by omega)
    have l3 : decide ((32768 : Int) ≤ (Pl : Int)) = false := decide_eq_false (by omega)
    have l4 : ((ck : Int) != 0) = false := by rw [bne_eq_false_iff_eq]; omega
    have l5 : ((B8 : Int) == 0) = true := by rw [beq_iff_eq]; exact t6
    clear t1 t2 t3 t4 t5 t6
    go_enter Try.func32, Try.ntmps32
    go_wp2_with fail
    refine (HF2.out _ _ (by exact (hr.alloc _).alloc _) (by simp [go_sem])).mono ?_
    rintro e w1 ⟨rfl, rfl⟩
    go_wp2_with fail
    refine (HF6.out _ _ (by exact (hr.alloc _).alloc _) (by simp [go_sem])).mono ?_
    rintro e w1 ⟨rfl, rfl⟩
    go_wp2_with fail
    refine (HCK.out _ (by exact (hr.alloc _).alloc _)).mono ?_
    rintro e w1 ⟨rfl, rfl⟩
    go_wp2
    exact bodyPost_ret (v := .tuple #[.agg #[.int .u16 pkZero.id, .bool pkZero.more, .int .i64 pkZero.place, .int .i64 pkZero.proto, .int .u32 pkZero.src, .int .u32 pkZero.dst, .slice none 0 0], .int .i64 180]) (by simp [results, Try.results32, go_sem, pkZero]) rfl ⟨_, _, _, rfl, RdB.nilB _, ((below_self w).alloc (Nat.le_refl _) _).alloc (by simp) _⟩
end Go.Proofs.Ytieilgphcfiapaa
